/-
  What the rows of this claim stand on, part 5: the machine, the walks, the plain laws, as far as they are used.
  No condition.
-/
import Derived.Test.YtnahfbjdicjdpaaGreatDG4
import Derived.WalkKit
import Derived.ProofKit
import Derived.OpenShut
import Derived.ChangeOld
import Derived.Below
import Derived.SizedLaws
namespace Go.Proofs.YtnahfbjdicjdpaaGreat.Sym
open Go
set_option linter.unusedVariables false
set_option linter.unusedSimpArgs false

def OkAll (P : Program) (w : World) (r : Reach) (base : Nat) : List TypeId → List Value → Prop
  | [], [] => True
  | t :: ts, v :: vs => Cell.okWide P w r base t v ∧ OkAll P w r base ts vs
  | _, _ => False

theorem okAll_of {P : Program} {w : World} {r : Reach} {base : Nat} : ∀ {ts : List TypeId} {vs : List Value}, vs.length = ts.length → (∀ (i : Nat) v, vs[i]? = some v → ∃ u, ts[i]? = some u ∧ Cell.okWide P w r base u v) → OkAll P w r base ts vs
  | [], [], _, _ => trivial
  | t :: ts, v :: vs, hl, h => by
    refine ⟨?_, okAll_of (by simpa using hl) fun i v hv => ?_⟩
    · obtain ⟨u, h1, h2⟩ := h 0 v rfl
      cases h1
      exact h2
    · obtain ⟨u, h1, h2⟩ := h (i + 1) v (by simpa using hv)
      exact ⟨u, by simpa using h1, h2⟩
  | [], _ :: _, hl, _ => by simp at hl
  | _ :: _, [], hl, _ => by simp at hl

def isStruct (P : Program) (t : TypeId) : Bool := match P.underlying t with
  | some (.struct _) => true
  | _ => false

/-- A struct that is handed in: its cells, each of its type. -/
theorem open_struct {P : Program} {w : World} {r : Reach} {base : Nat} {t : TypeId} {v : Value} {ts : List TypeId} (hu : isStruct P t = true) (hc : P.cellTypes P.depth t = some ts) (hn : P.cellsOf t = ts.length) (h : Value.okWide P w r base t v) :
    ∃ vs : List Value, v = .agg vs.toArray ∧ OkAll P w r base ts vs := by
  have h : ∃ cs, v = .agg cs ∧ cs.size = P.cellsOf t ∧ Row.okWide P w r base t cs := by
    unfold isStruct at hu
    split at hu
    · rename_i fs hfs
      simpa only [Value.okWide, hfs] using h
    · cases hu
  obtain ⟨cs, rfl, h2, ts', h3, _, h5⟩ := h
  rw [hc] at h3
  cases h3
  refine ⟨cs.toList, by simp, okAll_of (by simp [h2, hn]) ?_⟩
  intro i v hv
  obtain ⟨u, h6, h7⟩ := h5 i v (by simpa using hv)
  have hlt : i < ts.length := by
    have := (List.getElem?_eq_some_iff.1 hv).1
    simp at this
    omega
  rw [Nat.mod_eq_of_lt hlt] at h6
  exact ⟨u, h6, h7⟩

theorem cell_int {P : Program} {w : World} {r : Reach} {base : Nat} {t : TypeId} {v : Value} {k : IntKind} (hu : P.underlying t = some (.int k)) (h : Cell.okWide P w r base t v) : ∃ n, v = .int k n := by
  simp only [Cell.okWide, hu] at h
  cases v <;> simp_all [Cell.ok]

theorem cell_bool {P : Program} {w : World} {r : Reach} {base : Nat} {t : TypeId} {v : Value} (hu : P.underlying t = some .bool) (h : Cell.okWide P w r base t v) : ∃ b, v = .bool b := by
  simp only [Cell.okWide, hu] at h
  cases v <;> simp_all [Cell.ok]

theorem cell_slice {P : Program} {w : World} {r : Reach} {base : Nat} {t e : TypeId} {v : Value} (hu : P.underlying t = some (.slice e)) (h : Cell.okWide P w r base t v) : ∃ a len cap, v = .slice a len cap := by
  simp only [Cell.okWide, hu] at h
  cases v <;> simp_all [Cell.ok]

theorem cells_ints {P : Program} {w : World} {r : Reach} {base : Nat} (hu : P.underlying 3 = some (.int .i64)) : ∀ {ts : List TypeId} {vs : List Value}, (ts.all fun t => t == 3) = true → OkAll P w r base ts vs → ∃ ns : List Int, ns.length = ts.length ∧ vs = ns.map (Value.int .i64)
  | [], [], _, _ => ⟨[], rfl, rfl⟩
  | t :: ts, v :: vs, ht, h => by
    simp only [List.all_cons, Bool.and_eq_true, beq_iff_eq] at ht
    obtain ⟨rfl, ht⟩ := ht
    obtain ⟨n, rfl⟩ := cell_int hu h.1
    obtain ⟨ns, h1, rfl⟩ := cells_ints hu ht h.2
    exact ⟨n :: ns, by simp [h1], rfl⟩
  | [], _ :: _, _, h => h.elim
  | _ :: _, [], _, h => h.elim

theorem list2 {α : Type} {l : List α} (h : l.length = 2) : ∃ a b, l = [a, b] := by
  match l, h with
  | [a, b], _ => exact ⟨a, b, rfl⟩
theorem list3 {α : Type} {l : List α} (h : l.length = 3) : ∃ a b c, l = [a, b, c] := by
  match l, h with
  | [a, b, c], _ => exact ⟨a, b, c, rfl⟩
theorem list4 {α : Type} {l : List α} (h : l.length = 4) : ∃ a b c d, l = [a, b, c, d] := by
  match l, h with
  | [a, b, c, d], _ => exact ⟨a, b, c, d, rfl⟩
theorem list12 {α : Type} {l : List α} (h : l.length = 12) : ∃ a b c d e f g h i j k m, l = [a, b, c, d, e, f, g, h, i, j, k, m] := by
  match l, h with
  | [a, b, c, d, e, f, g, h, i, j, k, m], _ => exact ⟨a, b, c, d, e, f, g, h, i, j, k, m, rfl⟩

/-- A law answers true, and what was there is as it was. -/
theorem law_ok {P : Program} {f : Nat} {fs : Fs} {args : List SV} {LL LL' : List Ent} {W : World} {env : Env} {us : List Value} (hf : FsOk P f fs) {p : Option Prop} (hev : fs.ev args LL = some (p, .bool true, LL')) (hp : ∀ q, p = some q → q)
    (hh : HRel (fun k => W.heap.size ≤ k) env (ofL LL) W) (hc : conc2s env (ofL LL) args us) : Calls P f us.toArray W fun e W' => e = .returned (.bool true) ∧ RowKit.Below W.heap.size W W' := by
  refine ((hf.sem args LL p _ LL' hev hp).run _ env W us hh (fun k h => h) hc).mono ?_
  rintro e W' ⟨v, env', rfl, _, _, hv, hfr⟩
  have := conc_bool hv
  subst this
  exact ⟨rfl, hfr.os, hfr.tape, hfr.output, hfr.size, fun k hk => hfr.blk k hk (by omega)⟩

theorem hrel_nil {wr : Nat → Prop} {env : Env} {w : World} : HRel wr env (ofL []) w :=
  ⟨fun j r b h => by simp [ofL] at h, fun i j ri bi rj bj _ h => by simp [ofL] at h, fun j b h => by simp [ofL] at h⟩

end Go.Proofs.YtnahfbjdicjdpaaGreat.Sym

namespace Go.Proofs.YtnahfbjdicjdpaaGreat.Sym
open Go
set_option linter.unusedVariables false
set_option linter.unusedSimpArgs false

/-- Cells of whole numbers and bools, of the kinds said. -/
def FlatV : List (Option IntKind) → List Value → Prop
  | [], [] => True
  | some k :: ks, .int k' n :: vs => k' = k ∧ (Lit.int k n).wf = true ∧ FlatV ks vs
  | none :: ks, .bool _ :: vs => FlatV ks vs
  | _, _ => False

theorem FlatV.length : ∀ {ks : List (Option IntKind)} {vs : List Value}, FlatV ks vs → vs.length = ks.length
  | [], [], _ => rfl
  | some k :: ks, .int k' n :: vs, h => by simp [FlatV.length h.2.2]
  | none :: ks, .bool b :: vs, h => by simp [FlatV.length (ks := ks) (vs := vs) h]

theorem FlatV.append : ∀ {k1 k2 : List (Option IntKind)} {v1 v2 : List Value}, FlatV k1 v1 → FlatV k2 v2 → FlatV (k1 ++ k2) (v1 ++ v2)
  | [], k2, [], v2, _, h => h
  | some k :: ks, k2, .int k' n :: vs, v2, h1, h2 => ⟨h1.1, h1.2.1, FlatV.append h1.2.2 h2⟩
  | none :: ks, k2, .bool b :: vs, v2, h1, h2 => FlatV.append (k1 := ks) (v1 := vs) h1 h2

section
variable {H : Type} {enc : TypeId × Value → H} {P : Program} {w : World} {base : Nat} {spare : Nat → Bool} {held : Bool}

theorem trod_flat : ∀ (d : Nat) (t : Nat) (ks : List (Option IntKind)), flatK P d t = some ks → ∀ (fuel : Nat) (cs : List Value) x, DataW.trod enc P w base spare held fuel t cs = some x →
    (∀ u, P.underlying t = some u → aggDesc u = true → P.cellsOf t = ks.length) → FlatV ks cs
  | 0, t, ks, hk, _, _, _, _, _ => by simp [flatK] at hk
  | d + 1, t, ks, hk, 0, cs, x, h, _ => by simp [DataW.trod] at h
  | d + 1, t, ks, hk, fuel + 1, cs, x, h, hC => by
    simp only [flatK] at hk
    split at hk
    · rename_i k hu
      cases hk
      simp only [DataW.trod, hu] at h
      split at h <;> simp_all [FlatV]
    · rename_i hu
      cases hk
      simp only [DataW.trod, hu] at h
      split at h <;> simp_all [FlatV]
    · rename_i fs hu
      split at hk
      · cases hk
      have hC := hC _ hu rfl
      simp only [DataW.trod, hu] at h
      split at h
      case isFalse => cases h
      rename_i hlen
      simp only [Option.map_eq_some_iff] at h
      obtain ⟨ys, hys, _⟩ := h
      have each : ∀ f ∈ fs.toList, ∃ y, DataW.trod enc P w base spare held fuel f.type ((cs.drop f.offset).take (P.cellsOf f.type)) = some y := fun f hf => by
        have hys' : List.mapM (fun f : Field => DataW.trod enc P w base spare held fuel f.type ((cs.drop f.offset).take (P.cellsOf f.type))) fs.toList = some ys := hys
        exact WideShapes.mapM_each hys' f hf
      have go : ∀ (l : List Field) (acc ks : List (Option IntKind)), (∀ f ∈ l, f ∈ fs.toList) → flatFs P (flatK P d) l acc = some ks → ks.length ≤ cs.length → FlatV acc (cs.take acc.length) → FlatV ks (cs.take ks.length) := by
        intro l
        induction l with
        | nil => intro acc ks _ h _ ha; cases h; exact ha
        | cons f r ih =>
          intro acc ks hm h hl ha
          simp only [flatFs] at h
          split at h
          case isFalse => cases h
          rename_i hcond
          split at h
          case h_2 => cases h
          rename_i kf hkf
          split at h
          case isFalse => cases h
          rename_i hsz
          have hmono : ∀ (l : List Field) (acc ks : List (Option IntKind)), flatFs P (flatK P d) l acc = some ks → acc.length ≤ ks.length := by
            intro l
            induction l with
            | nil => intro acc ks h; cases h; exact Nat.le_refl _
            | cons f r ih =>
              intro acc ks h
              simp only [flatFs] at h
              split at h
              case isFalse => cases h
              split at h
              case h_2 => cases h
              split at h
              case isFalse => cases h
              have := ih _ _ h
              simp at this
              omega
          have hm1 := hmono r _ _ h
          simp only [List.length_append] at hm1
          refine ih (acc ++ kf) ks (fun g hg => hm g (List.mem_cons_of_mem _ hg)) h hl ?_
          obtain ⟨y, hy⟩ := each f (hm f List.mem_cons_self)
          have hf := trod_flat d f.type kf hkf fuel _ y hy (fun _ _ _ => hsz.1)
          rw [List.length_append, List.take_add]
          refine ha.append ?_
          rw [← hcond.2, ← hsz.1]
          exact hf
      have := go fs.toList [] ks (fun f hf => hf) hk (by omega) trivial
      rwa [List.take_of_length_le (by omega)] at this
    · cases hk

/-- All whole numbers are of their kind's size. -/
def fits : SV → Bool
  | .int k n => (Lit.int k n).wf
  | _ => true

theorem flat_ints {k : IntKind} : ∀ {n : Nat} {cs : List Value}, FlatV (List.replicate n (some k)) cs → ∃ ns : List Int, ns.length = n ∧ cs = ns.map (Value.int k) ∧ ∀ m ∈ ns, (Lit.int k m).wf = true
  | 0, [], _ => ⟨[], rfl, rfl, fun m h => by cases h⟩
  | n + 1, .int k' m :: cs, h => by
    obtain ⟨rfl, h2, h3⟩ := h
    obtain ⟨ns, l, e, w⟩ := flat_ints (n := n) (cs := cs) h3
    refine ⟨m :: ns, by simp [l], by simp [e], ?_⟩
    intro q hq
    rcases List.mem_cons.1 hq with rfl | hq
    · exact h2
    · exact w q hq

theorem list1 {α : Type} {l : List α} (h : l.length = 1) : ∃ a, l = [a] := by
  match l, h with
  | [a], _ => exact ⟨a, rfl⟩
theorem list5 {α : Type} {l : List α} (h : l.length = 5) : ∃ a b c d e, l = [a, b, c, d, e] := by
  match l, h with
  | [a, b, c, d, e], _ => exact ⟨a, b, c, d, e, rfl⟩

theorem dec_flat (U : Ty) {cs : List Value} (h : FlatV (kindsOf (U.enc U.dft)) cs) : ∃ x : U.El, cs = (U.enc x).map svl ∧ ∀ c ∈ U.enc x, fits c = true := by
  cases U with
  | int =>
    obtain ⟨ns, l, rfl, w⟩ := flat_ints (k := .i64) (n := 1) h
    obtain ⟨a, rfl⟩ := list1 l
    exact ⟨a, rfl, by simpa [Ty.enc, fits] using w⟩
  | byte =>
    obtain ⟨ns, l, rfl, w⟩ := flat_ints (k := .u8) (n := 1) h
    obtain ⟨a, rfl⟩ := list1 l
    exact ⟨a, rfl, by simpa [Ty.enc, fits] using w⟩
  | bool =>
    match cs, h with
    | [.bool b], _ => exact ⟨b, rfl, by simp [Ty.enc, fits]⟩
  | vec =>
    obtain ⟨ns, l, rfl, w⟩ := flat_ints (k := .i64) (n := 2) h
    obtain ⟨a, b, rfl⟩ := list2 l
    exact ⟨⟨a, b⟩, rfl, by simpa [Ty.enc, fits] using w⟩
  | item =>
    obtain ⟨ns, l, rfl, w⟩ := flat_ints (k := .i64) (n := 5) h
    obtain ⟨a, b, c, d, e, rfl⟩ := list5 l
    exact ⟨⟨a, ⟨⟨b, c⟩, ⟨d, e⟩⟩⟩, rfl, by simpa [Ty.enc, fits] using w⟩
  | pair =>
    obtain ⟨ns, l, rfl, w⟩ := flat_ints (k := .i64) (n := 2) h
    obtain ⟨a, b, rfl⟩ := list2 l
    exact ⟨⟨a, b⟩, rfl, by simpa [Ty.enc, fits] using w⟩
  | hit =>
    obtain ⟨ns, l, rfl, w⟩ := flat_ints (k := .i64) (n := 3) h
    obtain ⟨a, b, c, rfl⟩ := list3 l
    exact ⟨⟨⟨a, b⟩, c⟩, rfl, by simpa [Ty.enc, fits] using w⟩
  | contact =>
    obtain ⟨ns, l, rfl, w⟩ := flat_ints (k := .i64) (n := 5) h
    obtain ⟨a, b, c, d, e, rfl⟩ := list5 l
    exact ⟨⟨a, b, ⟨⟨c, d⟩, e⟩⟩, rfl, by simpa [Ty.enc, fits] using w⟩
  | event =>
    match cs, h with
    | .bool b :: cs, h =>
      obtain ⟨ns, l, rfl, w⟩ := flat_ints (k := .i64) (n := 2) (cs := cs) h
      obtain ⟨c, d, rfl⟩ := list2 l
      exact ⟨⟨b, ⟨c, d⟩⟩, rfl, by simpa [Ty.enc, fits] using w⟩
  | body =>
    obtain ⟨ns, l, rfl, w⟩ := flat_ints (k := .i64) (n := 12) h
    obtain ⟨a, b, c, d, e, f, g, q, i, j, k, m, rfl⟩ := list12 l
    exact ⟨⟨a, ⟨b, c, d⟩, ⟨e, f⟩, ⟨g, q⟩, i, j, k, m⟩, rfl, by simpa [Ty.enc, fits] using w⟩

theorem pick_list {α : Type} {p : Nat → α → Prop} : ∀ n, (∀ e, e < n → ∃ x, p e x) → ∃ xs : List α, xs.length = n ∧ ∀ e x, xs[e]? = some x → p e x
  | 0, _ => ⟨[], rfl, fun e x h => by simp at h⟩
  | n + 1, h => by
    obtain ⟨xs, l, q⟩ := pick_list n fun e he => h e (by omega)
    obtain ⟨x, hx⟩ := h n (by omega)
    refine ⟨xs ++ [x], by simp [l], ?_⟩
    intro e y hy
    rcases Nat.lt_trichotomy e xs.length with he | he | he
    · rw [List.getElem?_append_left he] at hy
      exact q e y hy
    · subst he
      simp at hy
      subst hy
      rw [l]
      exact hx
    · rw [List.getElem?_eq_none (by simp; omega)] at hy
      cases hy

theorem add_off (a : Addr) (m n : Nat) : (a.add m).add n = a.add (m + n) := by
  unfold Addr.add
  by_cases hm : m = 0 <;> by_cases hn : n = 0 <;> simp [hm, hn, Nat.add_assoc]

/-- A list that is handed in. -/
theorem open_list {U : Ty} {t e : Nat} {a : Option Addr} {len cap : Nat} {d : DataW H} {ps : List MemPlace} (hu : P.underlying t = some (.slice e)) (hk : flatK P 6 e = some (kindsOf (U.enc U.dft))) (hc : P.cellsOf e = U.sz)
    (h : DataW.Trod enc P w 0 (fun _ => true) held t (.slice a len cap) d ps) :
    ∃ xs : List U.El, xs.length = len ∧ (∀ x ∈ xs, ∀ c ∈ U.enc x, fits c = true) ∧ len ≤ maxLen ∧ ∀ (wr : Nat → Prop) (env : Env) (Hp : Hp) j, env j = (a, cap) → blkRel env Hp j false (.vec U xs) w := by
  obtain ⟨fuel, h⟩ := h
  cases fuel with
  | zero => simp [DataW.trod] at h
  | succ fuel =>
  have hcs : (Value.slice a len cap).cells.toList = [Value.slice a len cap] := rfl
  rw [hcs] at h
  have hkl : (kindsOf (U.enc U.dft)).length = U.sz := by cases U <;> rfl
  cases a with
  | none =>
    have : len = 0 ∧ cap = 0 := by
      cases len <;> cases cap <;> simp [DataW.trod, hu] at h <;> simp
    obtain ⟨rfl, rfl⟩ := this
    refine ⟨[], rfl, fun x hx => (by cases hx), Nat.zero_le _, ?_⟩
    intro wr env Hp j he
    exact ⟨by simp, .inl (by simp [he])⟩
  | some a =>
    simp only [DataW.trod, hu] at h
    split at h
    case isFalse => cases h
    rename_i hcond
    obtain ⟨_, hlc, hcm⟩ := hcond
    simp only [if_true, Option.bind_eq_some_iff, Option.map_eq_some_iff] at h
    obtain ⟨elems, h1, rest, h2, _⟩ := h
    have cells : ∀ k, k < cap → ∃ cs : List Value, w.cells? 0 (a.add (k * P.cellsOf e)) (P.cellsOf e) = some cs ∧ FlatV (kindsOf (U.enc U.dft)) cs := by
      intro k hk'
      have : ∃ y, (w.cells? 0 (a.add (k * P.cellsOf e)) (P.cellsOf e)).bind (DataW.trod enc P w 0 (fun _ => true) held fuel e) = some y := by
        by_cases hkl : k < len
        · have h1' : List.mapM (fun i : Nat => (w.cells? 0 (a.add (i * P.cellsOf e)) (P.cellsOf e)).bind (DataW.trod enc P w 0 (fun _ => true) held fuel e)) (List.range len) = some elems := h1
          exact WideShapes.mapM_each h1' k (by simp [hkl])
        · have h2' : List.mapM (fun i : Nat => (w.cells? 0 (a.add ((len + i) * P.cellsOf e)) (P.cellsOf e)).bind (DataW.trod enc P w 0 (fun _ => true) held fuel e)) (List.range (cap - len)) = some rest := h2
          obtain ⟨y, hy⟩ := WideShapes.mapM_each h2' (k - len) (by simp; omega)
          rw [show len + (k - len) = k by omega] at hy
          exact ⟨y, hy⟩
      obtain ⟨y, hy⟩ := this
      simp only [Option.bind_eq_some_iff] at hy
      obtain ⟨cs, hcs, hy⟩ := hy
      exact ⟨cs, hcs, trod_flat 6 e _ hk fuel cs y hy fun _ _ _ => by rw [hc, hkl]⟩
    have cellAt : ∀ k, k < cap → ∃ x : U.El, (∀ c ∈ U.enc x, fits c = true) ∧ ∀ o, o < U.sz → w.cell? (a.add (k * U.sz + o)) = some (svl ((U.enc x).getD o .any)) := by
      intro k hk'
      obtain ⟨cs, hcs, hfl⟩ := cells k hk'
      obtain ⟨x, rfl, hfit⟩ := dec_flat U hfl
      refine ⟨x, hfit, ?_⟩
      intro o ho
      unfold World.cells? at hcs
      split at hcs
      case isFalse => cases hcs
      rw [hc] at hcs
      have h3 := mapM_some_get hcs o o (by simp [ho])
      rw [← add_off, h3]
      have hl := enc_length U x
      rw [List.getElem?_map, List.getD_eq_getElem?_getD, List.getElem?_eq_getElem (by omega)]
      rfl
    obtain ⟨xs, hxl, hxs⟩ := pick_list (p := fun k (x : U.El) => (∀ c ∈ U.enc x, fits c = true) ∧ ∀ o, o < U.sz → w.cell? (a.add (k * U.sz + o)) = some (svl ((U.enc x).getD o .any))) len (fun k hk' => cellAt k (by omega))
    refine ⟨xs, hxl, ?_, by omega, ?_⟩
    · intro x hx
      obtain ⟨k, hk', rfl⟩ := List.getElem_of_mem hx
      exact (hxs k _ (List.getElem?_eq_getElem hk')).1
    · intro wr env Hp j he
      refine ⟨by rw [he, hxl]; exact hlc, ?_⟩
      by_cases hz : cap = 0
      · exact .inl (by rw [he]; exact hz)
      right
      have pos := sz_pos U
      -- a cell that there is
      have cell : ∀ q, q < cap * U.sz → ∃ v, w.cell? (a.add q) = some v := by
        intro q hq
        have hq1 : q / U.sz < cap := by
          rw [Nat.div_lt_iff_lt_mul pos]
          exact hq
        obtain ⟨x, _, hx⟩ := cellAt (q / U.sz) hq1
        have := hx (q % U.sz) (Nat.mod_lt _ pos)
        rw [show q / U.sz * U.sz + q % U.sz = q by rw [Nat.mul_comm]; exact Nat.div_add_mod q U.sz] at this
        exact ⟨_, this⟩
      have cpos : 0 < cap * U.sz := Nat.mul_pos (by omega) pos
      obtain ⟨b, off, spot⟩ := a
      have spotNone : spot = none := by
        obtain ⟨v, hv⟩ := cell 0 cpos
        cases spot with
        | none => rfl
        | some s =>
          exfalso
          simp only [World.cell?, Addr.add] at hv
          split at hv <;> simp_all
      subst spotNone
      simp only [add_addr] at cell hxs
      obtain ⟨v, hv⟩ := cell 0 cpos
      simp only [World.cell?] at hv
      split at hv
      case h_2 => cases hv
      rename_i vs E0 fz hheap
      refine ⟨b, off, E0, vs, fz, by rw [he], hheap, ?_, ?_, fun q => by cases q⟩
      · rw [he]
        obtain ⟨v2, hv2⟩ := cell (cap * U.sz - 1) (by omega)
        rw [cell_of hheap] at hv2
        have := (Array.getElem?_eq_some_iff.1 hv2).1
        simp only
        omega
      · intro k hk' o ho
        obtain ⟨_, hx⟩ := hxs k _ (List.getElem?_eq_getElem hk')
        have := hx o ho
        rw [cell_of hheap] at this
        rw [Nat.add_assoc, this]
        simp [Ty.ix, List.getD, hk']

/-- A field of a struct: its type, its offset, its cells. -/
def fieldOf (P : Program) (t i : Nat) : Option (Nat × Nat × Nat) := match P.underlying t with
  | some (.struct fs) => (fs[i]?).map fun f => (f.type, f.offset, P.cellsOf f.type)
  | _ => none

theorem open_field {t i ft off : Nat} {cs : Array Value} {v : Value} {d : DataW H} {ps : List MemPlace} (hf : fieldOf P t i = some (ft, off, 1)) (h : DataW.Trod enc P w base spare held t (.agg cs) d ps) (hv : cs.toList[off]? = some v) (h1 : v.oneCell' = true) :
    ∃ d' ps', DataW.Trod enc P w base spare held ft v d' ps' := by
  unfold fieldOf at hf
  split at hf
  case h_2 => cases hf
  rename_i fs hu
  simp only [Option.map_eq_some_iff, Prod.mk.injEq] at hf
  obtain ⟨f, hfi, rfl, rfl, hsz⟩ := hf
  obtain ⟨fuel, h⟩ := h
  cases fuel with
  | zero => simp [DataW.trod] at h
  | succ fuel =>
  have hcs : (Value.agg cs).cells.toList = cs.toList := rfl
  rw [hcs] at h
  simp only [DataW.trod, hu] at h
  split at h
  case isFalse => cases h
  simp only [Option.map_eq_some_iff] at h
  obtain ⟨ys, hys, _⟩ := h
  have hys' : List.mapM (fun f : Field => DataW.trod enc P w base spare held fuel f.type ((cs.toList.drop f.offset).take (P.cellsOf f.type))) fs.toList = some ys := hys
  obtain ⟨y, hy⟩ := WideShapes.mapM_each hys' f (by
    have := Array.mem_of_getElem? hfi
    simpa using this)
  refine ⟨y.1, y.2, fuel, ?_⟩
  rw [hsz] at hy
  have e : (cs.toList.drop f.offset).take 1 = [v] := by
    obtain ⟨hlt, hvv⟩ := List.getElem?_eq_some_iff.1 hv
    rw [List.drop_eq_getElem_cons hlt, hvv]
    rfl
  have e2 : v.cells.toList = [v] := by cases v <;> first | rfl | cases h1
  rw [e2, ← e]
  exact hy

def fieldTy (P : Program) (t i : Nat) : Nat := match fieldOf P t i with
  | some (ft, _, _) => ft
  | none => 0
def elemTy (P : Program) (t : Nat) : Nat := match P.underlying t with
  | some (.slice e) => e
  | _ => 0

end

/-- One list that may only be read. -/
theorem hrel_one {U : Ty} {xs : List U.El} {wr : Nat → Prop} {env : Env} {w : World} (h : ∀ Hp : Hp, blkRel env Hp 0 false (.vec U xs) w) : HRel wr env (ofL [(false, .vec U xs)]) w := by
  have only : ∀ (j : Nat) r b, ofL [(false, Blk.vec U xs)] j = some (r, b) → j = 0 ∧ r = false ∧ b = .vec U xs := by
    intro j r b hj
    cases j with
    | zero => simp only [ofL, List.getElem?_cons_zero, Option.some.injEq, Prod.mk.injEq] at hj; exact ⟨rfl, hj.1.symm, hj.2.symm⟩
    | succ j => simp [ofL] at hj
  refine ⟨?_, ?_, ?_⟩
  · intro j r b hj
    obtain ⟨rfl, rfl, rfl⟩ := only j r b hj
    exact h _
  · intro i j ri bi rj bj hij hi hj
    exact absurd ((only i ri bi hi).1.trans (only j rj bj hj).1.symm) hij
  · intro j b hj
    obtain ⟨_, h2, _⟩ := only j true b hj
    cases h2

/-- Lists that may only be read. -/
theorem hrel_ro {L : List Ent} {wr : Nat → Prop} {env : Env} {w : World} (h : ∀ (j : Nat) r b, L[j]? = some (r, b) → r = false ∧ ∀ Hp : Hp, blkRel env Hp j false b w) : HRel wr env (ofL L) w := by
  refine ⟨?_, ?_, ?_⟩
  · intro j r b hj
    obtain ⟨rfl, h2⟩ := h j r b hj
    exact h2 _
  · intro i j ri bi rj bj hij hi hj hr
    have h1 := (h i ri bi hi).1
    have h2 := (h j rj bj hj).1
    subst h1 h2
    rcases hr with hr | hr <;> cases hr
  · intro j b hj
    have := (h j true b hj).1
    cases this

/-- A list as it may come in: not too long, its numbers of their kinds' sizes. -/
def LOk (T : Ty) (xs : List T.El) : Prop := xs.length ≤ 9223372036854775807 ∧ ∀ x ∈ xs, ∀ c ∈ T.enc x, fits c = true

theorem okAll_cons {P : Program} {w : World} {r : Reach} {base : Nat} {t : TypeId} {ts : List TypeId} {vs : List Value} (h : OkAll P w r base (t :: ts) vs) : ∃ v vs', vs = v :: vs' ∧ Cell.okWide P w r base t v ∧ OkAll P w r base ts vs' := by
  cases vs with
  | nil => exact h.elim
  | cons v vs' => exact ⟨v, vs', rfl, h.1, h.2⟩
theorem okAll_nil {P : Program} {w : World} {r : Reach} {base : Nat} {vs : List Value} (h : OkAll P w r base [] vs) : vs = [] := by
  cases vs with
  | nil => rfl
  | cons v vs' => exact h.elim

end Go.Proofs.YtnahfbjdicjdpaaGreat.Sym

namespace Go.Proofs.YtnahfbjdicjdpaaGreat.Sym
open Go
set_option linter.unusedVariables false
set_option linter.unusedSimpArgs false
set_option maxRecDepth 100000

/-- Are two things the same? -/
noncomputable def same {α : Type} (a b : α) : Bool := @decide (a = b) (Classical.propDecidable _)
@[simp] theorem same_self {α : Type} (a : α) : same a a = true := by simp [same]
theorem same_ff {α : Type} {a b : α} (h : a ≠ b) : same a b = false := by simp [same, h]
theorem ix_get {T : Ty} {xs : List T.El} {i : Nat} (h : i < xs.length) : xs[i]? = some (T.ix xs i) := by
  simp [Ty.ix, List.getD, h]
theorem ix_eq {T : Ty} {xs : List T.El} {i : Nat} {x : T.El} (h : xs[i]? = some x) : T.ix xs i = x := by
  simp [Ty.ix, List.getD, h]
theorem ix_set_self {T : Ty} {xs : List T.El} {i : Nat} {x : T.El} (h : i < xs.length) : T.ix (xs.set i x) i = x := by
  simp [Ty.ix, List.getD, h]
theorem ix_set_ne {T : Ty} {xs : List T.El} {i j : Nat} {x : T.El} (h : i ≠ j) : T.ix (xs.set i x) j = T.ix xs j := by
  simp [Ty.ix, List.getD, h]
theorem take_succ_eq {T : Ty} {xs ys : List T.El} {i : Nat} (hi : i < xs.length) (hj : i < ys.length) (h : xs.take i = ys.take i) (e : T.ix xs i = T.ix ys i) : xs.take (i + 1) = ys.take (i + 1) := by
  apply List.ext_getElem?
  intro j
  simp only [List.getElem?_take]
  split
  · by_cases hji : j = i
    · subst hji
      rw [ix_get (T := T) hi, ix_get (T := T) hj, e]
    · have := congrArg (fun l => l[j]?) h
      simpa [List.getElem?_take, show j < i by omega] using this
  · rfl
theorem eq_of_take {α : Type} {xs ys : List α} {i : Nat} (hx : xs.length ≤ i) (hy : ys.length ≤ i) (h : xs.take i = ys.take i) : xs = ys := by
  rwa [List.take_of_length_le hx, List.take_of_length_le hy] at h
/-- The first of f, then those of xs. -/
def fill {α : Type} (f : Nat → α) (xs : List α) (i : Nat) : List α := (List.range i).map f ++ xs.drop i
def gen {α : Type} (f : Nat → α) (n : Nat) : List α := (List.range n).map f
@[simp] theorem length_gen {α : Type} (f : Nat → α) (n : Nat) : (gen f n).length = n := by simp [gen]
theorem fill_zero {α : Type} (f : Nat → α) (xs : List α) : fill f xs 0 = xs := by simp [fill]
theorem fill_end {α : Type} (f : Nat → α) (xs : List α) {i : Nat} (h : i = xs.length) : fill f xs i = gen f xs.length := by subst h; simp [fill, gen]
theorem length_fill {α : Type} (f : Nat → α) (xs : List α) {i : Nat} (h : i ≤ xs.length) : (fill f xs i).length = xs.length := by simp [fill]; omega
theorem fill_step {α : Type} (f : Nat → α) (xs : List α) {i : Nat} (h : i < xs.length) : (fill f xs i).set i (f i) = fill f xs (i + 1) := by
  unfold fill
  rw [List.set_append_right _ _ (by simp)]
  simp only [List.length_map, List.length_range, Nat.sub_self]
  rw [List.drop_eq_getElem_cons h, List.set_cons_zero, List.range_succ, List.map_append, List.append_assoc]
  rfl
theorem ix_gen {T : Ty} {f : Nat → T.El} {n i : Nat} (h : i < n) : T.ix (gen f n) i = f i := ix_eq (by simp [gen, h])
theorem gen_ix {T : Ty} (xs : List T.El) : gen (fun e => T.ix xs e) xs.length = xs := by
  apply List.ext_getElem?
  intro j
  by_cases h : j < xs.length
  · rw [ix_get (T := T) h]
    simp [gen, h]
  · rw [List.getElem?_eq_none (by simpa using h), List.getElem?_eq_none (by simpa using h)]
theorem length_setC {T : Ty} {xs : List T.El} {e o : Nat} {vs : List SV} : (setC T xs e o vs).length = xs.length := by
  unfold setC
  split <;> simp

theorem length_setC_body (xs : List Body) (e o : Nat) (vs : List SV) : List.length (α := Body) (setC .body xs e o vs) = xs.length := length_setC (T := .body)
theorem ix_set_self_body (xs : List Body) {i : Nat} (x : Body) (h : i < xs.length) : Ty.ix .body (xs.set i x) i = x := ix_set_self (T := .body) h
theorem eqPair_iff (u v : Pair) : (u.A = v.A ∧ u.B = v.B) ↔ u = v := by
  constructor
  · intro q
    obtain ⟨a, b⟩ := u
    obtain ⟨a, b⟩ := v
    simp_all
  · rintro rfl
    simp
def LSlawsPqPairs (xs : List Pair) (ys : List Pair) : LS where
  S := List Pair × List Pair × Unit × Unit × Int
  live := [(0, [none]), (1, [none]), (5, [none])]
  shape := fun s => ([.vec 0, .vec 1, .int .i64 s.2.2.2.2], [(false, .vec .pair s.1), (false, .vec .pair s.2.1)])
  get := fun v h => match v, h with
    | [.vec 0, .vec 1, .int .i64 i], [(false, .vec .pair xs'), (false, .vec .pair ys')] => some (xs', ys', (), (), i)
    | _, _ => none
  inv := fun s0 s => Holds (s.1 = xs ∧ s.2.1 = ys ∧ 0 ≤ s.2.2.2.2 ∧ s.2.2.2.2 ≤ xs.length ∧ xs.take s.2.2.2.2.toNat = ys.take s.2.2.2.2.toNat)
  mu := fun s => ((xs.length : Int) - s.2.2.2.2).toNat
  ok := by
    intro v h s hg
    try dsimp only at hg
    split at hg <;> cases hg
    rfl

def L_lawsPqPairs (xs ys : List Pair) : Loops := fun n => match n with
  | 4 => some (LSlawsPqPairs xs ys)
  | _ => none
noncomputable def fs_lawsPqPairs : Fs := ⟨[], fun args H => match args, H with
  | [.vec 0, .vec 1], [(false, .vec .pair xs), (false, .vec .pair ys)] => some ((some (xs.length ≤ 4611686018427387904)), .bool (same xs ys), [(false, .vec .pair xs), (false, .vec .pair ys)])
  | _, _ => none⟩

theorem vc_lawsPqPairs (xs : List Pair) (ys : List Pair) (Q : SV → List Ent → Prop) :
    fnVC tt (look []) (L_lawsPqPairs xs ys) Tryz.f37 [.vec 0, .vec 1] [(false, .vec .pair xs), (false, .vec .pair ys)] Q =
    (ifB ((↑(List.length xs) : Int) != (↑(List.length ys) : Int)) (Q (SV.bool false) [(false, Blk.vec Ty.pair xs), (false, Blk.vec Ty.pair ys)]) (Holds (xs = xs ∧ ys = ys ∧ (0 : Int) ≤ (0 : Int) ∧ (0 : Int) ≤ (↑(List.length xs) : Int) ∧ List.take (Int.toNat (0 : Int)) xs = List.take (Int.toNat (0 : Int)) ys) ∧ ∀ (x : List Pair × List Pair × Unit × Unit × Int), Holds (Prod.fst x = xs ∧ Prod.fst (Prod.snd x) = ys ∧ (0 : Int) ≤ Prod.snd (Prod.snd (Prod.snd (Prod.snd x))) ∧ Prod.snd (Prod.snd (Prod.snd (Prod.snd x))) ≤ (↑(List.length xs) : Int) ∧ List.take (Int.toNat (Prod.snd (Prod.snd (Prod.snd (Prod.snd x))))) xs = List.take (Int.toNat (Prod.snd (Prod.snd (Prod.snd (Prod.snd x))))) ys) → ifB (decide (Prod.snd (Prod.snd (Prod.snd (Prod.snd x))) < (↑(List.length (Prod.fst x)) : Int))) (((0 : Int) ≤ Prod.snd (Prod.snd (Prod.snd (Prod.snd x))) ∧ Prod.snd (Prod.snd (Prod.snd (Prod.snd x))) < (↑(List.length (Prod.fst x)) : Int)) ∧ ((0 : Int) ≤ Prod.snd (Prod.snd (Prod.snd (Prod.snd x))) ∧ Prod.snd (Prod.snd (Prod.snd (Prod.snd x))) < (↑(List.length (Prod.fst (Prod.snd x))) : Int)) ∧ ifB (!(Pair.A (Ty.ix Ty.pair (Prod.fst x) (Int.toNat (Prod.snd (Prod.snd (Prod.snd (Prod.snd x)))))) == Pair.A (Ty.ix Ty.pair (Prod.fst (Prod.snd x)) (Int.toNat (Prod.snd (Prod.snd (Prod.snd (Prod.snd x)))))) && Pair.B (Ty.ix Ty.pair (Prod.fst x) (Int.toNat (Prod.snd (Prod.snd (Prod.snd (Prod.snd x)))))) == Pair.B (Ty.ix Ty.pair (Prod.fst (Prod.snd x)) (Int.toNat (Prod.snd (Prod.snd (Prod.snd (Prod.snd x)))))))) (Q (SV.bool false) [(false, Blk.vec Ty.pair (Prod.fst x)), (false, Blk.vec Ty.pair (Prod.fst (Prod.snd x)))]) (Holds (Prod.fst x = xs ∧ Prod.fst (Prod.snd x) = ys ∧ (0 : Int) ≤ IntKind.wrap IntKind.i64 (Prod.snd (Prod.snd (Prod.snd (Prod.snd x))) + (1 : Int)) ∧ IntKind.wrap IntKind.i64 (Prod.snd (Prod.snd (Prod.snd (Prod.snd x))) + (1 : Int)) ≤ (↑(List.length xs) : Int) ∧ List.take (Int.toNat (IntKind.wrap IntKind.i64 (Prod.snd (Prod.snd (Prod.snd (Prod.snd x))) + (1 : Int)))) xs = List.take (Int.toNat (IntKind.wrap IntKind.i64 (Prod.snd (Prod.snd (Prod.snd (Prod.snd x))) + (1 : Int)))) ys) ∧ Int.toNat ((↑(List.length xs) : Int) - IntKind.wrap IntKind.i64 (Prod.snd (Prod.snd (Prod.snd (Prod.snd x))) + (1 : Int))) < Int.toNat ((↑(List.length xs) : Int) - Prod.snd (Prod.snd (Prod.snd (Prod.snd x)))))) (Q (SV.bool true) [(false, Blk.vec Ty.pair (Prod.fst x)), (false, Blk.vec Ty.pair (Prod.fst (Prod.snd x)))]))) := by kernel_rfl

theorem ok_lawsPqPairs : FsOk Tryz.prog 37 fs_lawsPqPairs := fsOk_of tt_ok tabFs_nil mixed Tryz.func37 (by kernel_rfl) (by kernel_rfl) (by
    intro args LL p r HH h hp
    unfold fs_lawsPqPairs at h
    dsimp only at h
    split at h
    case h_2 => cases h
    rename_i xs ys
    simp only [Option.some.injEq, Prod.mk.injEq] at h
    obtain ⟨rfl, rfl, rfl⟩ := h
    refine ⟨by simp [Form, stays], (L_lawsPqPairs xs ys), ?_⟩
    rw [vc_lawsPqPairs]
    try dsimp only

    have hb := hp _ rfl
    refine ifB_of (fun c => ?_) (fun c => ?_)
    · have c : (xs.length : Int) ≠ ys.length := by simpa using c
      rw [same_ff (fun e => c (by rw [e]))]
      exact ⟨rfl, rfl⟩
    have hl : xs.length = ys.length := by
      have : (xs.length : Int) = ys.length := by simpa using c
      omega
    refine ⟨⟨rfl, rfl, by omega, by omega, rfl⟩, ?_⟩
    rintro ⟨xs', ys', u, v, i⟩ ⟨h⟩
    obtain ⟨rfl, rfl, h0, h1, h3⟩ := h
    dsimp only at hb hl h0 h1 h3 ⊢
    refine ifB_of (fun c => ?_) (fun c => ?_)
    · have hi : i < xs'.length := of_decide_eq_true c
      have hw : IntKind.i64.wrap (i + 1) = i + 1 := wrap_small (by omega) (by omega)
      rw [hw]
      refine ⟨⟨h0, hi⟩, ⟨h0, by omega⟩, ?_⟩
      refine ifB_of (fun c => ?_) (fun c => ?_)
      · have c : Ty.ix .pair xs' i.toNat ≠ Ty.ix .pair ys' i.toNat := by intro e; rw [e] at c; simp at c
        rw [same_ff (fun e => c (by rw [e]))]
        exact ⟨rfl, rfl⟩
      · have c : Ty.ix .pair xs' i.toNat = Ty.ix .pair ys' i.toNat := by simpa [eqPair_iff] using c
        have e1 : (i + 1).toNat = i.toNat + 1 := by omega
        refine ⟨⟨rfl, rfl, by omega, by omega, ?_⟩, by omega⟩
        rw [e1]
        exact take_succ_eq (T := .pair) (by omega) (by omega) h3 c
    · have hi : ¬ i < xs'.length := of_decide_eq_false c
      have : xs' = ys' := eq_of_take (by omega) (by omega) h3
      subst this
      rw [same_self]
      exact ⟨rfl, rfl⟩)

theorem eqBody_iff (u v : Body) : (u.Id = v.Id ∧ u.Shape.Kind = v.Shape.Kind ∧ u.Shape.Wide = v.Shape.Wide ∧ u.Shape.High = v.Shape.High ∧ u.At.X = v.At.X ∧ u.At.Y = v.At.Y ∧ u.Drive.X = v.Drive.X ∧ u.Drive.Y = v.Drive.Y ∧ u.Mass = v.Mass ∧ u.Bounce = v.Bounce ∧ u.Rub = v.Rub ∧ u.Quiet = v.Quiet) ↔ u = v := by
  constructor
  · intro q
    obtain ⟨a, ⟨b, c, d⟩, ⟨e, f⟩, ⟨g, h⟩, i, j, k, l⟩ := u
    obtain ⟨a, ⟨b, c, d⟩, ⟨e, f⟩, ⟨g, h⟩, i, j, k, l⟩ := v
    simp_all
  · rintro rfl
    simp
def LSlawsPqBodies (xs : List Body) (ys : List Body) : LS where
  S := List Body × List Body × Unit × Unit × Int
  live := [(0, [none]), (1, [none]), (5, [none])]
  shape := fun s => ([.vec 0, .vec 1, .int .i64 s.2.2.2.2], [(false, .vec .body s.1), (false, .vec .body s.2.1)])
  get := fun v h => match v, h with
    | [.vec 0, .vec 1, .int .i64 i], [(false, .vec .body xs'), (false, .vec .body ys')] => some (xs', ys', (), (), i)
    | _, _ => none
  inv := fun s0 s => Holds (s.1 = xs ∧ s.2.1 = ys ∧ 0 ≤ s.2.2.2.2 ∧ s.2.2.2.2 ≤ xs.length ∧ xs.take s.2.2.2.2.toNat = ys.take s.2.2.2.2.toNat)
  mu := fun s => ((xs.length : Int) - s.2.2.2.2).toNat
  ok := by
    intro v h s hg
    try dsimp only at hg
    split at hg <;> cases hg
    rfl

def L_lawsPqBodies (xs ys : List Body) : Loops := fun n => match n with
  | 4 => some (LSlawsPqBodies xs ys)
  | _ => none
noncomputable def fs_lawsPqBodies : Fs := ⟨[], fun args H => match args, H with
  | [.vec 0, .vec 1], [(false, .vec .body xs), (false, .vec .body ys)] => some ((some (xs.length ≤ 4611686018427387904)), .bool (same xs ys), [(false, .vec .body xs), (false, .vec .body ys)])
  | _, _ => none⟩

theorem vc_lawsPqBodies (xs : List Body) (ys : List Body) (Q : SV → List Ent → Prop) :
    fnVC tt (look []) (L_lawsPqBodies xs ys) Tryz.f17 [.vec 0, .vec 1] [(false, .vec .body xs), (false, .vec .body ys)] Q =
    (let w_ := IntKind.wrap IntKind.i64; let n_ := Int.toNat; let vb_ := Blk.vec Ty.body; ifB ((↑(List.length xs) : Int) != (↑(List.length ys) : Int)) (Q (SV.bool false) [(false, vb_ xs), (false, vb_ ys)]) (Holds (xs = xs ∧ ys = ys ∧ (0 : Int) ≤ (0 : Int) ∧ (0 : Int) ≤ (↑(List.length xs) : Int) ∧ List.take (n_ (0 : Int)) xs = List.take (n_ (0 : Int)) ys) ∧ ∀ (y1 : List Body × List Body × Unit × Unit × Int), let y1f0_ := Prod.fst y1; let y1s1_ := Prod.snd y1; let y1f1_ := Prod.fst (Prod.snd y1); let y1s3_ := Prod.snd (Prod.snd (Prod.snd y1)); let y1s4_ := Prod.snd (Prod.snd (Prod.snd (Prod.snd y1))); let A4_ := (Prod.snd y1s3_ + (1 : Int)); let A3_ := (Ty.ix Ty.body y1f1_ (n_ y1s4_)); let A2_ := (Ty.ix Ty.body y1f0_ (n_ y1s4_)); Holds (Prod.fst y1 = xs ∧ y1f1_ = ys ∧ (0 : Int) ≤ y1s4_ ∧ y1s4_ ≤ (↑(List.length xs) : Int) ∧ List.take (n_ y1s4_) xs = List.take (n_ y1s4_) ys) → ifB (decide (Prod.snd y1s3_ < (↑(List.length y1f0_) : Int))) (((0 : Int) ≤ y1s4_ ∧ y1s4_ < (↑(List.length y1f0_) : Int)) ∧ ((0 : Int) ≤ y1s4_ ∧ y1s4_ < (↑(List.length y1f1_) : Int)) ∧ ifB (!(Body.Id A2_ == Body.Id A3_ && (Shape.Kind (Body.Shape A2_) == Shape.Kind (Body.Shape A3_) && (Shape.Wide (Body.Shape A2_) == Shape.Wide (Body.Shape A3_) && (Shape.High (Body.Shape A2_) == Shape.High (Body.Shape A3_) && (Vec.X (Body.At A2_) == Vec.X (Body.At A3_) && (Vec.Y (Body.At A2_) == Vec.Y (Body.At A3_) && (Vec.X (Body.Drive A2_) == Vec.X (Body.Drive A3_) && (Vec.Y (Body.Drive A2_) == Vec.Y (Body.Drive A3_) && (Body.Mass A2_ == Body.Mass A3_ && (Body.Bounce A2_ == Body.Bounce A3_ && (Body.Rub A2_ == Body.Rub A3_ && Body.Quiet A2_ == Body.Quiet A3_)))))))))))) (Q (SV.bool false) [(false, vb_ y1f0_), (false, vb_ y1f1_)]) (Holds (Prod.fst y1 = xs ∧ y1f1_ = ys ∧ (0 : Int) ≤ w_ A4_ ∧ w_ A4_ ≤ (↑(List.length xs) : Int) ∧ List.take (n_ (w_ A4_)) xs = List.take (n_ (w_ A4_)) ys) ∧ n_ ((↑(List.length xs) : Int) - w_ A4_) < n_ ((↑(List.length xs) : Int) - y1s4_))) (Q (SV.bool true) [(false, vb_ y1f0_), (false, vb_ y1f1_)]))) := by kernel_rfl

theorem ok_lawsPqBodies : FsOk Tryz.prog 17 fs_lawsPqBodies := fsOk_of tt_ok tabFs_nil mixed Tryz.func17 (by kernel_rfl) (by kernel_rfl) (by
    intro args LL p r HH h hp
    unfold fs_lawsPqBodies at h
    dsimp only at h
    split at h
    case h_2 => cases h
    rename_i xs ys
    simp only [Option.some.injEq, Prod.mk.injEq] at h
    obtain ⟨rfl, rfl, rfl⟩ := h
    refine ⟨by simp [Form, stays], (L_lawsPqBodies xs ys), ?_⟩
    rw [vc_lawsPqBodies]
    try dsimp only

    have hb := hp _ rfl
    refine ifB_of (fun c => ?_) (fun c => ?_)
    · have c : (xs.length : Int) ≠ ys.length := by simpa using c
      rw [same_ff (fun e => c (by rw [e]))]
      exact ⟨rfl, rfl⟩
    have hl : xs.length = ys.length := by
      have : (xs.length : Int) = ys.length := by simpa using c
      omega
    refine ⟨⟨rfl, rfl, by omega, by omega, rfl⟩, ?_⟩
    rintro ⟨xs', ys', u, v, i⟩ ⟨h⟩
    obtain ⟨rfl, rfl, h0, h1, h3⟩ := h
    dsimp only at hb hl h0 h1 h3 ⊢
    refine ifB_of (fun c => ?_) (fun c => ?_)
    · have hi : i < xs'.length := of_decide_eq_true c
      have hw : IntKind.i64.wrap (i + 1) = i + 1 := wrap_small (by omega) (by omega)
      rw [hw]
      refine ⟨⟨h0, hi⟩, ⟨h0, by omega⟩, ?_⟩
      refine ifB_of (fun c => ?_) (fun c => ?_)
      · have c : Ty.ix .body xs' i.toNat ≠ Ty.ix .body ys' i.toNat := by intro e; rw [e] at c; simp at c
        rw [same_ff (fun e => c (by rw [e]))]
        exact ⟨rfl, rfl⟩
      · have c : Ty.ix .body xs' i.toNat = Ty.ix .body ys' i.toNat := by simpa [eqBody_iff] using c
        have e1 : (i + 1).toNat = i.toNat + 1 := by omega
        refine ⟨⟨rfl, rfl, by omega, by omega, ?_⟩, by omega⟩
        rw [e1]
        exact take_succ_eq (T := .body) (by omega) (by omega) h3 c
    · have hi : ¬ i < xs'.length := of_decide_eq_false c
      have : xs' = ys' := eq_of_take (by omega) (by omega) h3
      subst this
      rw [same_self]
      exact ⟨rfl, rfl⟩)

end Go.Proofs.YtnahfbjdicjdpaaGreat.Sym

namespace Go.Proofs.YtnahfbjdicjdpaaGreat.Sym
open Go
set_option linter.unusedVariables false
set_option linter.unusedSimpArgs false
set_option maxRecDepth 100000

/-- All below a number. -/
def allTo (p : Nat → Bool) : Nat → Bool
  | 0 => true
  | k + 1 => allTo p k && p k
theorem allTo_false {p : Nat → Bool} {k : Nat} (hk : p k = false) : ∀ {n : Nat}, k < n → allTo p n = false
  | n + 1, h => by
    simp only [allTo]
    by_cases e : k = n
    · subst e; simp [hk]
    · simp [allTo_false hk (n := n) (by omega)]
def boxMeets (a b : Box) : Bool := decide (a.Low.X ≤ b.High.X) && decide (b.Low.X ≤ a.High.X) && decide (a.Low.Y ≤ b.High.Y) && decide (b.Low.Y ≤ a.High.Y)
noncomputable def fs_implMeets : Fs := ⟨[], fun args H => match args, H with
  | [.agg [.int .i64 aLX, .int .i64 aLY, .int .i64 aHX, .int .i64 aHY], .agg [.int .i64 bLX, .int .i64 bLY, .int .i64 bHX, .int .i64 bHY]], [] => some (none, .bool (boxMeets (Box.mk (Vec.mk aLX aLY) (Vec.mk aHX aHY)) (Box.mk (Vec.mk bLX bLY) (Vec.mk bHX bHY))), [])
  | _, _ => none⟩

theorem vc_implMeets (aLX : Int) (aLY : Int) (aHX : Int) (aHY : Int) (bLX : Int) (bLY : Int) (bHX : Int) (bHY : Int) (Q : SV → List Ent → Prop) :
    fnVC tt (look []) L0 Tryz.f163 [.agg [.int .i64 aLX, .int .i64 aLY, .int .i64 aHX, .int .i64 aHY], .agg [.int .i64 bLX, .int .i64 bLY, .int .i64 bHX, .int .i64 bHY]] [] Q =
    (ifB (decide (aLX ≤ bHX)) (ifB (decide (bLX ≤ aHX)) (ifB (decide (aLY ≤ bHY)) (Q (SV.bool (decide (bLY ≤ aHY))) []) (Q (SV.bool false) [])) (Q (SV.bool false) [])) (Q (SV.bool false) [])) := by kernel_rfl

theorem ok_implMeets : FsOk Tryz.prog 163 fs_implMeets := fsOk_of tt_ok tabFs_nil mixed Tryz.func163 (by kernel_rfl) (by kernel_rfl) (by
    intro args LL p r HH h hp
    unfold fs_implMeets at h
    dsimp only at h
    split at h
    case h_2 => cases h
    rename_i aLX aLY aHX aHY bLX bLY bHX bHY
    simp only [Option.some.injEq, Prod.mk.injEq] at h
    obtain ⟨rfl, rfl, rfl⟩ := h
    refine ⟨by simp [Form, stays], L0, ?_⟩
    rw [vc_implMeets]
    try dsimp only

    repeat' (first | refine ifB_of (fun _ => ?_) (fun _ => ?_) | refine pre_of ?_ (fun _ => ?_))
    all_goals first
      | rfl
      | (simp only [W, boxMeets, *, cond_true, cond_false, Bool.true_and, Bool.false_and, Bool.and_true, Bool.and_false, Bool.not_true, Bool.not_false, and_self, true_and]; done)
      | (simp_all [W, boxMeets]; done)
      | (simp_all [W, boxMeets] <;> omega))

noncomputable def fs_l3Meets : Fs := ⟨[], fun args H => match args, H with
  | [.agg [.int .i64 aLX, .int .i64 aLY, .int .i64 aHX, .int .i64 aHY], .agg [.int .i64 bLX, .int .i64 bLY, .int .i64 bHX, .int .i64 bHY]], [] => some (none, .bool (boxMeets (Box.mk (Vec.mk aLX aLY) (Vec.mk aHX aHY)) (Box.mk (Vec.mk bLX bLY) (Vec.mk bHX bHY))), [])
  | _, _ => none⟩

theorem vc_l3Meets (aLX : Int) (aLY : Int) (aHX : Int) (aHY : Int) (bLX : Int) (bLY : Int) (bHX : Int) (bHY : Int) (Q : SV → List Ent → Prop) :
    fnVC tt (look []) L0 Tryz.f169 [.agg [.int .i64 aLX, .int .i64 aLY, .int .i64 aHX, .int .i64 aHY], .agg [.int .i64 bLX, .int .i64 bLY, .int .i64 bHX, .int .i64 bHY]] [] Q =
    (ifB (decide (aLX ≤ bHX)) (ifB (decide (bLX ≤ aHX)) (ifB (decide (aLY ≤ bHY)) (Q (SV.bool (decide (bLY ≤ aHY))) []) (Q (SV.bool false) [])) (Q (SV.bool false) [])) (Q (SV.bool false) [])) := by kernel_rfl

theorem ok_l3Meets : FsOk Tryz.prog 169 fs_l3Meets := fsOk_of tt_ok tabFs_nil mixed Tryz.func169 (by kernel_rfl) (by kernel_rfl) (by
    intro args LL p r HH h hp
    unfold fs_l3Meets at h
    dsimp only at h
    split at h
    case h_2 => cases h
    rename_i aLX aLY aHX aHY bLX bLY bHX bHY
    simp only [Option.some.injEq, Prod.mk.injEq] at h
    obtain ⟨rfl, rfl, rfl⟩ := h
    refine ⟨by simp [Form, stays], L0, ?_⟩
    rw [vc_l3Meets]
    try dsimp only

    repeat' (first | refine ifB_of (fun _ => ?_) (fun _ => ?_) | refine pre_of ?_ (fun _ => ?_))
    all_goals first
      | rfl
      | (simp only [W, boxMeets, *, cond_true, cond_false, Bool.true_and, Bool.false_and, Bool.and_true, Bool.and_false, Bool.not_true, Bool.not_false, and_self, true_and]; done)
      | (simp_all [W, boxMeets]; done)
      | (simp_all [W, boxMeets] <;> omega))


theorem drop_ix {T : Ty} {xs : List T.El} {i : Nat} (h : i < xs.length) : xs.drop i = T.ix xs i :: xs.drop (i + 1) := by
  rw [List.drop_eq_getElem_cons h]
  congr 1
  simp [Ty.ix, List.getD, h]
theorem not_true {b : Bool} (h : (!b) = true) : b = false := by simpa using h
theorem not_false {b : Bool} (h : (!b) = false) : b = true := by simpa using h
theorem drop_end {α : Type} {xs : List α} {i : Nat} (h : xs.length ≤ i) : xs.drop i = [] := List.drop_eq_nil_of_le h
end Go.Proofs.YtnahfbjdicjdpaaGreat.Sym

namespace Go.Proofs.YtnahfbjdicjdpaaGreat.Sym
open Go
set_option linter.unusedVariables false
set_option linter.unusedSimpArgs false
set_option maxRecDepth 100000

def bodyAt (xs : List Body) (k : Nat) : Bool := bodyOk (Ty.ix .body xs k) && (k == 0 || decide ((Ty.ix .body xs (k - 1)).Id < (Ty.ix .body xs k).Id))
def bodiesOk (xs : List Body) : Bool := allTo (bodyAt xs) xs.length && decide (xs.length ≤ 12)
theorem fin_bodies {xs : List Body} : bodiesOk xs = (allTo (bodyAt xs) xs.length && decide ((xs.length : Int) ≤ 12)) := by
  unfold bodiesOk
  congr 1
  rw [decide_eq_decide]
  omega
theorem bodiesOk_len {xs : List Body} (h : bodiesOk xs = true) : xs.length ≤ 12 := by
  simp only [bodiesOk, Bool.and_eq_true, decide_eq_true_eq] at h
  exact h.2
theorem allTo_iff {p : Nat → Bool} : ∀ {n : Nat}, allTo p n = true ↔ ∀ k, k < n → p k = true
  | 0 => by simp [allTo]
  | n + 1 => by
    simp only [allTo, Bool.and_eq_true, allTo_iff (n := n)]
    constructor
    · rintro ⟨h1, h2⟩ k hk
      by_cases e : k = n
      · subst e; exact h2
      · exact h1 k (by omega)
    · exact fun h => ⟨fun k hk => h k (by omega), h n (by omega)⟩
theorem bodiesOk_iff {xs : List Body} : bodiesOk xs = true ↔ xs.length ≤ 12 ∧ (∀ k, k < xs.length → bodyOk (Ty.ix .body xs k) = true) ∧ ∀ k, k + 1 < xs.length → (Ty.ix .body xs k).Id < (Ty.ix .body xs (k + 1)).Id := by
  simp only [bodiesOk, Bool.and_eq_true, decide_eq_true_eq, allTo_iff, bodyAt, Bool.or_eq_true, beq_iff_eq]
  constructor
  · rintro ⟨h1, h2⟩
    refine ⟨h2, fun k hk => (h1 k hk).1, fun k hk => ?_⟩
    rcases (h1 (k + 1) hk).2 with h | h
    · omega
    · simpa using h
  · rintro ⟨h1, h2, h3⟩
    refine ⟨fun k hk => ⟨h2 k hk, ?_⟩, h1⟩
    cases k with
    | zero => left; rfl
    | succ k => right; simpa using h3 k hk
theorem bodiesOk_each {xs : List Body} (h : bodiesOk xs = true) {k : Nat} (hk : k < xs.length) : bodyOk (Ty.ix .body xs k) = true := (bodiesOk_iff.1 h).2.1 k hk
def LSspecBodiesOk  : LS where
  S := List Body × Unit × Int
  live := [(0, [none]), (3, [none])]
  shape := fun s => ([.vec 0, .int .i64 s.2.2], [(false, .vec .body s.1)])
  get := fun v h => match v, h with
    | [.vec 0, .int .i64 i], [(false, .vec .body xs)] => some (xs, (), i)
    | _, _ => none
  inv := fun s0 s => Holds (s.1 = s0.1 ∧ 0 ≤ s.2.2 ∧ s.2.2 ≤ s0.1.length ∧ allTo (bodyAt s0.1) s.2.2.toNat = true)
  mu := fun s => ((s.1.length : Int) - s.2.2).toNat
  ok := by
    intro v h s hg
    try dsimp only at hg
    split at hg <;> cases hg
    rfl

def L_specBodiesOk : Loops := fun n => match n with
  | 2 => some LSspecBodiesOk
  | _ => none
noncomputable def fs_specBodiesOk : Fs := ⟨[], fun args H => match args, H with
  | [.vec 0], [(false, .vec .body xs)] => some ((some (xs.length ≤ 4611686018427387904)), .bool (bodiesOk xs), [(false, .vec .body xs)])
  | _, _ => none⟩

theorem vc_specBodiesOk (xs : List Body) (Q : SV → List Ent → Prop) :
    fnVC tt (look [(68, fs_specBodyOk)]) (L_specBodiesOk) Tryz.f27 [.vec 0] [(false, .vec .body xs)] Q =
    (Holds (xs = xs ∧ (0 : Int) ≤ (0 : Int) ∧ (0 : Int) ≤ (↑(List.length xs) : Int) ∧ allTo (bodyAt xs) (Int.toNat (0 : Int)) = true) ∧ ∀ (x : List Body × Unit × Int), Holds (Prod.fst x = xs ∧ (0 : Int) ≤ Prod.snd (Prod.snd x) ∧ Prod.snd (Prod.snd x) ≤ (↑(List.length xs) : Int) ∧ allTo (bodyAt xs) (Int.toNat (Prod.snd (Prod.snd x))) = true) → ifB (decide (Prod.snd (Prod.snd x) < (↑(List.length (Prod.fst x)) : Int))) (((0 : Int) ≤ Prod.snd (Prod.snd x) ∧ Prod.snd (Prod.snd x) < (↑(List.length (Prod.fst x)) : Int)) ∧ ifB (!bodyOk (Ty.ix Ty.body (Prod.fst x) (Int.toNat (Prod.snd (Prod.snd x))))) (Q (SV.bool false) [(false, Blk.vec Ty.body (Prod.fst x))]) (ifB (decide (Prod.snd (Prod.snd x) > (0 : Int))) (((0 : Int) ≤ IntKind.wrap IntKind.i64 (Prod.snd (Prod.snd x) - (1 : Int)) ∧ IntKind.wrap IntKind.i64 (Prod.snd (Prod.snd x) - (1 : Int)) < (↑(List.length (Prod.fst x)) : Int)) ∧ ((0 : Int) ≤ Prod.snd (Prod.snd x) ∧ Prod.snd (Prod.snd x) < (↑(List.length (Prod.fst x)) : Int)) ∧ ifB (decide (Body.Id (Ty.ix Ty.body (Prod.fst x) (Int.toNat (IntKind.wrap IntKind.i64 (Prod.snd (Prod.snd x) - (1 : Int))))) ≥ Body.Id (Ty.ix Ty.body (Prod.fst x) (Int.toNat (Prod.snd (Prod.snd x)))))) (Q (SV.bool false) [(false, Blk.vec Ty.body (Prod.fst x))]) (Holds (Prod.fst x = xs ∧ (0 : Int) ≤ IntKind.wrap IntKind.i64 (Prod.snd (Prod.snd x) + (1 : Int)) ∧ IntKind.wrap IntKind.i64 (Prod.snd (Prod.snd x) + (1 : Int)) ≤ (↑(List.length xs) : Int) ∧ allTo (bodyAt xs) (Int.toNat (IntKind.wrap IntKind.i64 (Prod.snd (Prod.snd x) + (1 : Int)))) = true) ∧ Int.toNat ((↑(List.length (Prod.fst x)) : Int) - IntKind.wrap IntKind.i64 (Prod.snd (Prod.snd x) + (1 : Int))) < Int.toNat ((↑(List.length (Prod.fst x)) : Int) - Prod.snd (Prod.snd x)))) (Holds (Prod.fst x = xs ∧ (0 : Int) ≤ IntKind.wrap IntKind.i64 (Prod.snd (Prod.snd x) + (1 : Int)) ∧ IntKind.wrap IntKind.i64 (Prod.snd (Prod.snd x) + (1 : Int)) ≤ (↑(List.length xs) : Int) ∧ allTo (bodyAt xs) (Int.toNat (IntKind.wrap IntKind.i64 (Prod.snd (Prod.snd x) + (1 : Int)))) = true) ∧ Int.toNat ((↑(List.length (Prod.fst x)) : Int) - IntKind.wrap IntKind.i64 (Prod.snd (Prod.snd x) + (1 : Int))) < Int.toNat ((↑(List.length (Prod.fst x)) : Int) - Prod.snd (Prod.snd x))))) (Q (SV.bool (decide ((↑(List.length (Prod.fst x)) : Int) ≤ (12 : Int)))) [(false, Blk.vec Ty.body (Prod.fst x))])) := by kernel_rfl

theorem ok_specBodiesOk : FsOk Tryz.prog 27 fs_specBodiesOk := fsOk_of tt_ok (tabFs_cons ok_specBodyOk tabFs_nil) mixed Tryz.func27 (by kernel_rfl) (by kernel_rfl) (by
    intro args LL p r HH h hp
    unfold fs_specBodiesOk at h
    dsimp only at h
    split at h
    case h_2 => cases h
    rename_i xs
    simp only [Option.some.injEq, Prod.mk.injEq] at h
    obtain ⟨rfl, rfl, rfl⟩ := h
    refine ⟨by simp [Form, stays], (L_specBodiesOk), ?_⟩
    rw [vc_specBodiesOk]
    try dsimp only
    have hb := hp _ rfl
    refine ⟨⟨(by trivial), by omega, by omega, (by trivial)⟩, ?_⟩
    rintro ⟨xs', u, i⟩ ⟨h⟩
    dsimp only at h ⊢
    obtain ⟨rfl, h0, h1, h3⟩ := h
    refine ifB_of (fun c => ?_) (fun c => ?_)
    · have hi : i < xs'.length := of_decide_eq_true c
      have e1 : (i + 1).toNat = i.toNat + 1 := by omega
      have fl : bodyAt xs' i.toNat = false → bodiesOk xs' = false := fun h => by simp [bodiesOk, allTo_false h (show i.toNat < xs'.length by omega)]
      have nx : bodyAt xs' i.toNat = true → allTo (bodyAt xs') (i.toNat + 1) = true := fun h => by simp [allTo, h3, h]
      have hw1 : IntKind.i64.wrap (i + 1) = i + 1 := wrap_small (by omega) (by omega)
      have hw2 : IntKind.i64.wrap (i - 1) = i - 1 := wrap_small (by omega) (by omega)
      have e2 : (i - 1).toNat = i.toNat - 1 := by omega
      rw [hw1, hw2, e1, e2]
      refine ⟨⟨h0, hi⟩, ifB_of (fun c1 => ?_) (fun c1 => ?_)⟩
      · rw [fl (by simp [bodyAt, not_true c1])]
        exact ⟨rfl, rfl⟩
      have c1 := not_false c1
      refine ifB_of (fun c3 => ?_) (fun c3 => ?_)
      · have c3 : i > 0 := of_decide_eq_true c3
        have hne : ¬ i.toNat = 0 := by omega
        refine ⟨⟨by omega, by omega⟩, ⟨h0, hi⟩, ifB_of (fun c4 => ?_) (fun c4 => ?_)⟩
        · have c4 := of_decide_eq_true c4
          rw [fl (by simp only [bodyAt, c1]; simp [hne]; omega)]
          exact ⟨rfl, rfl⟩
        · have c4 := of_decide_eq_false c4
          refine ⟨⟨(by trivial), by omega, by omega, nx ?_⟩, by omega⟩
          simp only [bodyAt, c1]
          simp [hne]
          omega
      · have c3 : ¬ i > 0 := of_decide_eq_false c3
        have hz : i.toNat = 0 := by omega
        refine ⟨⟨(by trivial), by omega, by omega, nx ?_⟩, by omega⟩
        simp only [bodyAt, c1]
        simp [hz]
    · have hi : ¬ i < xs'.length := of_decide_eq_false c
      have e1 : i.toNat = xs'.length := by omega
      rw [e1] at h3
      rw [fin_bodies, h3]
      exact ⟨rfl, rfl⟩)

def LSimplBodiesOk  : LS where
  S := List Body × Unit × Unit × Int × Int
  live := [(0, [none]), (5, [none]), (6, [none]), (7, [none])]
  shape := fun s => ([.vec 0, .vec 0, .int .i64 s.2.2.2.1, .int .i64 s.2.2.2.2], [(false, .vec .body s.1)])
  get := fun v h => match v, h with
    | [.vec 0, .vec 0, .int .i64 n, .int .i64 i], [(false, .vec .body xs)] => some (xs, (), (), n, i)
    | _, _ => none
  inv := fun s0 s => Holds (s.1 = s0.1 ∧ s.2.2.2.1 = s0.1.length ∧ 0 ≤ s.2.2.2.2 ∧ s.2.2.2.2 ≤ s0.1.length ∧ allTo (bodyAt s0.1) s.2.2.2.2.toNat = true)
  mu := fun s => ((s.1.length : Int) - s.2.2.2.2).toNat
  ok := by
    intro v h s hg
    try dsimp only at hg
    split at hg <;> cases hg
    rfl

def L_implBodiesOk : Loops := fun n => match n with
  | 2 => some LSimplBodiesOk
  | _ => none
noncomputable def fs_implBodiesOk : Fs := ⟨[], fun args H => match args, H with
  | [.vec 0], [(false, .vec .body xs)] => some ((some (xs.length ≤ 4611686018427387904)), .bool (bodiesOk xs), [(false, .vec .body xs)])
  | _, _ => none⟩

theorem vc_implBodiesOk (xs : List Body) (Q : SV → List Ent → Prop) :
    fnVC tt (look [(66, fs_implBodyOk)]) (L_implBodiesOk) Tryz.f47 [.vec 0] [(false, .vec .body xs)] Q =
    (let w_ := IntKind.wrap IntKind.i64; let n_ := Int.toNat; Holds (xs = xs ∧ (↑(List.length xs) : Int) = (↑(List.length xs) : Int) ∧ (0 : Int) ≤ (0 : Int) ∧ (0 : Int) ≤ (↑(List.length xs) : Int) ∧ allTo (bodyAt xs) (n_ (0 : Int)) = true) ∧ ∀ (y1 : List Body × Unit × Unit × Int × Int), let y1f0_ := Prod.fst y1; let y1s1_ := Prod.snd y1; let y1s3_ := Prod.snd (Prod.snd (Prod.snd y1)); let y1f3_ := Prod.fst (Prod.snd (Prod.snd (Prod.snd y1))); let y1s4_ := Prod.snd (Prod.snd (Prod.snd (Prod.snd y1))); let A4_ := (↑(List.length xs) : Int); let A3_ := (↑(List.length y1f0_) : Int); let A2_ := (Prod.snd y1s3_ + (1 : Int)); Holds (Prod.fst y1 = xs ∧ y1f3_ = A4_ ∧ (0 : Int) ≤ y1s4_ ∧ y1s4_ ≤ A4_ ∧ allTo (bodyAt xs) (n_ y1s4_) = true) → ifB (decide (Prod.snd y1s3_ < y1f3_)) (((0 : Int) ≤ y1s4_ ∧ y1s4_ < A3_) ∧ ifB (!bodyOk (Ty.ix Ty.body y1f0_ (n_ y1s4_))) (Q (SV.bool false) [(false, Blk.vec Ty.body y1f0_)]) (ifB (decide (Prod.snd y1s3_ > (0 : Int))) (((0 : Int) ≤ w_ (Prod.snd y1s3_ - (1 : Int)) ∧ w_ (Prod.snd y1s3_ - (1 : Int)) < A3_) ∧ ifB (decide (Body.Id (Ty.ix Ty.body y1f0_ (n_ y1s4_)) ≤ Body.Id (Ty.ix Ty.body y1f0_ (n_ (w_ (Prod.snd y1s3_ - (1 : Int))))))) (Q (SV.bool false) [(false, Blk.vec Ty.body y1f0_)]) (Holds (Prod.fst y1 = xs ∧ y1f3_ = A4_ ∧ (0 : Int) ≤ w_ A2_ ∧ w_ A2_ ≤ A4_ ∧ allTo (bodyAt xs) (n_ (w_ A2_)) = true) ∧ n_ (A3_ - w_ A2_) < n_ (A3_ - y1s4_))) (Holds (Prod.fst y1 = xs ∧ y1f3_ = A4_ ∧ (0 : Int) ≤ w_ A2_ ∧ w_ A2_ ≤ A4_ ∧ allTo (bodyAt xs) (n_ (w_ A2_)) = true) ∧ n_ (A3_ - w_ A2_) < n_ (A3_ - y1s4_)))) (Q (SV.bool (decide (A3_ ≤ (12 : Int)))) [(false, Blk.vec Ty.body y1f0_)])) := by kernel_rfl

theorem ok_implBodiesOk : FsOk Tryz.prog 47 fs_implBodiesOk := fsOk_of tt_ok (tabFs_cons ok_implBodyOk tabFs_nil) mixed Tryz.func47 (by kernel_rfl) (by kernel_rfl) (by
    intro args LL p r HH h hp
    unfold fs_implBodiesOk at h
    dsimp only at h
    split at h
    case h_2 => cases h
    rename_i xs
    simp only [Option.some.injEq, Prod.mk.injEq] at h
    obtain ⟨rfl, rfl, rfl⟩ := h
    refine ⟨by simp [Form, stays], (L_implBodiesOk), ?_⟩
    rw [vc_implBodiesOk]
    try dsimp only
    have hb := hp _ rfl
    refine ⟨⟨(by trivial), (by trivial), by omega, by omega, (by trivial)⟩, ?_⟩
    rintro ⟨xs', u, v, n, i⟩ ⟨h⟩
    dsimp only at h ⊢
    obtain ⟨rfl, rfl, h0, h1, h3⟩ := h
    refine ifB_of (fun c => ?_) (fun c => ?_)
    · have hi : i < xs'.length := of_decide_eq_true c
      have e1 : (i + 1).toNat = i.toNat + 1 := by omega
      have fl : bodyAt xs' i.toNat = false → bodiesOk xs' = false := fun h => by simp [bodiesOk, allTo_false h (show i.toNat < xs'.length by omega)]
      have nx : bodyAt xs' i.toNat = true → allTo (bodyAt xs') (i.toNat + 1) = true := fun h => by simp [allTo, h3, h]
      have hw1 : IntKind.i64.wrap (i + 1) = i + 1 := wrap_small (by omega) (by omega)
      have hw2 : IntKind.i64.wrap (i - 1) = i - 1 := wrap_small (by omega) (by omega)
      have e2 : (i - 1).toNat = i.toNat - 1 := by omega
      rw [hw1, hw2, e1, e2]
      refine ⟨⟨h0, hi⟩, ifB_of (fun c1 => ?_) (fun c1 => ?_)⟩
      · rw [fl (by simp [bodyAt, not_true c1])]
        exact ⟨rfl, rfl⟩
      have c1 := not_false c1
      refine ifB_of (fun c3 => ?_) (fun c3 => ?_)
      · have c3 : i > 0 := of_decide_eq_true c3
        have hne : ¬ i.toNat = 0 := by omega
        refine ⟨⟨by omega, by omega⟩, ifB_of (fun c4 => ?_) (fun c4 => ?_)⟩
        · have c4 := of_decide_eq_true c4
          rw [fl (by simp only [bodyAt, c1]; simp [hne]; omega)]
          exact ⟨rfl, rfl⟩
        · have c4 := of_decide_eq_false c4
          refine ⟨⟨(by trivial), (by trivial), by omega, by omega, nx ?_⟩, by omega⟩
          simp only [bodyAt, c1]
          simp [hne]
          omega
      · have c3 : ¬ i > 0 := of_decide_eq_false c3
        have hz : i.toNat = 0 := by omega
        refine ⟨⟨(by trivial), (by trivial), by omega, by omega, nx ?_⟩, by omega⟩
        simp only [bodyAt, c1]
        simp [hz]
    · have hi : ¬ i < xs'.length := of_decide_eq_false c
      have e1 : i.toNat = xs'.length := by omega
      rw [e1] at h3
      rw [fin_bodies, h3]
      exact ⟨rfl, rfl⟩)


def moves (b : Body) : Bool := !(b.Mass == 0) && !(b.Quiet == 8)
noncomputable def fs_implMoves : Fs := ⟨[], fun args H => match args, H with
  | [.agg [.int .i64 bI, .int .i64 bK, .int .i64 bW, .int .i64 bH, .int .i64 bX, .int .i64 bY, .int .i64 bU, .int .i64 bV, .int .i64 bM, .int .i64 bB, .int .i64 bR, .int .i64 bQ]], [] => some (none, .bool (moves (Body.mk bI (Shape.mk bK bW bH) (Vec.mk bX bY) (Vec.mk bU bV) bM bB bR bQ)), [])
  | _, _ => none⟩

theorem vc_implMoves (bI : Int) (bK : Int) (bW : Int) (bH : Int) (bX : Int) (bY : Int) (bU : Int) (bV : Int) (bM : Int) (bB : Int) (bR : Int) (bQ : Int) (Q : SV → List Ent → Prop) :
    fnVC tt (look [(64, fs_bodyFixed), (54, fs_bodySleeps)]) L0 Tryz.f55 [.agg [.int .i64 bI, .int .i64 bK, .int .i64 bW, .int .i64 bH, .int .i64 bX, .int .i64 bY, .int .i64 bU, .int .i64 bV, .int .i64 bM, .int .i64 bB, .int .i64 bR, .int .i64 bQ]] [] Q =
    (ifB (!bM == (0 : Int)) (Q (SV.bool !bQ == (8 : Int)) []) (Q (SV.bool false) [])) := by kernel_rfl

theorem ok_implMoves : FsOk Tryz.prog 55 fs_implMoves := fsOk_of tt_ok (tabFs_cons ok_bodyFixed (tabFs_cons ok_bodySleeps tabFs_nil)) mixed Tryz.func55 (by kernel_rfl) (by kernel_rfl) (by
    intro args LL p r HH h hp
    unfold fs_implMoves at h
    dsimp only at h
    split at h
    case h_2 => cases h
    rename_i bI bK bW bH bX bY bU bV bM bB bR bQ
    simp only [Option.some.injEq, Prod.mk.injEq] at h
    obtain ⟨rfl, rfl, rfl⟩ := h
    refine ⟨by simp [Form, stays], L0, ?_⟩
    rw [vc_implMoves]
    try dsimp only

    repeat' (first | refine ifB_of (fun _ => ?_) (fun _ => ?_) | refine pre_of ?_ (fun _ => ?_))
    all_goals first
      | rfl
      | (simp only [W, moves, *, cond_true, cond_false, Bool.true_and, Bool.false_and, Bool.and_true, Bool.and_false, Bool.not_true, Bool.not_false, and_self, true_and]; done)
      | (simp_all [W, moves]; done)
      | (simp_all [W, moves] <;> omega))

noncomputable def fs_l6Sleeps : Fs := ⟨[], fun args H => match args, H with
  | [.agg [.int .i64 bI, .int .i64 bK, .int .i64 bW, .int .i64 bH, .int .i64 bX, .int .i64 bY, .int .i64 bU, .int .i64 bV, .int .i64 bM, .int .i64 bB, .int .i64 bR, .int .i64 bQ]], [] => some (none, .bool (decide ((Body.mk bI (Shape.mk bK bW bH) (Vec.mk bX bY) (Vec.mk bU bV) bM bB bR bQ).Quiet ≥ 8)), [])
  | _, _ => none⟩

theorem vc_l6Sleeps (bI : Int) (bK : Int) (bW : Int) (bH : Int) (bX : Int) (bY : Int) (bU : Int) (bV : Int) (bM : Int) (bB : Int) (bR : Int) (bQ : Int) (Q : SV → List Ent → Prop) :
    fnVC tt (look []) L0 Tryz.f71 [.agg [.int .i64 bI, .int .i64 bK, .int .i64 bW, .int .i64 bH, .int .i64 bX, .int .i64 bY, .int .i64 bU, .int .i64 bV, .int .i64 bM, .int .i64 bB, .int .i64 bR, .int .i64 bQ]] [] Q =
    (Q (SV.bool (decide (bQ ≥ (8 : Int)))) []) := by kernel_rfl

theorem ok_l6Sleeps : FsOk Tryz.prog 71 fs_l6Sleeps := fsOk_of tt_ok tabFs_nil mixed Tryz.func71 (by kernel_rfl) (by kernel_rfl) (by
    intro args LL p r HH h hp
    unfold fs_l6Sleeps at h
    dsimp only at h
    split at h
    case h_2 => cases h
    rename_i bI bK bW bH bX bY bU bV bM bB bR bQ
    simp only [Option.some.injEq, Prod.mk.injEq] at h
    obtain ⟨rfl, rfl, rfl⟩ := h
    refine ⟨by simp [Form, stays], L0, ?_⟩
    rw [vc_l6Sleeps]
    try dsimp only

    repeat' (first | refine ifB_of (fun _ => ?_) (fun _ => ?_) | refine pre_of ?_ (fun _ => ?_))
    all_goals first
      | rfl
      | (simp only [W, moves, *, cond_true, cond_false, Bool.true_and, Bool.false_and, Bool.and_true, Bool.and_false, Bool.not_true, Bool.not_false, and_self, true_and]; done)
      | (simp_all [W, moves]; done)
      | (simp_all [W, moves] <;> omega))

/-- The first place at which something holds; -1 if there is none. -/
def firstI {α : Type} (p : α → Bool) (xs : List α) : Int := bif xs.any p then (xs.findIdx p : Int) else -1
theorem firstI_at {T : Ty} {p : T.El → Bool} {xs : List T.El} {i : Nat} (hi : i < xs.length) (h : p (T.ix xs i) = true) (hb : ∀ k, k < i → p (T.ix xs k) = false) : firstI p xs = i := by
  have hx : ∀ k (hk : k < xs.length), xs[k] = T.ix xs k := fun k hk => by simp [Ty.ix, List.getD, hk]
  have h1 : xs.any p = true := List.any_eq_true.2 ⟨xs[i], List.getElem_mem hi, by rw [hx]; exact h⟩
  have h2 : xs.findIdx p = i := (List.findIdx_eq hi).2 ⟨by rw [hx]; exact h, fun k hk => by rw [hx]; exact hb k hk⟩
  simp [firstI, h1, h2]
theorem firstI_no {T : Ty} {p : T.El → Bool} {xs : List T.El} (hb : ∀ k, k < xs.length → p (T.ix xs k) = false) : firstI p xs = -1 := by
  have h1 : xs.any p = false := by
    rw [List.any_eq_false]
    intro x hx
    obtain ⟨k, hk, rfl⟩ := List.getElem_of_mem hx
    have := hb k hk
    rw [show T.ix xs k = xs[k] by simp [Ty.ix, List.getD, hk]] at this
    simp [this]
  simp [firstI, h1]
theorem moves_iff {b : Body} (h : bodyOk b = true) : moves b = (decide (b.Mass > 0) && !decide (b.Quiet ≥ 8)) := by
  simp only [bodyOk, Bool.and_eq_true, isIn, decide_eq_true_eq] at h
  unfold moves
  by_cases h1 : b.Mass = 0
  · simp [h1]
  · by_cases h2 : b.Quiet = 8
    · simp [h2]
    · have : b.Mass > 0 := by omega
      have : ¬ b.Quiet ≥ 8 := by omega
      simp [h1, h2, *]
end Go.Proofs.YtnahfbjdicjdpaaGreat.Sym

namespace Go.Proofs.YtnahfbjdicjdpaaGreat.Sym
open Go
set_option linter.unusedVariables false
set_option linter.unusedSimpArgs false
set_option maxRecDepth 100000

/-- Of masses, bounces and rubs that are ok. -/
structure POk (b : Body) : Prop where
  m0 : 0 ≤ b.Mass
  m1 : b.Mass ≤ 1000
  b0 : 0 ≤ b.Bounce
  b1 : b.Bounce ≤ 256
  r0 : 0 ≤ b.Rub
  r1 : b.Rub ≤ 256
theorem pok_of {b : Body} (h : bodyOk b = true) : POk b := by
  simp only [bodyOk, Bool.and_eq_true, isIn, decide_eq_true_eq] at h
  obtain ⟨⟨⟨⟨⟨⟨⟨⟨h1, h2⟩, h3⟩, h4⟩, h5⟩, h6⟩, h7⟩, h8⟩, h9⟩ := h
  exact ⟨h5.1, h5.2, h6.1, h6.2, h7.1, h7.2⟩

theorem ifBt {p q : Prop} : ifB true p q = p := rfl
theorem ifBf {p q : Prop} : ifB false p q = q := rfl
def together (a b : Body) (n : Int) : Int :=
  bif a.Mass == 0 then W (n * b.Mass) else bif b.Mass == 0 then W (n * a.Mass) else W ((W (W (n * a.Mass) * b.Mass)).tdiv (W (a.Mass + b.Mass)))
def pushP (a b : Body) (c : Int) (bounce : Bool) : Int := together a b (bif bounce then W (c + W ((W (c * max a.Bounce b.Bounce)).tdiv 256)) else c)
def pushSide (h : Hit) : Vec := ⟨W (0 - h.Way.Y), h.Way.X⟩
def pushS (a b : Body) (h : Hit) (p : Int) : Int := withinI (together a b (closing a b (pushSide h))) (W ((W (p * min a.Rub b.Rub)).tdiv 256))
def pushE (p s x y : Int) : Int := W ((W (W (p * x) + W (s * y))).tdiv 256)
def pushW (a b : Body) (h : Hit) (p : Int) : Vec := ⟨withinI (pushE p (pushS a b h p) h.Way.X (pushSide h).X) 20000000, withinI (pushE p (pushS a b h p) h.Way.Y (pushSide h).Y) 20000000⟩
def pushV (a b : Body) (h : Hit) (bounce : Bool) : Vec :=
  bif decide (closing a b h.Way ≤ 0) || (a.Mass == 0 && b.Mass == 0) then ⟨0, 0⟩ else pushW a b h (pushP a b (closing a b h.Way) bounce)
theorem W_small {n : Int} (h1 : -9223372036854775808 ≤ n) (h2 : n ≤ 9223372036854775807) : W n = n := wrap_small h1 h2
theorem max_if (x y : Int) : (if y > x then y else x) = max x y := by omega
theorem min_if (x y : Int) : (if y < x then y else x) = min x y := by omega
theorem withinS_eq {n m : Int} (h0 : 0 ≤ m) (h1 : m ≤ 4000000000000000000) : withinS n m = withinI n m := by
  unfold withinS withinI
  have : W (0 - m) = 0 - m := wrap_small (by omega) (by omega)
  rw [this]
  omega
theorem clampTo_le {m n : Int} (h : 0 ≤ m) : -m ≤ clampTo m n ∧ clampTo m n ≤ m := by
  unfold clampTo
  omega
theorem closing_le (a b : Body) (w : Vec) : -1000000000 ≤ closing a b w ∧ closing a b w ≤ 1000000000 := clampTo_le (by omega)
theorem mul_le_mul0 {x X y Y : Int} (h0 : 0 ≤ x) (h1 : x ≤ X) (k0 : 0 ≤ y) (k1 : y ≤ Y) : 0 ≤ x * y ∧ x * y ≤ X * Y :=
  ⟨Int.mul_nonneg h0 k0, Int.mul_le_mul h1 k1 k0 (by omega)⟩
theorem together_le {a b : Body} (pa : POk a) (pb : POk b) (hm : ¬ (a.Mass = 0 ∧ b.Mass = 0)) {n : Int} (h0 : 0 ≤ n) (h1 : n ≤ 2000000000) : 0 ≤ together a b n ∧ together a b n ≤ 2000000000000 := by
  have ha := mul_le_mul0 h0 h1 pa.m0 pa.m1
  have hb := mul_le_mul0 h0 h1 pb.m0 pb.m1
  unfold together
  cases ca : a.Mass == 0 with
  | true =>
    simp only [cond_true]
    rw [show W (n * b.Mass) = n * b.Mass from wrap_small (by omega) (by omega)]
    omega
  | false =>
    simp only [cond_false]
    cases cb : b.Mass == 0 with
    | true =>
      simp only [cond_true]
      rw [show W (n * a.Mass) = n * a.Mass from wrap_small (by omega) (by omega)]
      omega
    | false =>
      simp only [cond_false]
      have ca : a.Mass ≠ 0 := by simpa using ca
      have cb : b.Mass ≠ 0 := by simpa using cb
      have a0 := pa.m0
      have a1 := pa.m1
      have b0 := pb.m0
      have b1 := pb.m1
      have hab := mul_le_mul0 ha.1 ha.2 b0 b1
      rw [show W (n * a.Mass) = n * a.Mass from wrap_small (by omega) (by omega), show W (n * a.Mass * b.Mass) = n * a.Mass * b.Mass from wrap_small (by omega) (by omega),
        show W (a.Mass + b.Mass) = a.Mass + b.Mass from wrap_small (by omega) (by omega)]
      have hq : (n * a.Mass * b.Mass).tdiv (a.Mass + b.Mass) = n * a.Mass * b.Mass / (a.Mass + b.Mass) := Int.tdiv_eq_ediv_of_nonneg hab.1
      have q0 : 0 ≤ n * a.Mass * b.Mass / (a.Mass + b.Mass) := Int.ediv_nonneg hab.1 (by omega)
      have q1 : n * a.Mass * b.Mass / (a.Mass + b.Mass) ≤ n * a.Mass := by
        refine Int.ediv_le_of_le_mul (by omega) ?_
        exact Int.mul_le_mul_of_nonneg_left (by omega) ha.1
      rw [hq, W_small (by omega) (by omega)]
      omega
theorem pushP_le {a b : Body} (pa : POk a) (pb : POk b) (hm : ¬ (a.Mass = 0 ∧ b.Mass = 0)) {c : Int} (h0 : 0 ≤ c) (h1 : c ≤ 1000000000) (z : Bool) : 0 ≤ pushP a b c z ∧ pushP a b c z ≤ 2000000000000 := by
  unfold pushP
  cases z with
  | false => exact together_le pa pb hm h0 (by simp only [cond_false]; omega)
  | true =>
    have b0 := pa.b0
    have b1 := pa.b1
    have b2 := pb.b0
    have b3 := pb.b1
    have hx := mul_le_mul0 h0 h1 (show 0 ≤ max a.Bounce b.Bounce by omega) (show max a.Bounce b.Bounce ≤ 256 by omega)
    have hc : c * max a.Bounce b.Bounce ≤ c * 256 := Int.mul_le_mul_of_nonneg_left (by omega) h0
    have hd := Int.tdiv_eq_ediv_of_nonneg (b := 256) hx.1
    simp only [cond_true]
    refine together_le pa pb hm ?_ ?_ <;>
    · rw [show W (c * max a.Bounce b.Bounce) = c * max a.Bounce b.Bounce from wrap_small (by omega) (by omega), hd,
        show W (c * max a.Bounce b.Bounce / 256) = c * max a.Bounce b.Bounce / 256 from wrap_small (by omega) (by omega), W_small (by omega) (by omega)]
      omega
theorem most_le {a b : Body} (pa : POk a) (pb : POk b) {p : Int} (h0 : 0 ≤ p) (h1 : p ≤ 2000000000000) : 0 ≤ W ((W (p * min a.Rub b.Rub)).tdiv 256) ∧ W ((W (p * min a.Rub b.Rub)).tdiv 256) ≤ p := by
  have b0 := pa.r0
  have b1 := pa.r1
  have b2 := pb.r0
  have b3 := pb.r1
  have hx := mul_le_mul0 h0 h1 (show 0 ≤ min a.Rub b.Rub by omega) (show min a.Rub b.Rub ≤ 256 by omega)
  have hc : p * min a.Rub b.Rub ≤ p * 256 := Int.mul_le_mul_of_nonneg_left (by omega) h0
  have hd := Int.tdiv_eq_ediv_of_nonneg (b := 256) hx.1
  rw [show W (p * min a.Rub b.Rub) = p * min a.Rub b.Rub from wrap_small (by omega) (by omega), hd, W_small (by omega) (by omega)]
  omega

noncomputable def fs_implTogether : Fs := ⟨[], fun args H => match args, H with
  | [.agg [.int .i64 aI, .int .i64 aK, .int .i64 aW, .int .i64 aH, .int .i64 aX, .int .i64 aY, .int .i64 aU, .int .i64 aV, .int .i64 aM, .int .i64 aB, .int .i64 aR, .int .i64 aQ], .agg [.int .i64 bI, .int .i64 bK, .int .i64 bW, .int .i64 bH, .int .i64 bX, .int .i64 bY, .int .i64 bU, .int .i64 bV, .int .i64 bM, .int .i64 bB, .int .i64 bR, .int .i64 bQ], .int .i64 n], [] => some ((some (POk (Body.mk aI (Shape.mk aK aW aH) (Vec.mk aX aY) (Vec.mk aU aV) aM aB aR aQ) ∧ POk (Body.mk bI (Shape.mk bK bW bH) (Vec.mk bX bY) (Vec.mk bU bV) bM bB bR bQ))), .int .i64 (together (Body.mk aI (Shape.mk aK aW aH) (Vec.mk aX aY) (Vec.mk aU aV) aM aB aR aQ) (Body.mk bI (Shape.mk bK bW bH) (Vec.mk bX bY) (Vec.mk bU bV) bM bB bR bQ) n), [])
  | _, _ => none⟩

theorem vc_implTogether (aI : Int) (aK : Int) (aW : Int) (aH : Int) (aX : Int) (aY : Int) (aU : Int) (aV : Int) (aM : Int) (aB : Int) (aR : Int) (aQ : Int) (bI : Int) (bK : Int) (bW : Int) (bH : Int) (bX : Int) (bY : Int) (bU : Int) (bV : Int) (bM : Int) (bB : Int) (bR : Int) (bQ : Int) (n : Int) (Q : SV → List Ent → Prop) :
    fnVC tt (look [(64, fs_bodyFixed)]) L0 Tryz.f129 [.agg [.int .i64 aI, .int .i64 aK, .int .i64 aW, .int .i64 aH, .int .i64 aX, .int .i64 aY, .int .i64 aU, .int .i64 aV, .int .i64 aM, .int .i64 aB, .int .i64 aR, .int .i64 aQ], .agg [.int .i64 bI, .int .i64 bK, .int .i64 bW, .int .i64 bH, .int .i64 bX, .int .i64 bY, .int .i64 bU, .int .i64 bV, .int .i64 bM, .int .i64 bB, .int .i64 bR, .int .i64 bQ], .int .i64 n] [] Q =
    (ifB (aM == (0 : Int)) (Q (SV.int IntKind.i64 (IntKind.wrap IntKind.i64 (n * bM))) []) (ifB (bM == (0 : Int)) (Q (SV.int IntKind.i64 (IntKind.wrap IntKind.i64 (n * aM))) []) (IntKind.wrap IntKind.i64 (aM + bM) ≠ (0 : Int) ∧ Q (SV.int IntKind.i64 (IntKind.wrap IntKind.i64 (Int.tdiv (IntKind.wrap IntKind.i64 (IntKind.wrap IntKind.i64 (n * aM) * bM)) (IntKind.wrap IntKind.i64 (aM + bM))))) []))) := by kernel_rfl

theorem ok_implTogether : FsOk Tryz.prog 129 fs_implTogether := fsOk_of tt_ok (tabFs_cons ok_bodyFixed tabFs_nil) mixed Tryz.func129 (by kernel_rfl) (by kernel_rfl) (by
    intro args LL p r HH h hp
    unfold fs_implTogether at h
    dsimp only at h
    split at h
    case h_2 => cases h
    rename_i aI aK aW aH aX aY aU aV aM aB aR aQ bI bK bW bH bX bY bU bV bM bB bR bQ n
    simp only [Option.some.injEq, Prod.mk.injEq] at h
    obtain ⟨rfl, rfl, rfl⟩ := h
    refine ⟨by simp [Form, stays], L0, ?_⟩
    rw [vc_implTogether]
    try dsimp only
    obtain ⟨pa, pb⟩ := hp _ rfl
    refine ifB_of (fun c => ?_) (fun c => ifB_of (fun c2 => ?_) (fun c2 => ⟨?_, ?_⟩))
    · simp [together, c]
    · simp [together, c, c2]
    · have h1 := pa.m0
      have h2 := pa.m1
      have h3 := pb.m0
      have h4 := pb.m1
      simp only [beq_eq_false_iff_ne] at c c2 h1 h2 h3 h4
      rw [wrap_small (by omega) (by omega)]
      omega
    · simp [together, c, c2])

noncomputable def fs_l8Mass : Fs := ⟨[], fun args H => match args, H with
  | [.agg [.int .i64 aI, .int .i64 aK, .int .i64 aW, .int .i64 aH, .int .i64 aX, .int .i64 aY, .int .i64 aU, .int .i64 aV, .int .i64 aM, .int .i64 aB, .int .i64 aR, .int .i64 aQ], .agg [.int .i64 bI, .int .i64 bK, .int .i64 bW, .int .i64 bH, .int .i64 bX, .int .i64 bY, .int .i64 bU, .int .i64 bV, .int .i64 bM, .int .i64 bB, .int .i64 bR, .int .i64 bQ], .int .i64 n], [] => some ((some (POk (Body.mk aI (Shape.mk aK aW aH) (Vec.mk aX aY) (Vec.mk aU aV) aM aB aR aQ) ∧ POk (Body.mk bI (Shape.mk bK bW bH) (Vec.mk bX bY) (Vec.mk bU bV) bM bB bR bQ))), .int .i64 (together (Body.mk aI (Shape.mk aK aW aH) (Vec.mk aX aY) (Vec.mk aU aV) aM aB aR aQ) (Body.mk bI (Shape.mk bK bW bH) (Vec.mk bX bY) (Vec.mk bU bV) bM bB bR bQ) n), [])
  | _, _ => none⟩

theorem vc_l8Mass (aI : Int) (aK : Int) (aW : Int) (aH : Int) (aX : Int) (aY : Int) (aU : Int) (aV : Int) (aM : Int) (aB : Int) (aR : Int) (aQ : Int) (bI : Int) (bK : Int) (bW : Int) (bH : Int) (bX : Int) (bY : Int) (bU : Int) (bV : Int) (bM : Int) (bB : Int) (bR : Int) (bQ : Int) (n : Int) (Q : SV → List Ent → Prop) :
    fnVC tt (look []) L0 Tryz.f175 [.agg [.int .i64 aI, .int .i64 aK, .int .i64 aW, .int .i64 aH, .int .i64 aX, .int .i64 aY, .int .i64 aU, .int .i64 aV, .int .i64 aM, .int .i64 aB, .int .i64 aR, .int .i64 aQ], .agg [.int .i64 bI, .int .i64 bK, .int .i64 bW, .int .i64 bH, .int .i64 bX, .int .i64 bY, .int .i64 bU, .int .i64 bV, .int .i64 bM, .int .i64 bB, .int .i64 bR, .int .i64 bQ], .int .i64 n] [] Q =
    (ifB (aM == (0 : Int)) (Q (SV.int IntKind.i64 (IntKind.wrap IntKind.i64 (n * bM))) []) (ifB (bM == (0 : Int)) (Q (SV.int IntKind.i64 (IntKind.wrap IntKind.i64 (n * aM))) []) (IntKind.wrap IntKind.i64 (aM + bM) ≠ (0 : Int) ∧ Q (SV.int IntKind.i64 (IntKind.wrap IntKind.i64 (Int.tdiv (IntKind.wrap IntKind.i64 (IntKind.wrap IntKind.i64 (n * aM) * bM)) (IntKind.wrap IntKind.i64 (aM + bM))))) []))) := by kernel_rfl

theorem ok_l8Mass : FsOk Tryz.prog 175 fs_l8Mass := fsOk_of tt_ok tabFs_nil mixed Tryz.func175 (by kernel_rfl) (by kernel_rfl) (by
    intro args LL p r HH h hp
    unfold fs_l8Mass at h
    dsimp only at h
    split at h
    case h_2 => cases h
    rename_i aI aK aW aH aX aY aU aV aM aB aR aQ bI bK bW bH bX bY bU bV bM bB bR bQ n
    simp only [Option.some.injEq, Prod.mk.injEq] at h
    obtain ⟨rfl, rfl, rfl⟩ := h
    refine ⟨by simp [Form, stays], L0, ?_⟩
    rw [vc_l8Mass]
    try dsimp only
    obtain ⟨pa, pb⟩ := hp _ rfl
    refine ifB_of (fun c => ?_) (fun c => ifB_of (fun c2 => ?_) (fun c2 => ⟨?_, ?_⟩))
    · simp [together, c]
    · simp [together, c, c2]
    · have h1 := pa.m0
      have h2 := pa.m1
      have h3 := pb.m0
      have h4 := pb.m1
      simp only [beq_eq_false_iff_ne] at c c2 h1 h2 h3 h4
      rw [wrap_small (by omega) (by omega)]
      omega
    · simp [together, c, c2])

theorem pushV_zero {a b : Body} {h : Hit} {z : Bool} (hc : closing a b h.Way ≤ 0 ∨ (a.Mass == 0 && b.Mass == 0) = true) : pushV a b h z = ⟨0, 0⟩ := by
  unfold pushV
  rcases hc with hc | hc
  · simp [hc]
  · simp [hc]
theorem pushV_some {a b : Body} {h : Hit} {z : Bool} (hc : ¬ closing a b h.Way ≤ 0) (hm : (a.Mass == 0 && b.Mass == 0) = false) : pushV a b h z = pushW a b h (pushP a b (closing a b h.Way) z) := by
  unfold pushV
  rw [hm]
  simp [hc]
noncomputable def fs_implPushOfIn : Fs := ⟨[], fun args H => match args, H with
  | [.agg [.int .i64 aI, .int .i64 aK, .int .i64 aW, .int .i64 aH, .int .i64 aX, .int .i64 aY, .int .i64 aU, .int .i64 aV, .int .i64 aM, .int .i64 aB, .int .i64 aR, .int .i64 aQ], .agg [.int .i64 bI, .int .i64 bK, .int .i64 bW, .int .i64 bH, .int .i64 bX, .int .i64 bY, .int .i64 bU, .int .i64 bV, .int .i64 bM, .int .i64 bB, .int .i64 bR, .int .i64 bQ], .agg [.int .i64 hX, .int .i64 hY, .int .i64 hD], .bool z], [] => some ((some (POk (Body.mk aI (Shape.mk aK aW aH) (Vec.mk aX aY) (Vec.mk aU aV) aM aB aR aQ) ∧ POk (Body.mk bI (Shape.mk bK bW bH) (Vec.mk bX bY) (Vec.mk bU bV) bM bB bR bQ))), .agg [.int .i64 (pushV (Body.mk aI (Shape.mk aK aW aH) (Vec.mk aX aY) (Vec.mk aU aV) aM aB aR aQ) (Body.mk bI (Shape.mk bK bW bH) (Vec.mk bX bY) (Vec.mk bU bV) bM bB bR bQ) (Hit.mk (Vec.mk hX hY) hD) z).X, .int .i64 (pushV (Body.mk aI (Shape.mk aK aW aH) (Vec.mk aX aY) (Vec.mk aU aV) aM aB aR aQ) (Body.mk bI (Shape.mk bK bW bH) (Vec.mk bX bY) (Vec.mk bU bV) bM bB bR bQ) (Hit.mk (Vec.mk hX hY) hD) z).Y], [])
  | _, _ => none⟩

theorem vc_implPushOfIn (aI : Int) (aK : Int) (aW : Int) (aH : Int) (aX : Int) (aY : Int) (aU : Int) (aV : Int) (aM : Int) (aB : Int) (aR : Int) (aQ : Int) (bI : Int) (bK : Int) (bW : Int) (bH : Int) (bX : Int) (bY : Int) (bU : Int) (bV : Int) (bM : Int) (bB : Int) (bR : Int) (bQ : Int) (hX : Int) (hY : Int) (hD : Int) (z : Bool) (Q : SV → List Ent → Prop) :
    fnVC tt (look [(128, fs_implClosingIn), (64, fs_bodyFixed), (129, fs_implTogether), (130, fs_implWithin), (94, fs_vecClamped)]) L0 Tryz.f89 [.agg [.int .i64 aI, .int .i64 aK, .int .i64 aW, .int .i64 aH, .int .i64 aX, .int .i64 aY, .int .i64 aU, .int .i64 aV, .int .i64 aM, .int .i64 aB, .int .i64 aR, .int .i64 aQ], .agg [.int .i64 bI, .int .i64 bK, .int .i64 bW, .int .i64 bH, .int .i64 bX, .int .i64 bY, .int .i64 bU, .int .i64 bV, .int .i64 bM, .int .i64 bB, .int .i64 bR, .int .i64 bQ], .agg [.int .i64 hX, .int .i64 hY, .int .i64 hD], .bool z] [] Q =
    (let w_ := IntKind.wrap IntKind.i64; let s_ := SV.int IntKind.i64; let A2_ := (Body.mk bI (Shape.mk bK bW bH) (Vec.mk bX bY) (Vec.mk bU bV) bM bB bR bQ); let A1_ := (Body.mk aI (Shape.mk aK aW aH) (Vec.mk aX aY) (Vec.mk aU aV) aM aB aR aQ); let A5_ := (w_ (Int.tdiv (w_ (together A1_ A2_ (closing A1_ A2_ (Vec.mk hX hY)) * if bR < aR then bR else aR)) (256 : Int))); let A4_ := (together A1_ A2_ (closing A1_ A2_ (Vec.mk (w_ ((0 : Int) - hY)) hX))); let A9_ := (withinI (w_ (Int.tdiv (w_ (w_ (together A1_ A2_ (closing A1_ A2_ (Vec.mk hX hY)) * hY) + w_ (withinI A4_ A5_ * hX))) (256 : Int))) (20000000 : Int)); let A7_ := (withinI (w_ (Int.tdiv (w_ (w_ (together A1_ A2_ (closing A1_ A2_ (Vec.mk hX hY)) * hX) + w_ (withinI A4_ A5_ * w_ ((0 : Int) - hY)))) (256 : Int))) (20000000 : Int)); let A3_ := (w_ (closing A1_ A2_ (Vec.mk hX hY) + w_ (Int.tdiv (w_ (closing A1_ A2_ (Vec.mk hX hY) * if bB > aB then bB else aB)) (256 : Int)))); let A6_ := (w_ (Int.tdiv (w_ (together A1_ A2_ A3_ * if bR < aR then bR else aR)) (256 : Int))); let A10_ := (withinI (w_ (Int.tdiv (w_ (w_ (together A1_ A2_ A3_ * hY) + w_ (withinI A4_ A6_ * hX))) (256 : Int))) (20000000 : Int)); let A8_ := (withinI (w_ (Int.tdiv (w_ (w_ (together A1_ A2_ A3_ * hX) + w_ (withinI A4_ A6_ * w_ ((0 : Int) - hY)))) (256 : Int))) (20000000 : Int)); ifB (decide (closing A1_ A2_ (Vec.mk hX hY) ≤ (0 : Int))) (Q (SV.agg [s_ (0 : Int), s_ (0 : Int)]) []) (ifB (aM == (0 : Int)) (ifB (bM == (0 : Int)) (Q (SV.agg [s_ (0 : Int), s_ (0 : Int)]) []) (ifB z ((POk A1_ ∧ POk A2_) ∧ (POk A1_ ∧ POk A2_) ∧ Q (SV.agg [s_ A8_, s_ A10_]) []) ((POk A1_ ∧ POk A2_) ∧ (POk A1_ ∧ POk A2_) ∧ Q (SV.agg [s_ A7_, s_ A9_]) []))) (ifB z ((POk A1_ ∧ POk A2_) ∧ (POk A1_ ∧ POk A2_) ∧ Q (SV.agg [s_ A8_, s_ A10_]) []) ((POk A1_ ∧ POk A2_) ∧ (POk A1_ ∧ POk A2_) ∧ Q (SV.agg [s_ A7_, s_ A9_]) [])))) := by kernel_rfl

theorem ok_implPushOfIn : FsOk Tryz.prog 89 fs_implPushOfIn := fsOk_of tt_ok (tabFs_cons ok_implClosingIn (tabFs_cons ok_bodyFixed (tabFs_cons ok_implTogether (tabFs_cons ok_implWithin (tabFs_cons ok_vecClamped tabFs_nil))))) mixed Tryz.func89 (by kernel_rfl) (by kernel_rfl) (by
    intro args LL p r HH h hp
    unfold fs_implPushOfIn at h
    dsimp only at h
    split at h
    case h_2 => cases h
    rename_i aI aK aW aH aX aY aU aV aM aB aR aQ bI bK bW bH bX bY bU bV bM bB bR bQ hX hY hD z
    simp only [Option.some.injEq, Prod.mk.injEq] at h
    obtain ⟨rfl, rfl, rfl⟩ := h
    refine ⟨by simp [Form, stays], L0, ?_⟩
    rw [vc_implPushOfIn]
    try dsimp only
    obtain ⟨pa, pb⟩ := hp _ rfl
    have pz : closing (Body.mk aI (Shape.mk aK aW aH) (Vec.mk aX aY) (Vec.mk aU aV) aM aB aR aQ) (Body.mk bI (Shape.mk bK bW bH) (Vec.mk bX bY) (Vec.mk bU bV) bM bB bR bQ) (Vec.mk hX hY) ≤ 0 ∨ (aM == 0 && bM == 0) = true → pushV (Body.mk aI (Shape.mk aK aW aH) (Vec.mk aX aY) (Vec.mk aU aV) aM aB aR aQ) (Body.mk bI (Shape.mk bK bW bH) (Vec.mk bX bY) (Vec.mk bU bV) bM bB bR bQ) (Hit.mk (Vec.mk hX hY) hD) z = ⟨0, 0⟩ := fun q => pushV_zero (h := (Hit.mk (Vec.mk hX hY) hD)) q
    have ps : ¬ closing (Body.mk aI (Shape.mk aK aW aH) (Vec.mk aX aY) (Vec.mk aU aV) aM aB aR aQ) (Body.mk bI (Shape.mk bK bW bH) (Vec.mk bX bY) (Vec.mk bU bV) bM bB bR bQ) (Vec.mk hX hY) ≤ 0 → (aM == 0 && bM == 0) = false → pushV (Body.mk aI (Shape.mk aK aW aH) (Vec.mk aX aY) (Vec.mk aU aV) aM aB aR aQ) (Body.mk bI (Shape.mk bK bW bH) (Vec.mk bX bY) (Vec.mk bU bV) bM bB bR bQ) (Hit.mk (Vec.mk hX hY) hD) z = pushW (Body.mk aI (Shape.mk aK aW aH) (Vec.mk aX aY) (Vec.mk aU aV) aM aB aR aQ) (Body.mk bI (Shape.mk bK bW bH) (Vec.mk bX bY) (Vec.mk bU bV) bM bB bR bQ) (Hit.mk (Vec.mk hX hY) hD) (pushP (Body.mk aI (Shape.mk aK aW aH) (Vec.mk aX aY) (Vec.mk aU aV) aM aB aR aQ) (Body.mk bI (Shape.mk bK bW bH) (Vec.mk bX bY) (Vec.mk bU bV) bM bB bR bQ) (closing (Body.mk aI (Shape.mk aK aW aH) (Vec.mk aX aY) (Vec.mk aU aV) aM aB aR aQ) (Body.mk bI (Shape.mk bK bW bH) (Vec.mk bX bY) (Vec.mk bU bV) bM bB bR bQ) (Vec.mk hX hY)) z) := fun q r => pushV_some (h := (Hit.mk (Vec.mk hX hY) hD)) q r
    refine ifB_of (fun c1 => ?_) (fun c1 => ?_)
    · rw [pz (.inl (of_decide_eq_true c1))]
      exact ⟨(by trivial), (by trivial)⟩
    have c1 := of_decide_eq_false c1
    simp only [max_if, min_if]
    refine ifB_of (fun c2 => ifB_of (fun c3 => ?_) (fun c3 => ?_)) (fun c2 => ?_)
    · rw [pz (.inr (by simp [c2, c3]))]
      exact ⟨(by trivial), (by trivial)⟩
    · have hm : ¬ (aM = 0 ∧ bM = 0) := by simp at c2 c3; omega
      rw [ps c1 (by simp [c2, c3])]
      refine ifB_of (fun c4 => ?_) (fun c4 => ?_)
      · subst c4
        refine ⟨⟨pa, pb⟩, ⟨pa, pb⟩, ?_⟩
        (exact ⟨(by trivial), (by trivial)⟩)
      · subst c4
        refine ⟨⟨pa, pb⟩, ⟨pa, pb⟩, ?_⟩
        (exact ⟨(by trivial), (by trivial)⟩)
    · have hm : ¬ (aM = 0 ∧ bM = 0) := by simp at c2; omega
      rw [ps c1 (by simp [c2])]
      refine ifB_of (fun c4 => ?_) (fun c4 => ?_)
      · subst c4
        refine ⟨⟨pa, pb⟩, ⟨pa, pb⟩, ?_⟩
        (exact ⟨(by trivial), (by trivial)⟩)
      · subst c4
        refine ⟨⟨pa, pb⟩, ⟨pa, pb⟩, ?_⟩
        (exact ⟨(by trivial), (by trivial)⟩))

noncomputable def fs_l8Push : Fs := ⟨[], fun args H => match args, H with
  | [.agg [.int .i64 aI, .int .i64 aK, .int .i64 aW, .int .i64 aH, .int .i64 aX, .int .i64 aY, .int .i64 aU, .int .i64 aV, .int .i64 aM, .int .i64 aB, .int .i64 aR, .int .i64 aQ], .agg [.int .i64 bI, .int .i64 bK, .int .i64 bW, .int .i64 bH, .int .i64 bX, .int .i64 bY, .int .i64 bU, .int .i64 bV, .int .i64 bM, .int .i64 bB, .int .i64 bR, .int .i64 bQ], .agg [.int .i64 hX, .int .i64 hY, .int .i64 hD], .bool z], [] => some ((some (POk (Body.mk aI (Shape.mk aK aW aH) (Vec.mk aX aY) (Vec.mk aU aV) aM aB aR aQ) ∧ POk (Body.mk bI (Shape.mk bK bW bH) (Vec.mk bX bY) (Vec.mk bU bV) bM bB bR bQ))), .agg [.int .i64 (pushV (Body.mk aI (Shape.mk aK aW aH) (Vec.mk aX aY) (Vec.mk aU aV) aM aB aR aQ) (Body.mk bI (Shape.mk bK bW bH) (Vec.mk bX bY) (Vec.mk bU bV) bM bB bR bQ) (Hit.mk (Vec.mk hX hY) hD) z).X, .int .i64 (pushV (Body.mk aI (Shape.mk aK aW aH) (Vec.mk aX aY) (Vec.mk aU aV) aM aB aR aQ) (Body.mk bI (Shape.mk bK bW bH) (Vec.mk bX bY) (Vec.mk bU bV) bM bB bR bQ) (Hit.mk (Vec.mk hX hY) hD) z).Y], [])
  | _, _ => none⟩

theorem vc_l8Push (aI : Int) (aK : Int) (aW : Int) (aH : Int) (aX : Int) (aY : Int) (aU : Int) (aV : Int) (aM : Int) (aB : Int) (aR : Int) (aQ : Int) (bI : Int) (bK : Int) (bW : Int) (bH : Int) (bX : Int) (bY : Int) (bU : Int) (bV : Int) (bM : Int) (bB : Int) (bR : Int) (bQ : Int) (hX : Int) (hY : Int) (hD : Int) (z : Bool) (Q : SV → List Ent → Prop) :
    fnVC tt (look [(174, fs_l8Closing), (152, fs_l3More), (175, fs_l8Mass), (176, fs_specVecDot), (177, fs_specVecSub), (136, fs_specSpeed), (131, fs_l3Less), (127, fs_specWithin)]) L0 Tryz.f155 [.agg [.int .i64 aI, .int .i64 aK, .int .i64 aW, .int .i64 aH, .int .i64 aX, .int .i64 aY, .int .i64 aU, .int .i64 aV, .int .i64 aM, .int .i64 aB, .int .i64 aR, .int .i64 aQ], .agg [.int .i64 bI, .int .i64 bK, .int .i64 bW, .int .i64 bH, .int .i64 bX, .int .i64 bY, .int .i64 bU, .int .i64 bV, .int .i64 bM, .int .i64 bB, .int .i64 bR, .int .i64 bQ], .agg [.int .i64 hX, .int .i64 hY, .int .i64 hD], .bool z] [] Q =
    (let w_ := IntKind.wrap IntKind.i64; let s_ := SV.int IntKind.i64; let A2_ := (Body.mk bI (Shape.mk bK bW bH) (Vec.mk bX bY) (Vec.mk bU bV) bM bB bR bQ); let A1_ := (Body.mk aI (Shape.mk aK aW aH) (Vec.mk aX aY) (Vec.mk aU aV) aM aB aR aQ); let A4_ := (together A1_ A2_ (dot (vecSub (speed A1_) (speed A2_)) (Vec.mk (w_ ((0 : Int) - hY)) hX))); let A6_ := (withinS (w_ (Int.tdiv (w_ (w_ (together A1_ A2_ (closing A1_ A2_ (Vec.mk hX hY)) * hY) + w_ (withinS A4_ (w_ (Int.tdiv (w_ (together A1_ A2_ (closing A1_ A2_ (Vec.mk hX hY)) * min aR bR)) (256 : Int))) * hX))) (256 : Int))) (20000000 : Int)); let A5_ := (withinS (w_ (Int.tdiv (w_ (w_ (together A1_ A2_ (closing A1_ A2_ (Vec.mk hX hY)) * hX) + w_ (withinS A4_ (w_ (Int.tdiv (w_ (together A1_ A2_ (closing A1_ A2_ (Vec.mk hX hY)) * min aR bR)) (256 : Int))) * w_ ((0 : Int) - hY)))) (256 : Int))) (20000000 : Int)); let A3_ := (w_ (closing A1_ A2_ (Vec.mk hX hY) + w_ (Int.tdiv (w_ (closing A1_ A2_ (Vec.mk hX hY) * max aB bB)) (256 : Int)))); let A8_ := (withinS (w_ (Int.tdiv (w_ (w_ (together A1_ A2_ A3_ * hY) + w_ (withinS A4_ (w_ (Int.tdiv (w_ (together A1_ A2_ A3_ * min aR bR)) (256 : Int))) * hX))) (256 : Int))) (20000000 : Int)); let A7_ := (withinS (w_ (Int.tdiv (w_ (w_ (together A1_ A2_ A3_ * hX) + w_ (withinS A4_ (w_ (Int.tdiv (w_ (together A1_ A2_ A3_ * min aR bR)) (256 : Int))) * w_ ((0 : Int) - hY)))) (256 : Int))) (20000000 : Int)); ifB (decide (closing A1_ A2_ (Vec.mk hX hY) ≤ (0 : Int))) (Q (SV.agg [s_ (0 : Int), s_ (0 : Int)]) []) (ifB (aM == (0 : Int)) (ifB (bM == (0 : Int)) (Q (SV.agg [s_ (0 : Int), s_ (0 : Int)]) []) (ifB z ((POk A1_ ∧ POk A2_) ∧ (POk A1_ ∧ POk A2_) ∧ Q (SV.agg [s_ A7_, s_ A8_]) []) ((POk A1_ ∧ POk A2_) ∧ (POk A1_ ∧ POk A2_) ∧ Q (SV.agg [s_ A5_, s_ A6_]) []))) (ifB z ((POk A1_ ∧ POk A2_) ∧ (POk A1_ ∧ POk A2_) ∧ Q (SV.agg [s_ A7_, s_ A8_]) []) ((POk A1_ ∧ POk A2_) ∧ (POk A1_ ∧ POk A2_) ∧ Q (SV.agg [s_ A5_, s_ A6_]) [])))) := by kernel_rfl

theorem ok_l8Push : FsOk Tryz.prog 155 fs_l8Push := fsOk_of tt_ok (tabFs_cons ok_l8Closing (tabFs_cons ok_l3More (tabFs_cons ok_l8Mass (tabFs_cons ok_specVecDot (tabFs_cons ok_specVecSub (tabFs_cons ok_specSpeed (tabFs_cons ok_l3Less (tabFs_cons ok_specWithin tabFs_nil)))))))) mixed Tryz.func155 (by kernel_rfl) (by kernel_rfl) (by
    intro args LL p r HH h hp
    unfold fs_l8Push at h
    dsimp only at h
    split at h
    case h_2 => cases h
    rename_i aI aK aW aH aX aY aU aV aM aB aR aQ bI bK bW bH bX bY bU bV bM bB bR bQ hX hY hD z
    simp only [Option.some.injEq, Prod.mk.injEq] at h
    obtain ⟨rfl, rfl, rfl⟩ := h
    refine ⟨by simp [Form, stays], L0, ?_⟩
    rw [vc_l8Push]
    try dsimp only
    obtain ⟨pa, pb⟩ := hp _ rfl
    have pz : closing (Body.mk aI (Shape.mk aK aW aH) (Vec.mk aX aY) (Vec.mk aU aV) aM aB aR aQ) (Body.mk bI (Shape.mk bK bW bH) (Vec.mk bX bY) (Vec.mk bU bV) bM bB bR bQ) (Vec.mk hX hY) ≤ 0 ∨ (aM == 0 && bM == 0) = true → pushV (Body.mk aI (Shape.mk aK aW aH) (Vec.mk aX aY) (Vec.mk aU aV) aM aB aR aQ) (Body.mk bI (Shape.mk bK bW bH) (Vec.mk bX bY) (Vec.mk bU bV) bM bB bR bQ) (Hit.mk (Vec.mk hX hY) hD) z = ⟨0, 0⟩ := fun q => pushV_zero (h := (Hit.mk (Vec.mk hX hY) hD)) q
    have ps : ¬ closing (Body.mk aI (Shape.mk aK aW aH) (Vec.mk aX aY) (Vec.mk aU aV) aM aB aR aQ) (Body.mk bI (Shape.mk bK bW bH) (Vec.mk bX bY) (Vec.mk bU bV) bM bB bR bQ) (Vec.mk hX hY) ≤ 0 → (aM == 0 && bM == 0) = false → pushV (Body.mk aI (Shape.mk aK aW aH) (Vec.mk aX aY) (Vec.mk aU aV) aM aB aR aQ) (Body.mk bI (Shape.mk bK bW bH) (Vec.mk bX bY) (Vec.mk bU bV) bM bB bR bQ) (Hit.mk (Vec.mk hX hY) hD) z = pushW (Body.mk aI (Shape.mk aK aW aH) (Vec.mk aX aY) (Vec.mk aU aV) aM aB aR aQ) (Body.mk bI (Shape.mk bK bW bH) (Vec.mk bX bY) (Vec.mk bU bV) bM bB bR bQ) (Hit.mk (Vec.mk hX hY) hD) (pushP (Body.mk aI (Shape.mk aK aW aH) (Vec.mk aX aY) (Vec.mk aU aV) aM aB aR aQ) (Body.mk bI (Shape.mk bK bW bH) (Vec.mk bX bY) (Vec.mk bU bV) bM bB bR bQ) (closing (Body.mk aI (Shape.mk aK aW aH) (Vec.mk aX aY) (Vec.mk aU aV) aM aB aR aQ) (Body.mk bI (Shape.mk bK bW bH) (Vec.mk bX bY) (Vec.mk bU bV) bM bB bR bQ) (Vec.mk hX hY)) z) := fun q r => pushV_some (h := (Hit.mk (Vec.mk hX hY) hD)) q r
    refine ifB_of (fun c1 => ?_) (fun c1 => ?_)
    · rw [pz (.inl (of_decide_eq_true c1))]
      exact ⟨(by trivial), (by trivial)⟩
    have c1 := of_decide_eq_false c1
    have k : ∀ n, withinS n 20000000 = withinI n 20000000 := fun n => withinS_eq (by omega) (by omega)
    have cl := closing_le (Body.mk aI (Shape.mk aK aW aH) (Vec.mk aX aY) (Vec.mk aU aV) aM aB aR aQ) (Body.mk bI (Shape.mk bK bW bH) (Vec.mk bX bY) (Vec.mk bU bV) bM bB bR bQ) (Vec.mk hX hY)
    simp only [k]
    have key : ∀ (z : Bool), ¬ (aM = 0 ∧ bM = 0) → ∀ n, withinS n (W ((W (pushP (Body.mk aI (Shape.mk aK aW aH) (Vec.mk aX aY) (Vec.mk aU aV) aM aB aR aQ) (Body.mk bI (Shape.mk bK bW bH) (Vec.mk bX bY) (Vec.mk bU bV) bM bB bR bQ) (closing (Body.mk aI (Shape.mk aK aW aH) (Vec.mk aX aY) (Vec.mk aU aV) aM aB aR aQ) (Body.mk bI (Shape.mk bK bW bH) (Vec.mk bX bY) (Vec.mk bU bV) bM bB bR bQ) (Vec.mk hX hY)) z * min aR bR)).tdiv 256)) = withinI n (W ((W (pushP (Body.mk aI (Shape.mk aK aW aH) (Vec.mk aX aY) (Vec.mk aU aV) aM aB aR aQ) (Body.mk bI (Shape.mk bK bW bH) (Vec.mk bX bY) (Vec.mk bU bV) bM bB bR bQ) (closing (Body.mk aI (Shape.mk aK aW aH) (Vec.mk aX aY) (Vec.mk aU aV) aM aB aR aQ) (Body.mk bI (Shape.mk bK bW bH) (Vec.mk bX bY) (Vec.mk bU bV) bM bB bR bQ) (Vec.mk hX hY)) z * min aR bR)).tdiv 256)) := by
      intro z hm n
      have hp := pushP_le pa pb hm (show 0 ≤ closing (Body.mk aI (Shape.mk aK aW aH) (Vec.mk aX aY) (Vec.mk aU aV) aM aB aR aQ) (Body.mk bI (Shape.mk bK bW bH) (Vec.mk bX bY) (Vec.mk bU bV) bM bB bR bQ) (Vec.mk hX hY) by omega) cl.2 z
      have hq := most_le pa pb hp.1 hp.2
      exact withinS_eq hq.1 (Int.le_trans hq.2 (by omega))
    refine ifB_of (fun c2 => ifB_of (fun c3 => ?_) (fun c3 => ?_)) (fun c2 => ?_)
    · rw [pz (.inr (by simp [c2, c3]))]
      exact ⟨(by trivial), (by trivial)⟩
    · have hm : ¬ (aM = 0 ∧ bM = 0) := by simp at c2 c3; omega
      rw [ps c1 (by simp [c2, c3])]
      refine ifB_of (fun c4 => ?_) (fun c4 => ?_)
      · subst c4
        refine ⟨⟨pa, pb⟩, ⟨pa, pb⟩, ?_⟩
        (have q := key true hm; simp only [pushP, cond_true, cond_false] at q; rw [q]; exact ⟨rfl, (by trivial)⟩)
      · subst c4
        refine ⟨⟨pa, pb⟩, ⟨pa, pb⟩, ?_⟩
        (have q := key false hm; simp only [pushP, cond_true, cond_false] at q; rw [q]; exact ⟨rfl, (by trivial)⟩)
    · have hm : ¬ (aM = 0 ∧ bM = 0) := by simp at c2; omega
      rw [ps c1 (by simp [c2])]
      refine ifB_of (fun c4 => ?_) (fun c4 => ?_)
      · subst c4
        refine ⟨⟨pa, pb⟩, ⟨pa, pb⟩, ?_⟩
        (have q := key true hm; simp only [pushP, cond_true, cond_false] at q; rw [q]; exact ⟨rfl, (by trivial)⟩)
      · subst c4
        refine ⟨⟨pa, pb⟩, ⟨pa, pb⟩, ?_⟩
        (have q := key false hm; simp only [pushP, cond_true, cond_false] at q; rw [q]; exact ⟨rfl, (by trivial)⟩))


structure World where
  Tick : Int
  Pull : Int
  Bodies : List Body
  Pairs : List Pair
instance : Nonempty World := ⟨⟨0, 0, [], []⟩⟩
def pullOf (p : Int) : Int := bif isIn p 0 2560 then p else 0
noncomputable def fs_specWorldNew : Fs := ⟨[], fun args H => match args, H with
  | [.int .i64 p], [] => some (none, .agg [.int .i64 0, .int .i64 (pullOf p), .vec 0, .vec 1], [(true, .vec .body []), (true, .vec .pair [])])
  | _, _ => none⟩

theorem vc_specWorldNew (p : Int) (Q : SV → List Ent → Prop) :
    fnVC tt (look [(62, fs_l1In)]) L0 Tryz.f141 [.int .i64 p] [] Q =
    (ifB (!isIn p (0 : Int) (2560 : Int)) (Q (SV.agg [SV.int IntKind.i64 (0 : Int), SV.int IntKind.i64 (0 : Int), SV.vec (0 : Nat), SV.vec (1 : Nat)]) [(true, Blk.vec Ty.body []), (true, Blk.vec Ty.pair [])]) (Q (SV.agg [SV.int IntKind.i64 (0 : Int), SV.int IntKind.i64 p, SV.vec (0 : Nat), SV.vec (1 : Nat)]) [(true, Blk.vec Ty.body []), (true, Blk.vec Ty.pair [])])) := by kernel_rfl

theorem ok_specWorldNew : FsOk Tryz.prog 141 fs_specWorldNew := fsOk_of tt_ok (tabFs_cons ok_l1In tabFs_nil) mixed Tryz.func141 (by kernel_rfl) (by kernel_rfl) (by
    intro args LL p r HH h hp
    unfold fs_specWorldNew at h
    dsimp only at h
    split at h
    case h_2 => cases h
    rename_i p
    simp only [Option.some.injEq, Prod.mk.injEq] at h
    obtain ⟨rfl, rfl, rfl⟩ := h
    refine ⟨by simp [Form, stays], L0, ?_⟩
    rw [vc_specWorldNew]
    try dsimp only
    refine ifB_of (fun c => ?_) (fun c => ?_)
    · simp [pullOf, not_true c]
    · simp [pullOf, not_false c])

noncomputable def eqW4 (a b : Int) (xs : List Body) (ps : List Pair) (c d : Int) (ys : List Body) (qs : List Pair) : Bool := a == c && b == d && (same xs ys && same ps qs)
@[simp] theorem eqW4_self (a b : Int) (xs : List Body) (ps : List Pair) : eqW4 a b xs ps a b xs ps = true := by simp [eqW4]
end Go.Proofs.YtnahfbjdicjdpaaGreat.Sym

namespace Go.Proofs.YtnahfbjdicjdpaaGreat.Sym
open Go
set_option linter.unusedVariables false
set_option linter.unusedSimpArgs false
set_option maxRecDepth 100000

instance : Nonempty Vec := ⟨⟨0, 0⟩⟩
instance : Nonempty Shape := ⟨⟨0, 0, 0⟩⟩
instance : Nonempty Box := ⟨⟨⟨0, 0⟩, ⟨0, 0⟩⟩⟩
instance : Nonempty Ray := ⟨⟨⟨0, 0⟩, ⟨0, 0⟩⟩⟩
instance : Nonempty Item := ⟨⟨0, ⟨⟨0, 0⟩, ⟨0, 0⟩⟩⟩⟩
instance : Nonempty Pair := ⟨⟨0, 0⟩⟩
instance : Nonempty Hit := ⟨⟨⟨0, 0⟩, 0⟩⟩
instance : Nonempty Contact := ⟨⟨0, 0, ⟨⟨0, 0⟩, 0⟩⟩⟩
instance : Nonempty Body := ⟨⟨0, ⟨0, 0, 0⟩, ⟨0, 0⟩, ⟨0, 0⟩, 0, 0, 0, 0⟩⟩

structure BytesOk (b : List Int) : Prop where
  out : ∀ x ∈ b, 0 ≤ x ∧ x ≤ 255
theorem BytesOk.ix {b : List Int} (h : BytesOk b) (i : Nat) : @LE.le Int Int.instLEInt 0 (Ty.ix .byte b i) ∧ @LE.le Int Int.instLEInt (Ty.ix .byte b i) 255 := by
  simp only [Ty.ix, List.getD_eq_getElem?_getD]
  cases e : b[i]? with
  | none => simp [Ty.dft]
  | some x => exact h.out x (List.mem_of_getElem? e)
theorem BytesOk.part {b : List Int} (h : BytesOk b) (i n : Nat) : BytesOk ((b.drop i).take n) :=
  ⟨fun x hx => h.out x (List.mem_of_mem_drop (List.mem_of_mem_take hx))⟩
theorem xor_nonneg {a b : Int} (ha : 0 ≤ a) (hb : 0 ≤ b) (ha' : a < 9223372036854775808) (hb' : b < 9223372036854775808) :
    0 ≤ IntKind.i64.wrap (BitVec.ofInt IntKind.i64.bits a ^^^ BitVec.ofInt IntKind.i64.bits b).toNat := by
  obtain ⟨m, rfl⟩ := Int.eq_ofNat_of_zero_le ha
  obtain ⟨n, rfl⟩ := Int.eq_ofNat_of_zero_le hb
  have e : IntKind.i64.bits = 64 := rfl
  rw [e]
  have hm : m < 2 ^ 63 := by omega
  have hn : n < 2 ^ 63 := by omega
  have h1 : (BitVec.ofInt 64 (m : Int) ^^^ BitVec.ofInt 64 (n : Int)).toNat = m ^^^ n := by
    rw [BitVec.toNat_xor]
    simp only [BitVec.toNat_ofInt]
    congr 1 <;> omega
  rw [h1]
  have h2 : m ^^^ n < 2 ^ 63 := Nat.xor_lt_two_pow hm hn
  rw [wrap_small (by omega) (by omega)]
  omega
theorem tmod_emod {a n : Int} (ha : 0 ≤ a) (hn : 1 ≤ n) : 0 ≤ a.tmod n ∧ a.tmod n < n := by
  rw [Int.tmod_eq_emod_of_nonneg ha]
  exact ⟨Int.emod_nonneg _ (by omega), Int.emod_lt_of_pos _ (by omega)⟩

noncomputable def g_rdPick (b : List Int) (p : Int) (n : Int) : Int := someAns tt (look []) Tryz.f69 [.ptr 1 0 0, .int .i64 n] [(false, .vec .byte b), (true, .box [.vec 0, .int .i64 p])] (fun x : Int => (.int .i64 (x % n) : SV)) (fun x : Int => ([(false, .vec .byte b), (true, .box [.vec 0, .int .i64 (p+1)])] : List Ent))
noncomputable def fs_rdPick : Fs := ⟨[], fun args H => match args, H with
  | [.ptr 1 0 0, .int .i64 n], [(false, .vec .byte b), (true, .box [.vec 0, .int .i64 p])] => some ((some (0 ≤ p ∧ p + 1 ≤ 1000000000000 ∧ BytesOk b ∧ 1 ≤ n)), .int .i64 ((g_rdPick b p n) % n), [(false, .vec .byte b), (true, .box [.vec 0, .int .i64 (p+1)])])
  | _, _ => none⟩

theorem vc_rdPick (b : List Int) (p : Int) (n : Int) (Q : SV → List Ent → Prop) :
    fnVC tt (look []) L0 Tryz.f69 [.ptr 1 0 0, .int .i64 n] [(false, .vec .byte b), (true, .box [.vec 0, .int .i64 p])] Q =
    (let w_ := IntKind.wrap IntKind.i64; let s_ := SV.int IntKind.i64; let A4_ := (true, Blk.box [SV.vec (0 : Nat), s_ (w_ (p + (1 : Int)))]); let A3_ := (↑(List.length b) : Int); let A2_ := (w_ (p + (1 : Int)) - (1 : Int)); let A5_ := (w_ (w_ (w_ A2_ * (7 : Int)) + (3 : Int))); let A1_ := (w_ (w_ (w_ (w_ (w_ (Ty.ix Ty.byte b (Int.toNat (Int.tmod (w_ A2_) A3_))) * (131 : Int)) + w_ (w_ (Ty.ix Ty.byte b (Int.toNat (Int.tmod A5_ A3_))) * (1117 : Int))) + w_ (w_ A2_ * (29 : Int))) + w_ (w_ (Int.tdiv (w_ A2_) A3_) * (53 : Int)))); ifB (decide (n < (1 : Int))) (Q (s_ (0 : Int)) [(false, Blk.vec Ty.byte b), A4_]) (ifB (A3_ == (0 : Int)) (Q (s_ (0 : Int)) [(false, Blk.vec Ty.byte b), A4_]) (ifB (decide (w_ A2_ < A3_)) (((0 : Int) ≤ w_ A2_ ∧ w_ A2_ < A3_) ∧ n ≠ (0 : Int) ∧ Q (s_ (Int.tmod (w_ (Ty.ix Ty.byte b (Int.toNat (w_ A2_)))) n)) [(false, Blk.vec Ty.byte b), A4_]) (A3_ ≠ (0 : Int) ∧ ((0 : Int) ≤ Int.tmod (w_ A2_) A3_ ∧ Int.tmod (w_ A2_) A3_ < A3_) ∧ A3_ ≠ (0 : Int) ∧ ((0 : Int) ≤ Int.tmod A5_ A3_ ∧ Int.tmod A5_ A3_ < A3_) ∧ A3_ ≠ (0 : Int) ∧ n ≠ (0 : Int) ∧ Q (s_ (Int.tmod (w_ (↑(BitVec.toNat (BitVec.ofInt (IntKind.bits IntKind.i64) A1_ ^^^ BitVec.ofInt (IntKind.bits IntKind.i64) (w_ (Int.tdiv A1_ (64 : Int))))) : Int)) n)) [(false, Blk.vec Ty.byte b), A4_])))) := by kernel_rfl

theorem ok_rdPick : FsOk Tryz.prog 69 fs_rdPick := fsOk_of tt_ok tabFs_nil mixed Tryz.func69 (by kernel_rfl) (by kernel_rfl) (by
    intro args LL p0 r HH h hp
    unfold fs_rdPick at h
    dsimp only at h
    split at h
    case h_2 => cases h
    rename_i n b p
    simp only [Option.some.injEq, Prod.mk.injEq] at h
    obtain ⟨rfl, rfl, rfl⟩ := h
    refine ⟨by simp [Form, stays], L0, ?_⟩
    refine someAns_ok (R := (fun x : Int => (.int .i64 (x % n) : SV))) (HH := (fun x : Int => ([(false, .vec .byte b), (true, .box [.vec 0, .int .i64 (p+1)])] : List Ent))) (by kernel_rfl) ?_
    rw [vc_rdPick]
    try dsimp only
    obtain ⟨h0, h1, hby, hn⟩ := hp _ rfl
    have fin : ∀ v : Int, 0 ≤ v → v < n → ∃ x : Int, SV.int IntKind.i64 v = SV.int IntKind.i64 (x % n) ∧ True :=
      fun v hv1 hv2 => ⟨v, by rw [Int.emod_eq_of_lt hv1 hv2], trivial⟩
    have w1 : IntKind.wrap IntKind.i64 (p + 1) = p + 1 := wrap_small (by omega) (by omega)
    have w2 : IntKind.wrap IntKind.i64 (p + 1 - 1) = p := by rw [wrap_small (by omega) (by omega)]; omega
    have w3 : IntKind.wrap IntKind.i64 (p * 7) = p * 7 := wrap_small (by omega) (by omega)
    have w4 : IntKind.wrap IntKind.i64 (p * 7 + 3) = p * 7 + 3 := wrap_small (by omega) (by omega)
    have w5 : IntKind.wrap IntKind.i64 (p * 29) = p * 29 := wrap_small (by omega) (by omega)
    simp only [w1, w2, w3, w4, w5]
    have bx := hby.ix
    have wb : ∀ i, IntKind.wrap IntKind.i64 (Ty.ix .byte b i) = Ty.ix .byte b i := fun i => wrap_small (by have := bx i; omega) (by have := bx i; omega)
    have hix : ∀ i, IntKind.wrap IntKind.i64 (Ty.ix .byte b i * 131) = Ty.ix .byte b i * 131 := fun i => wrap_small (by have := bx i; omega) (by have := bx i; omega)
    have hiy : ∀ i, IntKind.wrap IntKind.i64 (Ty.ix .byte b i * 1117) = Ty.ix .byte b i * 1117 := fun i => wrap_small (by have := bx i; omega) (by have := bx i; omega)
    simp only [wb, hix, hiy]
    refine ifB_of (fun c => ?_) (fun c => ?_)
    · have := of_decide_eq_true c
      omega
    refine ifB_of (fun c2 => ?_) (fun c2 => ?_)
    · exact fin 0 (by omega) (by omega)
    have c2 : (b.length : Int) ≠ 0 := by simpa using c2
    refine ifB_of (fun c3 => ?_) (fun c3 => ?_)
    · have c3 := of_decide_eq_true c3
      obtain ⟨q1, q2⟩ := tmod_emod (bx p.toNat).1 hn
      exact ⟨⟨h0, c3⟩, by omega, fin _ q1 q2⟩
    · have hl : (1 : Int) ≤ b.length := by omega
      have t1 := tmod_emod h0 hl
      have t2 := tmod_emod (a := p * 7 + 3) (by omega) hl
      refine ⟨c2, t1, c2, t2, c2, by omega, ?_⟩
      have d0 : 0 ≤ p.tdiv b.length := Int.tdiv_nonneg h0 (by omega)
      have d1 : p.tdiv b.length ≤ p := by
        rw [Int.tdiv_eq_ediv_of_nonneg h0]
        exact Int.ediv_le_self _ h0
      generalize p.tdiv b.length = d at d0 d1 ⊢
      have b1 := bx (p.tmod b.length).toNat
      have b2 := bx ((p * 7 + 3).tmod b.length).toNat
      obtain ⟨v1, hv1⟩ : ∃ v1 : Int, Ty.ix Ty.byte b (p.tmod b.length).toNat = v1 := ⟨_, rfl⟩
      obtain ⟨v2, hv2⟩ : ∃ v2 : Int, Ty.ix Ty.byte b ((p * 7 + 3).tmod b.length).toNat = v2 := ⟨_, rfl⟩
      rw [hv1] at b1
      rw [hv2] at b2
      rw [hv1, hv2]
      have e1 : IntKind.wrap IntKind.i64 d = d := wrap_small (by omega) (by omega)
      have e2 : IntKind.wrap IntKind.i64 (d * 53) = d * 53 := wrap_small (by omega) (by omega)
      rw [e1, e2]
      have e3 : IntKind.wrap IntKind.i64 (v1 * 131 + v2 * 1117) = v1 * 131 + v2 * 1117 := wrap_small (by omega) (by omega)
      rw [e3]
      have e4 : IntKind.wrap IntKind.i64 (v1 * 131 + v2 * 1117 + p * 29) = v1 * 131 + v2 * 1117 + p * 29 := wrap_small (by omega) (by omega)
      rw [e4]
      have e5 : IntKind.wrap IntKind.i64 (v1 * 131 + v2 * 1117 + p * 29 + d * 53) = v1 * 131 + v2 * 1117 + p * 29 + d * 53 := wrap_small (by omega) (by omega)
      rw [e5]
      have hs : 0 ≤ v1 * 131 + v2 * 1117 + p * 29 + d * 53 := by omega
      have hs2 : v1 * 131 + v2 * 1117 + p * 29 + d * 53 ≤ 100000000000000 := by omega
      generalize v1 * 131 + v2 * 1117 + p * 29 + d * 53 = s at hs hs2 ⊢
      have hd0 : 0 ≤ s.tdiv 64 := Int.tdiv_nonneg hs (by omega)
      have hd1 : s.tdiv 64 ≤ s := by
        rw [Int.tdiv_eq_ediv_of_nonneg hs]
        exact Int.ediv_le_self _ hs
      have e6 : IntKind.wrap IntKind.i64 (s.tdiv 64) = s.tdiv 64 := wrap_small (by omega) (by omega)
      rw [e6]
      obtain ⟨q1, q2⟩ := tmod_emod (xor_nonneg hs hd0 (by omega) (by omega)) hn
      exact fin _ q1 q2)

noncomputable def fs_rdOne : Fs := ⟨[], fun args H => match args, H with
  | [.ptr 1 0 0, .vec 2], [(false, .vec .byte b), (true, .box [.vec 0, .int .i64 p]), (false, .vec .int xs)] => some ((some (0 ≤ p ∧ p + 1 ≤ 1000000000000 ∧ BytesOk b ∧ 1 ≤ xs.length)), .int .i64 (Ty.ix .int xs (g_rdPick b p xs.length % xs.length).toNat), [(false, .vec .byte b), (true, .box [.vec 0, .int .i64 (p+1)]), (false, .vec .int xs)])
  | _, _ => none⟩

theorem vc_rdOne (b : List Int) (p : Int) (xs : List Int) (Q : SV → List Ent → Prop) :
    fnVC tt (look [(69, fs_rdPick)]) L0 Tryz.f51 [.ptr 1 0 0, .vec 2] [(false, .vec .byte b), (true, .box [.vec 0, .int .i64 p]), (false, .vec .int xs)] Q =
    (((0 : Int) ≤ p ∧ p + (1 : Int) ≤ (1000000000000 : Int) ∧ BytesOk b ∧ (1 : Int) ≤ (↑(List.length xs) : Int)) ∧ ((0 : Int) ≤ g_rdPick b p (↑(List.length xs) : Int) % (↑(List.length xs) : Int) ∧ g_rdPick b p (↑(List.length xs) : Int) % (↑(List.length xs) : Int) < (↑(List.length xs) : Int)) ∧ Q (SV.int IntKind.i64 (Ty.ix Ty.int xs (Int.toNat (g_rdPick b p (↑(List.length xs) : Int) % (↑(List.length xs) : Int))))) [(false, Blk.vec Ty.byte b), (true, Blk.box [SV.vec (0 : Nat), SV.int IntKind.i64 (p + (1 : Int))]), (false, Blk.vec Ty.int xs)]) := by kernel_rfl

theorem ok_rdOne : FsOk Tryz.prog 51 fs_rdOne := fsOk_of tt_ok (tabFs_cons ok_rdPick tabFs_nil) mixed Tryz.func51 (by kernel_rfl) (by kernel_rfl) (by
    intro args LL p r HH h hp
    unfold fs_rdOne at h
    dsimp only at h
    split at h
    case h_2 => cases h
    rename_i b p xs
    simp only [Option.some.injEq, Prod.mk.injEq] at h
    obtain ⟨rfl, rfl, rfl⟩ := h
    refine ⟨by simp [Form, stays], L0, ?_⟩
    rw [vc_rdOne]
    try dsimp only
    obtain ⟨h0, h1, hby, hn⟩ := hp _ rfl
    exact ⟨⟨h0, h1, hby, by omega⟩, ⟨Int.emod_nonneg _ (by omega), Int.emod_lt_of_pos _ (by omega)⟩, rfl, rfl⟩)

noncomputable def fs_l1Open : Fs := ⟨[], fun args H => match args, H with
  | [.vec 0], [(false, .vec .byte b)] => some (none, .ptr 1 0 0, [(false, .vec .byte b), (true, .box [.sl 0 0 (min b.length 2000), .int .i64 0])])
  | _, _ => none⟩

theorem vc_l1Open (b : List Int) (Q : SV → List Ent → Prop) :
    fnVC tt (look []) L0 Tryz.f49 [.vec 0] [(false, .vec .byte b)] Q =
    (ifB (decide ((↑(List.length b) : Int) > (2000 : Int))) (((0 : Int) ≤ (2000 : Int) ∧ (2000 : Int) ≤ (↑(List.length b) : Int)) ∧ Q (SV.ptr (1 : Nat) (0 : Nat) (0 : Nat)) [(false, Blk.vec Ty.byte b), (true, Blk.box [SV.sl (0 : Nat) (0 : Nat) (2000 : Nat), SV.int IntKind.i64 (0 : Int)])]) (Q (SV.ptr (1 : Nat) (0 : Nat) (0 : Nat)) [(false, Blk.vec Ty.byte b), (true, Blk.box [SV.sl (0 : Nat) (0 : Nat) (List.length b), SV.int IntKind.i64 (0 : Int)])])) := by kernel_rfl

theorem ok_l1Open : FsOk Tryz.prog 49 fs_l1Open := fsOk_of tt_ok tabFs_nil mixed Tryz.func49 (by kernel_rfl) (by kernel_rfl) (by
    intro args LL p r HH h hp
    unfold fs_l1Open at h
    dsimp only at h
    split at h
    case h_2 => cases h
    rename_i b
    simp only [Option.some.injEq, Prod.mk.injEq] at h
    obtain ⟨rfl, rfl, rfl⟩ := h
    refine ⟨by simp [Form, stays], L0, ?_⟩
    rw [vc_l1Open]
    try dsimp only
    refine ifB_of (fun c => ?_) (fun c => ?_)
    · have c := of_decide_eq_true c
      have : min b.length 2000 = 2000 := by omega
      rw [this]
      exact ⟨⟨by omega, by omega⟩, rfl, rfl⟩
    · have c := of_decide_eq_false c
      have : min b.length 2000 = b.length := by omega
      rw [this]
      exact ⟨rfl, rfl⟩)

theorem ix2 (a b : Int) (i : Nat) : @Eq Int (Ty.ix .int ([a, b] : List Int) i) <| if i = 0 then a else if i = 1 then b else 0 := by
  match i with
  | 0 => rfl
  | 1 => rfl
  | n + 2 => simp [Ty.ix, List.getD, Ty.dft]
theorem ix3 (a b c : Int) (i : Nat) : @Eq Int (Ty.ix .int ([a, b, c] : List Int) i) <| if i = 0 then a else if i = 1 then b else if i = 2 then c else 0 := by
  match i with
  | 0 => rfl
  | 1 => rfl
  | 2 => rfl
  | n + 3 => simp [Ty.ix, List.getD, Ty.dft]
theorem ix4 (a b c d : Int) (i : Nat) : @Eq Int (Ty.ix .int ([a, b, c, d] : List Int) i) <| if i = 0 then a else if i = 1 then b else if i = 2 then c else if i = 3 then d else 0 := by
  match i with
  | 0 => rfl
  | 1 => rfl
  | 2 => rfl
  | 3 => rfl
  | n + 4 => simp [Ty.ix, List.getD, Ty.dft]
/-- Near the middle. -/
def placeP (v : Vec) : Prop := -1024 ≤ v.X ∧ v.X ≤ 1016 ∧ -1024 ≤ v.Y ∧ v.Y ≤ 1016
/-- A box near the middle, not turned about. -/
def boxP (b : Box) : Prop := -1024 ≤ b.Low.X ∧ b.Low.X ≤ 1016 ∧ -1024 ≤ b.Low.Y ∧ b.Low.Y ≤ 1016 ∧ b.Low.X ≤ b.High.X ∧ b.High.X ≤ b.Low.X + 1020 ∧ b.Low.Y ≤ b.High.Y ∧ b.High.Y ≤ b.Low.Y + 1020
def placeA (v : Vec) : Prop := -2560001 ≤ v.X ∧ v.X ≤ 2560001 ∧ -2560001 ≤ v.Y ∧ v.Y ≤ 2560001
instance : Nonempty {x : Vec // placeA x} := ⟨⟨⟨0, 0⟩, by simp [placeA]⟩⟩
def wayP (r : Ray) : Prop := placeA r.From ∧ -2560000 ≤ r.Way.X ∧ r.Way.X ≤ 2560000 ∧ -2560000 ≤ r.Way.Y ∧ r.Way.Y ≤ 2560000
instance : Nonempty {x : Vec // placeP x} := ⟨⟨⟨0, 0⟩, by simp [placeP]⟩⟩
instance : Nonempty {x : Box // boxP x} := ⟨⟨⟨⟨0, 0⟩, ⟨0, 0⟩⟩, by simp [boxP]⟩⟩
instance : Nonempty {x : Ray // wayP x} := ⟨⟨⟨⟨0, 0⟩, ⟨0, 0⟩⟩, by simp [wayP, placeA]⟩⟩
noncomputable def g_l11Place (b : List Int) (p : Int) : ({x : Vec // placeP x}) × Nat := someAns tt (look [(69, fs_rdPick)]) Tryz.f150 [.ptr 1 0 0] [(false, .vec .byte b), (true, .box [.vec 0, .int .i64 p])] (fun x : ({x : Vec // placeP x}) × Nat => (.agg [.int .i64 (x.1.1).X, .int .i64 (x.1.1).Y] : SV)) (fun x : ({x : Vec // placeP x}) × Nat => ([(false, .vec .byte b), (true, .box [.vec 0, .int .i64 (p + 2)])] : List Ent))
noncomputable def fs_l11Place : Fs := ⟨[], fun args H => match args, H with
  | [.ptr 1 0 0], [(false, .vec .byte b), (true, .box [.vec 0, .int .i64 p])] => some ((some (0 ≤ p ∧ p + 2 ≤ 1000000000000 ∧ BytesOk b)), .agg [.int .i64 ((g_l11Place b p).1.1).X, .int .i64 ((g_l11Place b p).1.1).Y], [(false, .vec .byte b), (true, .box [.vec 0, .int .i64 (p + 2)])])
  | _, _ => none⟩

theorem vc_l11Place (b : List Int) (p : Int) (Q : SV → List Ent → Prop) :
    fnVC tt (look [(69, fs_rdPick)]) L0 Tryz.f150 [.ptr 1 0 0] [(false, .vec .byte b), (true, .box [.vec 0, .int .i64 p])] Q =
    (((0 : Int) ≤ p ∧ p + (1 : Int) ≤ (1000000000000 : Int) ∧ BytesOk b ∧ (1 : Int) ≤ (256 : Int)) ∧ ((0 : Int) ≤ p + (1 : Int) ∧ p + (1 : Int) + (1 : Int) ≤ (1000000000000 : Int) ∧ BytesOk b ∧ (1 : Int) ≤ (256 : Int)) ∧ Q (SV.agg [SV.int IntKind.i64 (IntKind.wrap IntKind.i64 (IntKind.wrap IntKind.i64 (g_rdPick b p (256 : Int) % (256 : Int) * (8 : Int)) - (1024 : Int))), SV.int IntKind.i64 (IntKind.wrap IntKind.i64 (IntKind.wrap IntKind.i64 (g_rdPick b (p + (1 : Int)) (256 : Int) % (256 : Int) * (8 : Int)) - (1024 : Int)))]) [(false, Blk.vec Ty.byte b), (true, Blk.box [SV.vec (0 : Nat), SV.int IntKind.i64 (p + (1 : Int) + (1 : Int))])]) := by kernel_rfl

theorem ok_l11Place : FsOk Tryz.prog 150 fs_l11Place := fsOk_of tt_ok (tabFs_cons ok_rdPick tabFs_nil) mixed Tryz.func150 (by kernel_rfl) (by kernel_rfl) (by
    intro args LL p0 r HH h hp
    unfold fs_l11Place at h
    dsimp only at h
    split at h
    case h_2 => cases h
    rename_i b p
    simp only [Option.some.injEq, Prod.mk.injEq] at h
    obtain ⟨rfl, rfl, rfl⟩ := h
    refine ⟨by simp [Form, stays], L0, ?_⟩
    obtain ⟨hp0, hp1, hby⟩ := hp _ rfl
    refine someAns_ok (R := (fun x : ({x : Vec // placeP x}) × Nat => (.agg [.int .i64 (x.1.1).X, .int .i64 (x.1.1).Y] : SV))) (HH := (fun x : ({x : Vec // placeP x}) × Nat => ([(false, .vec .byte b), (true, .box [.vec 0, .int .i64 (p + 2)])] : List Ent))) (by kernel_rfl) ?_
    have fin : ∀ (zX : Int) (zY : Int) (p' : Int), placeP (Vec.mk zX zY) → p' = p + 2 → ∃ x : ({x : Vec // placeP x}) × Nat, ((.agg [.int .i64 ((Vec.mk zX zY)).X, .int .i64 ((Vec.mk zX zY)).Y] : SV) : SV) = (fun x : ({x : Vec // placeP x}) × Nat => (.agg [.int .i64 (x.1.1).X, .int .i64 (x.1.1).Y] : SV)) x ∧ (([(false, .vec .byte b), (true, .box [.vec 0, .int .i64 p'])] : List Ent) : List Ent) = (fun x : ({x : Vec // placeP x}) × Nat => ([(false, .vec .byte b), (true, .box [.vec 0, .int .i64 (p + 2)])] : List Ent)) x := fun zX zY p' hpred h1 => ⟨(⟨(Vec.mk zX zY), hpred⟩, 0), rfl, by rw [h1]⟩
    rw [vc_l11Place]
    try dsimp only
    try dsimp only at fin
    repeat' (first | refine ifB_of (fun _ => ?_) (fun _ => ?_) | refine pre_of ?_ (fun _ => ?_))
    all_goals first
      | (refine fin _ _ _ ?_ ?_ <;> first | omega | (simp (disch := omega) only [placeP, wrap_small]; omega))
      | omega
      | exact hby
      | exact Nat.le_add_left _ _
      | exact ⟨by omega, by omega, hby⟩
      | exact ⟨by omega, by omega, hby, by omega⟩
      | exact ⟨by omega, by omega, hby, Nat.le_add_left _ _⟩)

noncomputable def g_l11AnyPlace (b : List Int) (p : Int) : ({x : Vec // placeA x}) × Nat := someAns tt (look [(69, fs_rdPick), (51, fs_rdOne), (150, fs_l11Place)]) Tryz.f126 [.ptr 1 0 0] [(false, .vec .byte b), (true, .box [.vec 0, .int .i64 p])] (fun x : ({x : Vec // placeA x}) × Nat => (.agg [.int .i64 (x.1.1).X, .int .i64 (x.1.1).Y] : SV)) (fun x : ({x : Vec // placeA x}) × Nat => ([(false, .vec .byte b), (true, .box [.vec 0, .int .i64 (p + ((x.2 % 5 : Nat) : Int))])] : List Ent))
noncomputable def fs_l11AnyPlace : Fs := ⟨[], fun args H => match args, H with
  | [.ptr 1 0 0], [(false, .vec .byte b), (true, .box [.vec 0, .int .i64 p])] => some ((some (0 ≤ p ∧ p + 4 ≤ 1000000000000 ∧ BytesOk b)), .agg [.int .i64 ((g_l11AnyPlace b p).1.1).X, .int .i64 ((g_l11AnyPlace b p).1.1).Y], [(false, .vec .byte b), (true, .box [.vec 0, .int .i64 (p + (((g_l11AnyPlace b p).2 % 5 : Nat) : Int))])])
  | _, _ => none⟩

theorem vc_l11AnyPlace (b : List Int) (p : Int) (Q : SV → List Ent → Prop) :
    fnVC tt (look [(69, fs_rdPick), (51, fs_rdOne), (150, fs_l11Place)]) L0 Tryz.f126 [.ptr 1 0 0] [(false, .vec .byte b), (true, .box [.vec 0, .int .i64 p])] Q =
    (((0 : Int) ≤ p ∧ p + (2 : Int) ≤ (1000000000000 : Int) ∧ BytesOk b) ∧ ((0 : Int) ≤ p + (2 : Int) ∧ p + (2 : Int) + (1 : Int) ≤ (1000000000000 : Int) ∧ BytesOk b ∧ (1 : Int) ≤ (24 : Int)) ∧ ifB (g_rdPick b (p + (2 : Int)) (24 : Int) % (24 : Int) == (0 : Int)) (((0 : Int) ≤ p + (2 : Int) + (1 : Int) ∧ p + (2 : Int) + (1 : Int) + (1 : Int) ≤ (1000000000000 : Int) ∧ BytesOk b ∧ (1 : Nat) ≤ List.length [(2560000 : Int), (-2560000 : Int), (2560001 : Int)]) ∧ Q (SV.agg [SV.int IntKind.i64 (Ty.ix Ty.int [(2560000 : Int), (-2560000 : Int), (2560001 : Int)] (Int.toNat (g_rdPick b (p + (2 : Int) + (1 : Int)) (↑(List.length [(2560000 : Int), (-2560000 : Int), (2560001 : Int)]) : Int) % (↑(List.length [(2560000 : Int), (-2560000 : Int), (2560001 : Int)]) : Int)))), SV.int IntKind.i64 (Vec.Y (Subtype.val (Prod.fst (g_l11Place b p))))]) [(false, Blk.vec Ty.byte b), (true, Blk.box [SV.vec (0 : Nat), SV.int IntKind.i64 (p + (2 : Int) + (1 : Int) + (1 : Int))])]) (ifB (g_rdPick b (p + (2 : Int)) (24 : Int) % (24 : Int) == (1 : Int)) (((0 : Int) ≤ p + (2 : Int) + (1 : Int) ∧ p + (2 : Int) + (1 : Int) + (1 : Int) ≤ (1000000000000 : Int) ∧ BytesOk b ∧ (1 : Nat) ≤ List.length [(2560000 : Int), (-2560000 : Int), (-2560001 : Int)]) ∧ Q (SV.agg [SV.int IntKind.i64 (Vec.X (Subtype.val (Prod.fst (g_l11Place b p)))), SV.int IntKind.i64 (Ty.ix Ty.int [(2560000 : Int), (-2560000 : Int), (-2560001 : Int)] (Int.toNat (g_rdPick b (p + (2 : Int) + (1 : Int)) (↑(List.length [(2560000 : Int), (-2560000 : Int), (-2560001 : Int)]) : Int) % (↑(List.length [(2560000 : Int), (-2560000 : Int), (-2560001 : Int)]) : Int))))]) [(false, Blk.vec Ty.byte b), (true, Blk.box [SV.vec (0 : Nat), SV.int IntKind.i64 (p + (2 : Int) + (1 : Int) + (1 : Int))])]) (Q (SV.agg [SV.int IntKind.i64 (Vec.X (Subtype.val (Prod.fst (g_l11Place b p)))), SV.int IntKind.i64 (Vec.Y (Subtype.val (Prod.fst (g_l11Place b p))))]) [(false, Blk.vec Ty.byte b), (true, Blk.box [SV.vec (0 : Nat), SV.int IntKind.i64 (p + (2 : Int) + (1 : Int))])]))) := by kernel_rfl

theorem ok_l11AnyPlace : FsOk Tryz.prog 126 fs_l11AnyPlace := fsOk_of tt_ok (tabFs_cons ok_rdPick (tabFs_cons ok_rdOne (tabFs_cons ok_l11Place tabFs_nil))) mixed Tryz.func126 (by kernel_rfl) (by kernel_rfl) (by
    intro args LL p0 r HH h hp
    unfold fs_l11AnyPlace at h
    dsimp only at h
    split at h
    case h_2 => cases h
    rename_i b p
    simp only [Option.some.injEq, Prod.mk.injEq] at h
    obtain ⟨rfl, rfl, rfl⟩ := h
    refine ⟨by simp [Form, stays], L0, ?_⟩
    obtain ⟨hp0, hp1, hby⟩ := hp _ rfl
    refine someAns_ok (R := (fun x : ({x : Vec // placeA x}) × Nat => (.agg [.int .i64 (x.1.1).X, .int .i64 (x.1.1).Y] : SV))) (HH := (fun x : ({x : Vec // placeA x}) × Nat => ([(false, .vec .byte b), (true, .box [.vec 0, .int .i64 (p + ((x.2 % 5 : Nat) : Int))])] : List Ent))) (by kernel_rfl) ?_
    have fin : ∀ (zX : Int) (zY : Int) (p' : Int), placeA (Vec.mk zX zY) → p ≤ p' → p' ≤ p + 4 → ∃ x : ({x : Vec // placeA x}) × Nat, ((.agg [.int .i64 ((Vec.mk zX zY)).X, .int .i64 ((Vec.mk zX zY)).Y] : SV) : SV) = (fun x : ({x : Vec // placeA x}) × Nat => (.agg [.int .i64 (x.1.1).X, .int .i64 (x.1.1).Y] : SV)) x ∧ (([(false, .vec .byte b), (true, .box [.vec 0, .int .i64 p'])] : List Ent) : List Ent) = (fun x : ({x : Vec // placeA x}) × Nat => ([(false, .vec .byte b), (true, .box [.vec 0, .int .i64 (p + ((x.2 % 5 : Nat) : Int))])] : List Ent)) x := fun zX zY p' hpred h1 h2 => ⟨(⟨(Vec.mk zX zY), hpred⟩, (p' - p).toNat), rfl, by
      have : p + (((p' - p).toNat % 5 : Nat) : Int) = p' := by omega
      dsimp only
      rw [this]⟩
    rw [vc_l11AnyPlace]
    try dsimp only
    try dsimp only at fin
    have h1 := (g_l11Place b p).1.2
    simp only [placeP] at h1
    repeat' (first | refine ifB_of (fun _ => ?_) (fun _ => ?_) | refine pre_of ?_ (fun _ => ?_))
    all_goals first
      | (refine fin _ _ _ ?_ ?_ ?_ <;> first | omega | (simp only [placeA, ix3]; (repeat' split) <;> omega))
      | omega
      | exact hby
      | exact Nat.le_add_left _ _
      | exact ⟨by omega, by omega, hby⟩
      | exact ⟨by omega, by omega, hby, by omega⟩
      | exact ⟨by omega, by omega, hby, Nat.le_add_left _ _⟩)

theorem withinS_to (n : Int) : -2560000 ≤ withinS n 2560000 ∧ withinS n 2560000 ≤ 2560000 := by
  unfold withinS
  have : W (0 - 2560000) = -2560000 := by decide
  rw [this]
  omega
theorem bytesOk_of {b : List Int} (h : LOk .byte b) : BytesOk b := ⟨fun x hx => by
  have := h.2 x hx (.int .u8 x) (by simp [Ty.enc])
  simp only [fits, Lit.wf, Bool.and_eq_true, decide_eq_true_eq] at this
  have h1 : IntKind.u8.min = 0 := rfl
  have h2 : IntKind.u8.max = 255 := rfl
  omega⟩
def absW (n : Int) : Int := bif decide (n < 0) then W (0 - n) else n
noncomputable def fs_pqAbs : Fs := ⟨[], fun args H => match args, H with
  | [.int .i64 n], [] => some (none, .int .i64 (absW n), [])
  | _, _ => none⟩

theorem vc_pqAbs (n : Int) (Q : SV → List Ent → Prop) :
    fnVC tt (look []) L0 Tryz.f48 [.int .i64 n] [] Q =
    (ifB (decide (n < (0 : Int))) (Q (SV.int IntKind.i64 (IntKind.wrap IntKind.i64 ((0 : Int) - n))) []) (Q (SV.int IntKind.i64 n) [])) := by kernel_rfl

theorem ok_pqAbs : FsOk Tryz.prog 48 fs_pqAbs := fsOk_of tt_ok tabFs_nil mixed Tryz.func48 (by kernel_rfl) (by kernel_rfl) (by
    intro args LL p r HH h hp
    unfold fs_pqAbs at h
    dsimp only at h
    split at h
    case h_2 => cases h
    rename_i n
    simp only [Option.some.injEq, Prod.mk.injEq] at h
    obtain ⟨rfl, rfl, rfl⟩ := h
    refine ⟨by simp [Form, stays], L0, ?_⟩
    rw [vc_pqAbs]
    try dsimp only

    repeat' (first | refine ifB_of (fun _ => ?_) (fun _ => ?_) | refine pre_of ?_ (fun _ => ?_))
    all_goals first
      | rfl
      | (simp only [W, absW, *, cond_true, cond_false, Bool.true_and, Bool.false_and, Bool.and_true, Bool.and_false, Bool.not_true, Bool.not_false, and_self, true_and]; done)
      | (simp_all [W, absW]; done)
      | (simp_all [W, absW] <;> omega))

noncomputable def pk (b : List Int) (p n : Int) : Int := g_rdPick b p n % n
theorem pk_lt (b : List Int) (p : Int) {n : Int} (h : 1 ≤ n) : 0 ≤ pk b p n ∧ pk b p n < n := ⟨Int.emod_nonneg _ (by omega), Int.emod_lt_of_pos _ (by omega)⟩
end Go.Proofs.YtnahfbjdicjdpaaGreat.Sym

namespace Go.Proofs.YtnahfbjdicjdpaaGreat.Sym
open Go
set_option linter.unusedVariables false
set_option linter.unusedSimpArgs false
set_option maxRecDepth 100000

theorem sq_le {x y : Int} (h0 : 0 ≤ x) (h : x ≤ y) : x * x ≤ y * y := Int.mul_le_mul h h h0 (by omega)
def IsRoot (n r : Int) : Prop := 0 ≤ r ∧ r * r ≤ n ∧ n < (r + 1) * (r + 1)
theorem isRoot_one {n r s : Int} (h : IsRoot n r) (k : IsRoot n s) : r = s := by
  obtain ⟨a1, a2, a3⟩ := h
  obtain ⟨b1, b2, b3⟩ := k
  rcases Int.lt_trichotomy r s with c | c | c
  · have := sq_le (x := r + 1) (y := s) (by omega) (by omega)
    omega
  · exact c
  · have := sq_le (x := s + 1) (y := r) (by omega) (by omega)
    omega
open Classical in
noncomputable def rootI (n : Int) : Int := if h : ∃ r, IsRoot n r then Classical.choose h else 0
theorem rootI_eq {n r : Int} (h : IsRoot n r) : rootI n = r := by
  unfold rootI
  have hx : ∃ r, IsRoot n r := ⟨r, h⟩
  rw [dif_pos hx]
  exact isRoot_one (Classical.choose_spec hx) h
def LSl1Root1  : LS where
  S := Int × Int × Int
  live := [(0, [none]), (3, [none]), (4, [none])]
  shape := fun s => ([.int .i64 s.1, .int .i64 s.2.1, .int .i64 s.2.2], [])
  get := fun v h => match v, h with
    | [.int .i64 n, .int .i64 low, .int .i64 high], [] => some (n, low, high)
    | _, _ => none
  inv := fun s0 s => Holds (s.1 = s0.1 ∧ s.2.1 = 0 ∧ 1 ≤ s.2.2 ∧ s.2.2 ≤ 2828427124)
  mu := fun s => (2828427130 - s.2.2).toNat
  ok := by
    intro v h s hg
    try dsimp only at hg
    split at hg <;> cases hg
    rfl

def LSl1Root2  : LS where
  S := Int × Int × Int
  live := [(0, [none]), (3, [none]), (4, [none])]
  shape := fun s => ([.int .i64 s.1, .int .i64 s.2.1, .int .i64 s.2.2], [])
  get := fun v h => match v, h with
    | [.int .i64 n, .int .i64 low, .int .i64 high], [] => some (n, low, high)
    | _, _ => none
  inv := fun s0 s => Holds (s.1 = s0.1 ∧ 0 ≤ s.2.1 ∧ s.2.1 < s.2.2 ∧ s.2.2 ≤ 2828427124 ∧ s.2.1 * s.2.1 ≤ s0.1 ∧ s0.1 < s.2.2 * s.2.2)
  mu := fun s => (s.2.2 - s.2.1).toNat
  ok := by
    intro v h s hg
    try dsimp only at hg
    split at hg <;> cases hg
    rfl

def L_l1Root : Loops := fun n => match n with
  | 3 => some LSl1Root1
  | 5 => some LSl1Root2
  | _ => none
noncomputable def fs_l1Root : Fs := ⟨[], fun args H => match args, H with
  | [.int .i64 n], [] => some ((some (0 ≤ n ∧ n ≤ 2000000000000000000)), .int .i64 (rootI n), [])
  | _, _ => none⟩

theorem vc_l1Root (n : Int) (Q : SV → List Ent → Prop) :
    fnVC tt (look []) (L_l1Root) Tryz.f181 [.int .i64 n] [] Q =
    (let w_ := IntKind.wrap IntKind.i64; Holds (n = n ∧ (0 : Int) = (0 : Int) ∧ (1 : Int) ≤ (1 : Int) ∧ (1 : Int) ≤ (2828427124 : Int)) ∧ ∀ (y3 : Int × Int × Int), let y3f0_ := Prod.fst y3; let y3f1_ := Prod.fst (Prod.snd y3); let y3s2_ := Prod.snd (Prod.snd y3); Holds (Prod.fst y3 = n ∧ y3f1_ = (0 : Int) ∧ (1 : Int) ≤ y3s2_ ∧ y3s2_ ≤ (2828427124 : Int)) → ifB (decide (w_ (Prod.snd (Prod.snd y3) * y3s2_) ≤ y3f0_)) (Holds (Prod.fst y3 = n ∧ y3f1_ = (0 : Int) ∧ (1 : Int) ≤ w_ ((2 : Int) * y3s2_) ∧ w_ ((2 : Int) * y3s2_) ≤ (2828427124 : Int)) ∧ Int.toNat ((2828427130 : Int) - w_ ((2 : Int) * y3s2_)) < Int.toNat ((2828427130 : Int) - y3s2_)) (Holds (Prod.fst y3 = y3f0_ ∧ (0 : Int) ≤ y3f1_ ∧ y3f1_ < y3s2_ ∧ y3s2_ ≤ (2828427124 : Int) ∧ y3f1_ * y3f1_ ≤ y3f0_ ∧ y3f0_ < y3s2_ * y3s2_) ∧ ∀ (y1 : Int × Int × Int), let y1f0_ := Prod.fst y1; let y1s1_ := Prod.snd y1; let y1f1_ := Prod.fst (Prod.snd y1); let y1s2_ := Prod.snd (Prod.snd y1); let A2_ := (Int.tdiv (w_ (Prod.fst y1s1_ + y1s2_)) (2 : Int)); Holds (Prod.fst y1 = y3f0_ ∧ (0 : Int) ≤ y1f1_ ∧ y1f1_ < y1s2_ ∧ y1s2_ ≤ (2828427124 : Int) ∧ y1f1_ * y1f1_ ≤ y3f0_ ∧ y3f0_ < y1s2_ * y1s2_) → ifB (decide (w_ (Prod.snd y1s1_ - y1f1_) > (1 : Int))) (ifB (decide (w_ (w_ A2_ * w_ A2_) ≤ y1f0_)) (Holds (Prod.fst y1 = y3f0_ ∧ (0 : Int) ≤ w_ A2_ ∧ w_ A2_ < y1s2_ ∧ y1s2_ ≤ (2828427124 : Int) ∧ w_ A2_ * w_ A2_ ≤ y3f0_ ∧ y3f0_ < y1s2_ * y1s2_) ∧ Int.toNat (Prod.snd y1s1_ - w_ A2_) < Int.toNat (Prod.snd y1s1_ - y1f1_)) (Holds (Prod.fst y1 = y3f0_ ∧ (0 : Int) ≤ y1f1_ ∧ y1f1_ < w_ A2_ ∧ w_ A2_ ≤ (2828427124 : Int) ∧ y1f1_ * y1f1_ ≤ y3f0_ ∧ y3f0_ < w_ A2_ * w_ A2_) ∧ Int.toNat (w_ A2_ - y1f1_) < Int.toNat (Prod.snd y1s1_ - y1f1_))) (Q (SV.int IntKind.i64 y1f1_) []))) := by kernel_rfl

theorem ok_l1Root : FsOk Tryz.prog 181 fs_l1Root := fsOk_of tt_ok tabFs_nil mixed Tryz.func181 (by kernel_rfl) (by kernel_rfl) (by
    intro args LL p r HH h hp
    unfold fs_l1Root at h
    dsimp only at h
    split at h
    case h_2 => cases h
    rename_i n
    simp only [Option.some.injEq, Prod.mk.injEq] at h
    obtain ⟨rfl, rfl, rfl⟩ := h
    refine ⟨by simp [Form, stays], (L_l1Root), ?_⟩
    rw [vc_l1Root]
    try dsimp only
    obtain ⟨hn0, hn1⟩ := hp _ rfl
    refine ⟨⟨(by trivial), (by trivial), by omega, by omega⟩, ?_⟩
    rintro ⟨n', low, high⟩ ⟨h⟩
    dsimp only at h ⊢
    obtain ⟨rfl, rfl, h0, h1⟩ := h
    have sq := sq_le (x := high) (y := 2828427124) (by omega) h1
    have sq0 := sq_le (x := 1) (y := high) (by omega) h0
    have w : IntKind.i64.wrap (high * high) = high * high := wrap_small (by omega) (by omega)
    rw [w]
    refine ifB_of (fun c => ?_) (fun c => ?_)
    · have c := of_decide_eq_true c
      have : high ≤ 1414213562 := by
        rcases Int.lt_or_le 1414213562 high with q | q
        · have := sq_le (x := 1414213563) (y := high) (by omega) (by omega)
          omega
        · exact q
      have w2 : IntKind.i64.wrap (2 * high) = 2 * high := wrap_small (by omega) (by omega)
      rw [w2]
      exact ⟨⟨(by trivial), (by trivial), by omega, by omega⟩, by omega⟩
    · have c := of_decide_eq_false c
      refine ⟨⟨(by trivial), by omega, by omega, by omega, by omega, by omega⟩, ?_⟩
      rintro ⟨n'', low, high⟩ ⟨h⟩
      dsimp only at h ⊢
      obtain ⟨rfl, g0, g1, g2, g3, g4⟩ := h
      have w1 : IntKind.i64.wrap (high - low) = high - low := wrap_small (by omega) (by omega)
      have w2 : IntKind.i64.wrap (low + high) = low + high := wrap_small (by omega) (by omega)
      have w3 := Int.tdiv_eq_ediv_of_nonneg (b := 2) (show 0 ≤ low + high by omega)
      have w4 : IntKind.i64.wrap ((low + high) / 2) = (low + high) / 2 := wrap_small (by omega) (by omega)
      rw [w1, w2, w3, w4]
      have m0 : 0 ≤ (low + high) / 2 := by omega
      have m1 : (low + high) / 2 ≤ 2828427124 := by omega
      have sqm := sq_le m0 m1
      have sqm0 : 0 ≤ (low + high) / 2 * ((low + high) / 2) := Int.mul_nonneg m0 m0
      have w5 : IntKind.i64.wrap ((low + high) / 2 * ((low + high) / 2)) = (low + high) / 2 * ((low + high) / 2) := wrap_small (by omega) (by omega)
      rw [w5]
      refine ifB_of (fun c2 => ?_) (fun c2 => ?_)
      · have c2 := of_decide_eq_true c2
        refine ifB_of (fun c3 => ?_) (fun c3 => ?_)
        · have c3 := of_decide_eq_true c3
          exact ⟨⟨(by trivial), by omega, by omega, by omega, c3, g4⟩, by omega⟩
        · have c3 := of_decide_eq_false c3
          exact ⟨⟨(by trivial), by omega, by omega, by omega, g3, by omega⟩, by omega⟩
      · have c2 := of_decide_eq_false c2
        have e : high = low + 1 := by omega
        subst e
        rw [rootI_eq ⟨g0, g3, g4⟩]
        exact ⟨rfl, rfl⟩)

theorem clampV_le (v : Vec) : (-1000000000 ≤ (clampV 1000000000 v).X ∧ (clampV 1000000000 v).X ≤ 1000000000) ∧ (-1000000000 ≤ (clampV 1000000000 v).Y ∧ (clampV 1000000000 v).Y ≤ 1000000000) := by
  simp only [clampV, clampTo]
  omega
theorem sq_abs {x m : Int} (h0 : -m ≤ x) (h1 : x ≤ m) : 0 ≤ x * x ∧ x * x ≤ m * m := by
  rcases Int.le_total 0 x with h | h
  · exact ⟨Int.mul_nonneg h h, sq_le h h1⟩
  · have := sq_le (x := -x) (y := m) (by omega) (by omega)
    rw [Int.neg_mul_neg] at this
    have h2 := Int.mul_nonneg (show 0 ≤ -x by omega) (show 0 ≤ -x by omega)
    rw [Int.neg_mul_neg] at h2
    exact ⟨h2, this⟩
theorem square_clamp (v : Vec) : square (clampV 1000000000 v) = (clampV 1000000000 v).X * (clampV 1000000000 v).X + (clampV 1000000000 v).Y * (clampV 1000000000 v).Y ∧ 0 ≤ square (clampV 1000000000 v) ∧ square (clampV 1000000000 v) ≤ 2000000000000000000 := by
  obtain ⟨⟨a1, a2⟩, b1, b2⟩ := clampV_le v
  have h1 := sq_abs a1 a2
  have h2 := sq_abs b1 b2
  unfold square
  rw [show W ((clampV 1000000000 v).X * (clampV 1000000000 v).X) = _ from wrap_small (by omega) (by omega), show W ((clampV 1000000000 v).Y * (clampV 1000000000 v).Y) = _ from wrap_small (by omega) (by omega), show W (_ + _) = _ from wrap_small (by omega) (by omega)]
  omega
noncomputable def vecLen (a : Vec) : Int := clampTo 1000000000 (rootI (square (clampV 1000000000 a)))
noncomputable def vecUnit (a : Vec) : Vec :=
  if vecLen (clampV 1000000000 a) = 0 then ⟨0, 256⟩
  else ⟨W ((W ((clampV 1000000000 a).X * 256)).tdiv (vecLen (clampV 1000000000 a))), W ((W ((clampV 1000000000 a).Y * 256)).tdiv (vecLen (clampV 1000000000 a)))⟩
noncomputable def fs_specVecLen : Fs := ⟨[], fun args H => match args, H with
  | [.agg [.int .i64 aX, .int .i64 aY]], [] => some (none, .int .i64 (vecLen (Vec.mk aX aY)), [])
  | _, _ => none⟩

theorem vc_specVecLen (aX : Int) (aY : Int) (Q : SV → List Ent → Prop) :
    fnVC tt (look [(180, fs_specFixClamp), (181, fs_l1Root), (166, fs_l2Square), (179, fs_l2Clamp)]) L0 Tryz.f168 [.agg [.int .i64 aX, .int .i64 aY]] [] Q =
    (((0 : Int) ≤ square (clampV (1000000000 : Int) (Vec.mk aX aY)) ∧ square (clampV (1000000000 : Int) (Vec.mk aX aY)) ≤ (2000000000000000000 : Int)) ∧ Q (SV.int IntKind.i64 (clampTo (1000000000 : Int) (rootI (square (clampV (1000000000 : Int) (Vec.mk aX aY)))))) []) := by kernel_rfl

theorem ok_specVecLen : FsOk Tryz.prog 168 fs_specVecLen := fsOk_of tt_ok (tabFs_cons ok_specFixClamp (tabFs_cons ok_l1Root (tabFs_cons ok_l2Square (tabFs_cons ok_l2Clamp tabFs_nil)))) mixed Tryz.func168 (by kernel_rfl) (by kernel_rfl) (by
    intro args LL p r HH h hp
    unfold fs_specVecLen at h
    dsimp only at h
    split at h
    case h_2 => cases h
    rename_i aX aY
    simp only [Option.some.injEq, Prod.mk.injEq] at h
    obtain ⟨rfl, rfl, rfl⟩ := h
    refine ⟨by simp [Form, stays], L0, ?_⟩
    rw [vc_specVecLen]
    try dsimp only
    have := square_clamp ⟨aX, aY⟩
    exact ⟨⟨this.2.1, this.2.2⟩, rfl, rfl⟩)

noncomputable def fs_specVecUnit : Fs := ⟨[], fun args H => match args, H with
  | [.agg [.int .i64 aX, .int .i64 aY]], [] => some (none, .agg [.int .i64 (vecUnit (Vec.mk aX aY)).X, .int .i64 (vecUnit (Vec.mk aX aY)).Y], [])
  | _, _ => none⟩

theorem vc_specVecUnit (aX : Int) (aY : Int) (Q : SV → List Ent → Prop) :
    fnVC tt (look [(179, fs_l2Clamp), (168, fs_specVecLen)]) L0 Tryz.f167 [.agg [.int .i64 aX, .int .i64 aY]] [] Q =
    (ifB (vecLen (clampV (1000000000 : Int) (Vec.mk aX aY)) == (0 : Int)) (Q (SV.agg [SV.int IntKind.i64 (0 : Int), SV.int IntKind.i64 (256 : Int)]) []) (vecLen (clampV (1000000000 : Int) (Vec.mk aX aY)) ≠ (0 : Int) ∧ vecLen (clampV (1000000000 : Int) (Vec.mk aX aY)) ≠ (0 : Int) ∧ Q (SV.agg [SV.int IntKind.i64 (IntKind.wrap IntKind.i64 (Int.tdiv (IntKind.wrap IntKind.i64 (Vec.X (clampV (1000000000 : Int) (Vec.mk aX aY)) * (256 : Int))) (vecLen (clampV (1000000000 : Int) (Vec.mk aX aY))))), SV.int IntKind.i64 (IntKind.wrap IntKind.i64 (Int.tdiv (IntKind.wrap IntKind.i64 (Vec.Y (clampV (1000000000 : Int) (Vec.mk aX aY)) * (256 : Int))) (vecLen (clampV (1000000000 : Int) (Vec.mk aX aY)))))]) [])) := by kernel_rfl

theorem ok_specVecUnit : FsOk Tryz.prog 167 fs_specVecUnit := fsOk_of tt_ok (tabFs_cons ok_l2Clamp (tabFs_cons ok_specVecLen tabFs_nil)) mixed Tryz.func167 (by kernel_rfl) (by kernel_rfl) (by
    intro args LL p r HH h hp
    unfold fs_specVecUnit at h
    dsimp only at h
    split at h
    case h_2 => cases h
    rename_i aX aY
    simp only [Option.some.injEq, Prod.mk.injEq] at h
    obtain ⟨rfl, rfl, rfl⟩ := h
    refine ⟨by simp [Form, stays], L0, ?_⟩
    rw [vc_specVecUnit]
    try dsimp only
    unfold vecUnit
    refine ifB_of (fun c => ?_) (fun c => ?_)
    · have c : vecLen (clampV 1000000000 ⟨aX, aY⟩) = 0 := by simpa using c
      rw [if_pos c]
      exact ⟨rfl, rfl⟩
    · have c : ¬ vecLen (clampV 1000000000 ⟨aX, aY⟩) = 0 := by simpa using c
      rw [if_neg c]
      exact ⟨c, c, rfl, rfl⟩)


noncomputable def roundsF (d : Vec) (both : Int) : Hit × Bool :=
  if square d > W (both * both) then (⟨⟨0, 0⟩, 0⟩, false) else (⟨vecUnit d, W (both - vecLen d)⟩, true)
noncomputable def fs_l5Rounds : Fs := ⟨[], fun args H => match args, H with
  | [.agg [.int .i64 aX, .int .i64 aY], .agg [.int .i64 bX, .int .i64 bY], .int .i64 m], [] => some (none, .tup [.agg [.int .i64 ((roundsF (minus (Vec.mk bX bY) (Vec.mk aX aY)) m).1).Way.X, .int .i64 ((roundsF (minus (Vec.mk bX bY) (Vec.mk aX aY)) m).1).Way.Y, .int .i64 ((roundsF (minus (Vec.mk bX bY) (Vec.mk aX aY)) m).1).Deep], .bool ((roundsF (minus (Vec.mk bX bY) (Vec.mk aX aY)) m).2)], [])
  | _, _ => none⟩

theorem vc_l5Rounds (aX : Int) (aY : Int) (bX : Int) (bY : Int) (m : Int) (Q : SV → List Ent → Prop) :
    fnVC tt (look [(166, fs_l2Square), (167, fs_specVecUnit), (168, fs_specVecLen)]) L0 Tryz.f143 [.agg [.int .i64 aX, .int .i64 aY], .agg [.int .i64 bX, .int .i64 bY], .int .i64 m] [] Q =
    (ifB (decide (square (Vec.mk (IntKind.wrap IntKind.i64 (bX - aX)) (IntKind.wrap IntKind.i64 (bY - aY))) > IntKind.wrap IntKind.i64 (m * m))) (Q (SV.tup [SV.agg [SV.int IntKind.i64 (0 : Int), SV.int IntKind.i64 (0 : Int), SV.int IntKind.i64 (0 : Int)], SV.bool false]) []) (Q (SV.tup [SV.agg [SV.int IntKind.i64 (Vec.X (vecUnit (Vec.mk (IntKind.wrap IntKind.i64 (bX - aX)) (IntKind.wrap IntKind.i64 (bY - aY))))), SV.int IntKind.i64 (Vec.Y (vecUnit (Vec.mk (IntKind.wrap IntKind.i64 (bX - aX)) (IntKind.wrap IntKind.i64 (bY - aY))))), SV.int IntKind.i64 (IntKind.wrap IntKind.i64 (m - vecLen (Vec.mk (IntKind.wrap IntKind.i64 (bX - aX)) (IntKind.wrap IntKind.i64 (bY - aY)))))], SV.bool true]) [])) := by kernel_rfl

theorem ok_l5Rounds : FsOk Tryz.prog 143 fs_l5Rounds := fsOk_of tt_ok (tabFs_cons ok_l2Square (tabFs_cons ok_specVecUnit (tabFs_cons ok_specVecLen tabFs_nil))) mixed Tryz.func143 (by kernel_rfl) (by kernel_rfl) (by
    intro args LL p r HH h hp
    unfold fs_l5Rounds at h
    dsimp only at h
    split at h
    case h_2 => cases h
    rename_i aX aY bX bY m
    simp only [Option.some.injEq, Prod.mk.injEq] at h
    obtain ⟨rfl, rfl, rfl⟩ := h
    refine ⟨by simp [Form, stays], L0, ?_⟩
    rw [vc_l5Rounds]
    try dsimp only
    unfold roundsF
    refine ifB_of (fun c => ?_) (fun c => ?_)
    · have c : square (minus ⟨bX, bY⟩ ⟨aX, aY⟩) > W (m * m) := of_decide_eq_true c
      rw [if_pos c]
      exact ⟨rfl, rfl⟩
    · have c : ¬ square (minus ⟨bX, bY⟩ ⟨aX, aY⟩) > W (m * m) := of_decide_eq_false c
      rw [if_neg c]
      exact ⟨rfl, rfl⟩)

def less2 (best h : Hit) : Hit := bif decide (h.Deep < best.Deep) then h else best
def boxesF (a b : Box) : Hit × Bool :=
  bif boxMeets a b then (less2 (less2 (less2 ⟨⟨256, 0⟩, W (a.High.X - b.Low.X)⟩ ⟨⟨-256, 0⟩, W (b.High.X - a.Low.X)⟩) ⟨⟨0, 256⟩, W (a.High.Y - b.Low.Y)⟩) ⟨⟨0, -256⟩, W (b.High.Y - a.Low.Y)⟩, true)
  else (⟨⟨0, 0⟩, 0⟩, false)
noncomputable def fs_l5Boxes : Fs := ⟨[], fun args H => match args, H with
  | [.agg [.int .i64 aLX, .int .i64 aLY, .int .i64 aHX, .int .i64 aHY], .agg [.int .i64 bLX, .int .i64 bLY, .int .i64 bHX, .int .i64 bHY]], [] => some (none, .tup [.agg [.int .i64 ((boxesF (Box.mk (Vec.mk aLX aLY) (Vec.mk aHX aHY)) (Box.mk (Vec.mk bLX bLY) (Vec.mk bHX bHY))).1).Way.X, .int .i64 ((boxesF (Box.mk (Vec.mk aLX aLY) (Vec.mk aHX aHY)) (Box.mk (Vec.mk bLX bLY) (Vec.mk bHX bHY))).1).Way.Y, .int .i64 ((boxesF (Box.mk (Vec.mk aLX aLY) (Vec.mk aHX aHY)) (Box.mk (Vec.mk bLX bLY) (Vec.mk bHX bHY))).1).Deep], .bool ((boxesF (Box.mk (Vec.mk aLX aLY) (Vec.mk aHX aHY)) (Box.mk (Vec.mk bLX bLY) (Vec.mk bHX bHY))).2)], [])
  | _, _ => none⟩

theorem vc_l5Boxes (aLX : Int) (aLY : Int) (aHX : Int) (aHY : Int) (bLX : Int) (bLY : Int) (bHX : Int) (bHY : Int) (Q : SV → List Ent → Prop) :
    fnVC tt (look [(169, fs_l3Meets)]) L0 Tryz.f144 [.agg [.int .i64 aLX, .int .i64 aLY, .int .i64 aHX, .int .i64 aHY], .agg [.int .i64 bLX, .int .i64 bLY, .int .i64 bHX, .int .i64 bHY]] [] Q =
    (ifB (!boxMeets (Box.mk (Vec.mk aLX aLY) (Vec.mk aHX aHY)) (Box.mk (Vec.mk bLX bLY) (Vec.mk bHX bHY))) (Q (SV.tup [SV.agg [SV.int IntKind.i64 (0 : Int), SV.int IntKind.i64 (0 : Int), SV.int IntKind.i64 (0 : Int)], SV.bool false]) []) (ifB (decide (IntKind.wrap IntKind.i64 (bHX - aLX) < IntKind.wrap IntKind.i64 (aHX - bLX))) (ifB (decide (IntKind.wrap IntKind.i64 (aHY - bLY) < IntKind.wrap IntKind.i64 (bHX - aLX))) (ifB (decide (IntKind.wrap IntKind.i64 (bHY - aLY) < IntKind.wrap IntKind.i64 (aHY - bLY))) (Q (SV.tup [SV.agg [SV.int IntKind.i64 (0 : Int), SV.int IntKind.i64 (-256 : Int), SV.int IntKind.i64 (IntKind.wrap IntKind.i64 (bHY - aLY))], SV.bool true]) []) (Q (SV.tup [SV.agg [SV.int IntKind.i64 (0 : Int), SV.int IntKind.i64 (256 : Int), SV.int IntKind.i64 (IntKind.wrap IntKind.i64 (aHY - bLY))], SV.bool true]) [])) (ifB (decide (IntKind.wrap IntKind.i64 (bHY - aLY) < IntKind.wrap IntKind.i64 (bHX - aLX))) (Q (SV.tup [SV.agg [SV.int IntKind.i64 (0 : Int), SV.int IntKind.i64 (-256 : Int), SV.int IntKind.i64 (IntKind.wrap IntKind.i64 (bHY - aLY))], SV.bool true]) []) (Q (SV.tup [SV.agg [SV.int IntKind.i64 (-256 : Int), SV.int IntKind.i64 (0 : Int), SV.int IntKind.i64 (IntKind.wrap IntKind.i64 (bHX - aLX))], SV.bool true]) []))) (ifB (decide (IntKind.wrap IntKind.i64 (aHY - bLY) < IntKind.wrap IntKind.i64 (aHX - bLX))) (ifB (decide (IntKind.wrap IntKind.i64 (bHY - aLY) < IntKind.wrap IntKind.i64 (aHY - bLY))) (Q (SV.tup [SV.agg [SV.int IntKind.i64 (0 : Int), SV.int IntKind.i64 (-256 : Int), SV.int IntKind.i64 (IntKind.wrap IntKind.i64 (bHY - aLY))], SV.bool true]) []) (Q (SV.tup [SV.agg [SV.int IntKind.i64 (0 : Int), SV.int IntKind.i64 (256 : Int), SV.int IntKind.i64 (IntKind.wrap IntKind.i64 (aHY - bLY))], SV.bool true]) [])) (ifB (decide (IntKind.wrap IntKind.i64 (bHY - aLY) < IntKind.wrap IntKind.i64 (aHX - bLX))) (Q (SV.tup [SV.agg [SV.int IntKind.i64 (0 : Int), SV.int IntKind.i64 (-256 : Int), SV.int IntKind.i64 (IntKind.wrap IntKind.i64 (bHY - aLY))], SV.bool true]) []) (Q (SV.tup [SV.agg [SV.int IntKind.i64 (256 : Int), SV.int IntKind.i64 (0 : Int), SV.int IntKind.i64 (IntKind.wrap IntKind.i64 (aHX - bLX))], SV.bool true]) []))))) := by kernel_rfl

theorem ok_l5Boxes : FsOk Tryz.prog 144 fs_l5Boxes := fsOk_of tt_ok (tabFs_cons ok_l3Meets tabFs_nil) mixed Tryz.func144 (by kernel_rfl) (by kernel_rfl) (by
    intro args LL p r HH h hp
    unfold fs_l5Boxes at h
    dsimp only at h
    split at h
    case h_2 => cases h
    rename_i aLX aLY aHX aHY bLX bLY bHX bHY
    simp only [Option.some.injEq, Prod.mk.injEq] at h
    obtain ⟨rfl, rfl, rfl⟩ := h
    refine ⟨by simp [Form, stays], L0, ?_⟩
    rw [vc_l5Boxes]
    try dsimp only
    refine ifB_of (fun c => ?_) (fun c => ?_)
    · simp [boxesF, not_true c]
    have c := not_false c
    simp only [boxesF, c, cond_true]
    refine ifB_of (fun c1 => ?_) (fun c1 => ?_)
    all_goals refine ifB_of (fun c2 => ?_) (fun c2 => ?_)
    all_goals refine ifB_of (fun c3 => ?_) (fun c3 => ?_)
    all_goals
      simp only [less2]
      simp only [c1, c2, c3, cond_true, cond_false]
      first | exact ⟨rfl, rfl⟩ | exact ⟨(by trivial), (by trivial)⟩)

def nearV (b : Box) (p : Vec) : Vec := ⟨max b.Low.X (min p.X b.High.X), max b.Low.Y (min p.Y b.High.Y)⟩
noncomputable def fs_l3Near : Fs := ⟨[], fun args H => match args, H with
  | [.agg [.int .i64 bLX, .int .i64 bLY, .int .i64 bHX, .int .i64 bHY], .agg [.int .i64 pX, .int .i64 pY]], [] => some ((some (bLX ≤ bHX ∧ bLY ≤ bHY)), .agg [.int .i64 (nearV (Box.mk (Vec.mk bLX bLY) (Vec.mk bHX bHY)) (Vec.mk pX pY)).X, .int .i64 (nearV (Box.mk (Vec.mk bLX bLY) (Vec.mk bHX bHY)) (Vec.mk pX pY)).Y], [])
  | _, _ => none⟩

theorem vc_l3Near (bLX : Int) (bLY : Int) (bHX : Int) (bHY : Int) (pX : Int) (pY : Int) (Q : SV → List Ent → Prop) :
    fnVC tt (look [(131, fs_l3Less), (152, fs_l3More)]) L0 Tryz.f171 [.agg [.int .i64 bLX, .int .i64 bLY, .int .i64 bHX, .int .i64 bHY], .agg [.int .i64 pX, .int .i64 pY]] [] Q =
    (Q (SV.agg [SV.int IntKind.i64 (min (max pX bLX) bHX), SV.int IntKind.i64 (min (max pY bLY) bHY)]) []) := by kernel_rfl

theorem ok_l3Near : FsOk Tryz.prog 171 fs_l3Near := fsOk_of tt_ok (tabFs_cons ok_l3Less (tabFs_cons ok_l3More tabFs_nil)) mixed Tryz.func171 (by kernel_rfl) (by kernel_rfl) (by
    intro args LL p r HH h hp
    unfold fs_l3Near at h
    dsimp only at h
    split at h
    case h_2 => cases h
    rename_i bLX bLY bHX bHY pX pY
    simp only [Option.some.injEq, Prod.mk.injEq] at h
    obtain ⟨rfl, rfl, rfl⟩ := h
    refine ⟨by simp [Form, stays], L0, ?_⟩
    rw [vc_l3Near]
    try dsimp only
    obtain ⟨h1, h2⟩ := hp _ rfl
    have e1 : min (max pX bLX) bHX = max bLX (min pX bHX) := by omega
    have e2 : min (max pY bLY) bHY = max bLY (min pY bHY) := by omega
    simp only [nearV, e1, e2, and_self])

noncomputable def mixedF (b : Box) (p : Vec) (w : Int) : Hit × Bool :=
  bif hasPoint b p then (⟨(boxesF b ⟨p, p⟩).1.Way, W ((boxesF b ⟨p, p⟩).1.Deep + w)⟩, (boxesF b ⟨p, p⟩).2) else roundsF (minus p (nearV b p)) w
noncomputable def fs_l5Mixed : Fs := ⟨[], fun args H => match args, H with
  | [.agg [.int .i64 bLX, .int .i64 bLY, .int .i64 bHX, .int .i64 bHY], .agg [.int .i64 pX, .int .i64 pY], .int .i64 w], [] => some ((some (bLX ≤ bHX ∧ bLY ≤ bHY)), .tup [.agg [.int .i64 ((mixedF (Box.mk (Vec.mk bLX bLY) (Vec.mk bHX bHY)) (Vec.mk pX pY) w).1).Way.X, .int .i64 ((mixedF (Box.mk (Vec.mk bLX bLY) (Vec.mk bHX bHY)) (Vec.mk pX pY) w).1).Way.Y, .int .i64 ((mixedF (Box.mk (Vec.mk bLX bLY) (Vec.mk bHX bHY)) (Vec.mk pX pY) w).1).Deep], .bool ((mixedF (Box.mk (Vec.mk bLX bLY) (Vec.mk bHX bHY)) (Vec.mk pX pY) w).2)], [])
  | _, _ => none⟩

theorem vc_l5Mixed (bLX : Int) (bLY : Int) (bHX : Int) (bHY : Int) (pX : Int) (pY : Int) (w : Int) (Q : SV → List Ent → Prop) :
    fnVC tt (look [(170, fs_l3Point), (144, fs_l5Boxes), (171, fs_l3Near), (143, fs_l5Rounds)]) L0 Tryz.f146 [.agg [.int .i64 bLX, .int .i64 bLY, .int .i64 bHX, .int .i64 bHY], .agg [.int .i64 pX, .int .i64 pY], .int .i64 w] [] Q =
    (ifB (hasPoint (Box.mk (Vec.mk bLX bLY) (Vec.mk bHX bHY)) (Vec.mk pX pY)) (Q (SV.tup [SV.agg [SV.int IntKind.i64 (Vec.X (Hit.Way (Prod.fst (boxesF (Box.mk (Vec.mk bLX bLY) (Vec.mk bHX bHY)) (Box.mk (Vec.mk pX pY) (Vec.mk pX pY)))))), SV.int IntKind.i64 (Vec.Y (Hit.Way (Prod.fst (boxesF (Box.mk (Vec.mk bLX bLY) (Vec.mk bHX bHY)) (Box.mk (Vec.mk pX pY) (Vec.mk pX pY)))))), SV.int IntKind.i64 (IntKind.wrap IntKind.i64 (Hit.Deep (Prod.fst (boxesF (Box.mk (Vec.mk bLX bLY) (Vec.mk bHX bHY)) (Box.mk (Vec.mk pX pY) (Vec.mk pX pY)))) + w))], SV.bool (Prod.snd (boxesF (Box.mk (Vec.mk bLX bLY) (Vec.mk bHX bHY)) (Box.mk (Vec.mk pX pY) (Vec.mk pX pY))))]) []) ((bLX ≤ bHX ∧ bLY ≤ bHY) ∧ Q (SV.tup [SV.agg [SV.int IntKind.i64 (Vec.X (Hit.Way (Prod.fst (roundsF (minus (Vec.mk pX pY) (nearV (Box.mk (Vec.mk bLX bLY) (Vec.mk bHX bHY)) (Vec.mk pX pY))) w)))), SV.int IntKind.i64 (Vec.Y (Hit.Way (Prod.fst (roundsF (minus (Vec.mk pX pY) (nearV (Box.mk (Vec.mk bLX bLY) (Vec.mk bHX bHY)) (Vec.mk pX pY))) w)))), SV.int IntKind.i64 (Hit.Deep (Prod.fst (roundsF (minus (Vec.mk pX pY) (nearV (Box.mk (Vec.mk bLX bLY) (Vec.mk bHX bHY)) (Vec.mk pX pY))) w)))], SV.bool (Prod.snd (roundsF (minus (Vec.mk pX pY) (nearV (Box.mk (Vec.mk bLX bLY) (Vec.mk bHX bHY)) (Vec.mk pX pY))) w))]) [])) := by kernel_rfl

theorem ok_l5Mixed : FsOk Tryz.prog 146 fs_l5Mixed := fsOk_of tt_ok (tabFs_cons ok_l3Point (tabFs_cons ok_l5Boxes (tabFs_cons ok_l3Near (tabFs_cons ok_l5Rounds tabFs_nil)))) mixed Tryz.func146 (by kernel_rfl) (by kernel_rfl) (by
    intro args LL p r HH h hp
    unfold fs_l5Mixed at h
    dsimp only at h
    split at h
    case h_2 => cases h
    rename_i bLX bLY bHX bHY pX pY w
    simp only [Option.some.injEq, Prod.mk.injEq] at h
    obtain ⟨rfl, rfl, rfl⟩ := h
    refine ⟨by simp [Form, stays], L0, ?_⟩
    rw [vc_l5Mixed]
    try dsimp only
    have hb := hp _ rfl
    refine ifB_of (fun c => ?_) (fun c => ⟨hb, ?_⟩)
    · have c : hasPoint ⟨⟨bLX, bLY⟩, ⟨bHX, bHY⟩⟩ ⟨pX, pY⟩ = true := c
      simp only [mixedF, c, cond_true]
      exact ⟨(by trivial), (by trivial)⟩
    · have c : hasPoint ⟨⟨bLX, bLY⟩, ⟨bHX, bHY⟩⟩ ⟨pX, pY⟩ = false := c
      simp only [mixedF, c, cond_false]
      exact ⟨(by trivial), (by trivial)⟩)

def turnH (h : Hit) : Hit := ⟨⟨W (0 - h.Way.X), W (0 - h.Way.Y)⟩, h.Deep⟩
noncomputable def fs_l5Turn : Fs := ⟨[], fun args H => match args, H with
  | [.agg [.int .i64 hX, .int .i64 hY, .int .i64 hD]], [] => some (none, .agg [.int .i64 (turnH (Hit.mk (Vec.mk hX hY) hD)).Way.X, .int .i64 (turnH (Hit.mk (Vec.mk hX hY) hD)).Way.Y, .int .i64 (turnH (Hit.mk (Vec.mk hX hY) hD)).Deep], [])
  | _, _ => none⟩

theorem vc_l5Turn (hX : Int) (hY : Int) (hD : Int) (Q : SV → List Ent → Prop) :
    fnVC tt (look []) L0 Tryz.f147 [.agg [.int .i64 hX, .int .i64 hY, .int .i64 hD]] [] Q =
    (Q (SV.agg [SV.int IntKind.i64 (IntKind.wrap IntKind.i64 ((0 : Int) - hX)), SV.int IntKind.i64 (IntKind.wrap IntKind.i64 ((0 : Int) - hY)), SV.int IntKind.i64 hD]) []) := by kernel_rfl

theorem ok_l5Turn : FsOk Tryz.prog 147 fs_l5Turn := fsOk_of tt_ok tabFs_nil mixed Tryz.func147 (by kernel_rfl) (by kernel_rfl) (by
    intro args LL p r HH h hp
    unfold fs_l5Turn at h
    dsimp only at h
    split at h
    case h_2 => cases h
    rename_i hX hY hD
    simp only [Option.some.injEq, Prod.mk.injEq] at h
    obtain ⟨rfl, rfl, rfl⟩ := h
    refine ⟨by simp [Form, stays], L0, ?_⟩
    rw [vc_l5Turn]
    try dsimp only

    repeat' (first | refine ifB_of (fun _ => ?_) (fun _ => ?_) | refine pre_of ?_ (fun _ => ?_))
    all_goals first
      | rfl
      | (simp only [W, turnH, *, cond_true, cond_false, Bool.true_and, Bool.false_and, Bool.and_true, Bool.and_false, Bool.not_true, Bool.not_false, and_self, true_and]; done)
      | (simp_all [W, turnH]; done)
      | (simp_all [W, turnH] <;> omega))

noncomputable def touchF (a : Shape) (p : Vec) (b : Shape) (q : Vec) : Hit × Bool :=
  bif a.Kind == 1 && b.Kind == 1 then roundsF (minus q p) (W (a.Wide + b.Wide))
  else bif a.Kind == 2 && b.Kind == 2 then boxesF (bounds a p) (bounds b q)
  else bif a.Kind == 2 then mixedF (bounds a p) q b.Wide
  else bif (mixedF (bounds b q) p a.Wide).2 then (turnH (mixedF (bounds b q) p a.Wide).1, true) else (⟨⟨0, 0⟩, 0⟩, false)
theorem shapeOk_le {s : Shape} (h : shapeOk s = true) : 1 ≤ s.Wide ∧ s.Wide ≤ 25600 ∧ (s.Kind = 1 ∨ s.Kind = 2) ∧ (s.Kind = 2 → 1 ≤ s.High ∧ s.High ≤ 25600) := by
  unfold shapeOk at h
  split at h
  · rename_i k
    simp only [isIn, Bool.and_eq_true, decide_eq_true_eq] at h
    exact ⟨h.1.1, h.1.2, .inl k, fun e => by omega⟩
  · split at h
    · rename_i k
      simp only [isIn, Bool.and_eq_true, decide_eq_true_eq] at h
      exact ⟨h.1.1, h.1.2, .inr k, fun _ => h.2⟩
    · cases h
theorem placeOk_le {p : Vec} (h : placeOk p = true) : -2560000 ≤ p.X ∧ p.X ≤ 2560000 ∧ -2560000 ≤ p.Y ∧ p.Y ≤ 2560000 := by
  simp only [placeOk, isIn, Bool.and_eq_true, decide_eq_true_eq] at h
  omega
/-- How high a shape is on each side of its middle. -/
def highOf (s : Shape) : Int := bif s.Kind == 1 then s.Wide else s.High
theorem bounds_eq {s : Shape} {p : Vec} (h : shapeOk s = true) (hp : placeOk p = true) : bounds s p = ⟨⟨p.X - s.Wide, p.Y - highOf s⟩, ⟨p.X + s.Wide, p.Y + highOf s⟩⟩ ∧ 1 ≤ highOf s ∧ highOf s ≤ 25600 := by
  obtain ⟨h1, h2, h3, h4⟩ := shapeOk_le h
  obtain ⟨p1, p2, p3, p4⟩ := placeOk_le hp
  unfold bounds highOf
  rcases h3 with k | k
  · simp only [k, beq_self_eq_true, cond_true]
    refine ⟨?_, by omega, by omega⟩
    rw [show W (p.X - s.Wide) = _ from wrap_small (by omega) (by omega), show W (p.Y - s.Wide) = _ from wrap_small (by omega) (by omega), show W (p.X + s.Wide) = _ from wrap_small (by omega) (by omega), show W (p.Y + s.Wide) = _ from wrap_small (by omega) (by omega)]
  · have h4 := h4 k
    have e : ((2 : Int) == 1) = false := rfl
    simp only [k, e, cond_false]
    refine ⟨?_, by omega, by omega⟩
    rw [show W (p.X - s.Wide) = _ from wrap_small (by omega) (by omega), show W (p.Y - s.High) = _ from wrap_small (by omega) (by omega), show W (p.X + s.Wide) = _ from wrap_small (by omega) (by omega), show W (p.Y + s.High) = _ from wrap_small (by omega) (by omega)]
theorem bounds_le {s : Shape} {p : Vec} (h : shapeOk s = true) (hp : placeOk p = true) : (bounds s p).Low.X ≤ (bounds s p).High.X ∧ (bounds s p).Low.Y ≤ (bounds s p).High.Y := by
  obtain ⟨e, h1, h2⟩ := bounds_eq h hp
  have := shapeOk_le h
  rw [e]
  simp only
  omega
noncomputable def fs_l5Touch : Fs := ⟨[], fun args H => match args, H with
  | [.agg [.int .i64 aK, .int .i64 aW, .int .i64 aH], .agg [.int .i64 pX, .int .i64 pY], .agg [.int .i64 bK, .int .i64 bW, .int .i64 bH], .agg [.int .i64 qX, .int .i64 qY]], [] => some ((some (shapeOk (Shape.mk aK aW aH) = true ∧ placeOk (Vec.mk pX pY) = true ∧ shapeOk (Shape.mk bK bW bH) = true ∧ placeOk (Vec.mk qX qY) = true)), .tup [.agg [.int .i64 ((touchF (Shape.mk aK aW aH) (Vec.mk pX pY) (Shape.mk bK bW bH) (Vec.mk qX qY)).1).Way.X, .int .i64 ((touchF (Shape.mk aK aW aH) (Vec.mk pX pY) (Shape.mk bK bW bH) (Vec.mk qX qY)).1).Way.Y, .int .i64 ((touchF (Shape.mk aK aW aH) (Vec.mk pX pY) (Shape.mk bK bW bH) (Vec.mk qX qY)).1).Deep], .bool ((touchF (Shape.mk aK aW aH) (Vec.mk pX pY) (Shape.mk bK bW bH) (Vec.mk qX qY)).2)], [])
  | _, _ => none⟩

theorem vc_l5Touch (aK : Int) (aW : Int) (aH : Int) (pX : Int) (pY : Int) (bK : Int) (bW : Int) (bH : Int) (qX : Int) (qY : Int) (Q : SV → List Ent → Prop) :
    fnVC tt (look [(143, fs_l5Rounds), (144, fs_l5Boxes), (145, fs_l3Bounds), (146, fs_l5Mixed), (147, fs_l5Turn)]) L0 Tryz.f121 [.agg [.int .i64 aK, .int .i64 aW, .int .i64 aH], .agg [.int .i64 pX, .int .i64 pY], .agg [.int .i64 bK, .int .i64 bW, .int .i64 bH], .agg [.int .i64 qX, .int .i64 qY]] [] Q =
    (let s_ := SV.int IntKind.i64; let A5_ := (roundsF (minus (Vec.mk qX qY) (Vec.mk pX pY)) (IntKind.wrap IntKind.i64 (aW + bW))); let A2_ := (bounds (Shape.mk bK bW bH) (Vec.mk qX qY)); let A3_ := (turnH (Prod.fst (mixedF A2_ (Vec.mk pX pY) aW))); let A1_ := (bounds (Shape.mk aK aW aH) (Vec.mk pX pY)); let A4_ := (Prod.fst (mixedF A1_ (Vec.mk qX qY) bW)); ifB (aK == (1 : Int)) (ifB (bK == (1 : Int)) (Q (SV.tup [SV.agg [s_ (Vec.X (Hit.Way (Prod.fst A5_))), s_ (Vec.Y (Hit.Way (Prod.fst A5_))), s_ (Hit.Deep (Prod.fst A5_))], SV.bool (Prod.snd A5_)]) []) (ifB (aK == (2 : Int)) (ifB (bK == (2 : Int)) (Q (SV.tup [SV.agg [s_ (Vec.X (Hit.Way (Prod.fst (boxesF A1_ A2_)))), s_ (Vec.Y (Hit.Way (Prod.fst (boxesF A1_ A2_)))), s_ (Hit.Deep (Prod.fst (boxesF A1_ A2_)))], SV.bool (Prod.snd (boxesF A1_ A2_))]) []) (ifB (aK == (2 : Int)) ((Vec.X (Box.Low A1_) ≤ Vec.X (Box.High A1_) ∧ Vec.Y (Box.Low A1_) ≤ Vec.Y (Box.High A1_)) ∧ Q (SV.tup [SV.agg [s_ (Vec.X (Hit.Way A4_)), s_ (Vec.Y (Hit.Way A4_)), s_ (Hit.Deep A4_)], SV.bool (Prod.snd (mixedF A1_ (Vec.mk qX qY) bW))]) []) ((Vec.X (Box.Low A2_) ≤ Vec.X (Box.High A2_) ∧ Vec.Y (Box.Low A2_) ≤ Vec.Y (Box.High A2_)) ∧ ifB (!Prod.snd (mixedF A2_ (Vec.mk pX pY) aW)) (Q (SV.tup [SV.agg [s_ (0 : Int), s_ (0 : Int), s_ (0 : Int)], SV.bool false]) []) (Q (SV.tup [SV.agg [s_ (Vec.X (Hit.Way A3_)), s_ (Vec.Y (Hit.Way A3_)), s_ (Hit.Deep A3_)], SV.bool true]) [])))) (ifB (aK == (2 : Int)) ((Vec.X (Box.Low A1_) ≤ Vec.X (Box.High A1_) ∧ Vec.Y (Box.Low A1_) ≤ Vec.Y (Box.High A1_)) ∧ Q (SV.tup [SV.agg [s_ (Vec.X (Hit.Way A4_)), s_ (Vec.Y (Hit.Way A4_)), s_ (Hit.Deep A4_)], SV.bool (Prod.snd (mixedF A1_ (Vec.mk qX qY) bW))]) []) ((Vec.X (Box.Low A2_) ≤ Vec.X (Box.High A2_) ∧ Vec.Y (Box.Low A2_) ≤ Vec.Y (Box.High A2_)) ∧ ifB (!Prod.snd (mixedF A2_ (Vec.mk pX pY) aW)) (Q (SV.tup [SV.agg [s_ (0 : Int), s_ (0 : Int), s_ (0 : Int)], SV.bool false]) []) (Q (SV.tup [SV.agg [s_ (Vec.X (Hit.Way A3_)), s_ (Vec.Y (Hit.Way A3_)), s_ (Hit.Deep A3_)], SV.bool true]) []))))) (ifB (aK == (2 : Int)) (ifB (bK == (2 : Int)) (Q (SV.tup [SV.agg [s_ (Vec.X (Hit.Way (Prod.fst (boxesF A1_ A2_)))), s_ (Vec.Y (Hit.Way (Prod.fst (boxesF A1_ A2_)))), s_ (Hit.Deep (Prod.fst (boxesF A1_ A2_)))], SV.bool (Prod.snd (boxesF A1_ A2_))]) []) (ifB (aK == (2 : Int)) ((Vec.X (Box.Low A1_) ≤ Vec.X (Box.High A1_) ∧ Vec.Y (Box.Low A1_) ≤ Vec.Y (Box.High A1_)) ∧ Q (SV.tup [SV.agg [s_ (Vec.X (Hit.Way A4_)), s_ (Vec.Y (Hit.Way A4_)), s_ (Hit.Deep A4_)], SV.bool (Prod.snd (mixedF A1_ (Vec.mk qX qY) bW))]) []) ((Vec.X (Box.Low A2_) ≤ Vec.X (Box.High A2_) ∧ Vec.Y (Box.Low A2_) ≤ Vec.Y (Box.High A2_)) ∧ ifB (!Prod.snd (mixedF A2_ (Vec.mk pX pY) aW)) (Q (SV.tup [SV.agg [s_ (0 : Int), s_ (0 : Int), s_ (0 : Int)], SV.bool false]) []) (Q (SV.tup [SV.agg [s_ (Vec.X (Hit.Way A3_)), s_ (Vec.Y (Hit.Way A3_)), s_ (Hit.Deep A3_)], SV.bool true]) [])))) (ifB (aK == (2 : Int)) ((Vec.X (Box.Low A1_) ≤ Vec.X (Box.High A1_) ∧ Vec.Y (Box.Low A1_) ≤ Vec.Y (Box.High A1_)) ∧ Q (SV.tup [SV.agg [s_ (Vec.X (Hit.Way A4_)), s_ (Vec.Y (Hit.Way A4_)), s_ (Hit.Deep A4_)], SV.bool (Prod.snd (mixedF A1_ (Vec.mk qX qY) bW))]) []) ((Vec.X (Box.Low A2_) ≤ Vec.X (Box.High A2_) ∧ Vec.Y (Box.Low A2_) ≤ Vec.Y (Box.High A2_)) ∧ ifB (!Prod.snd (mixedF A2_ (Vec.mk pX pY) aW)) (Q (SV.tup [SV.agg [s_ (0 : Int), s_ (0 : Int), s_ (0 : Int)], SV.bool false]) []) (Q (SV.tup [SV.agg [s_ (Vec.X (Hit.Way A3_)), s_ (Vec.Y (Hit.Way A3_)), s_ (Hit.Deep A3_)], SV.bool true]) []))))) := by kernel_rfl

theorem ok_l5Touch : FsOk Tryz.prog 121 fs_l5Touch := fsOk_of tt_ok (tabFs_cons ok_l5Rounds (tabFs_cons ok_l5Boxes (tabFs_cons ok_l3Bounds (tabFs_cons ok_l5Mixed (tabFs_cons ok_l5Turn tabFs_nil))))) mixed Tryz.func121 (by kernel_rfl) (by kernel_rfl) (by
    intro args LL p r HH h hp
    unfold fs_l5Touch at h
    dsimp only at h
    split at h
    case h_2 => cases h
    rename_i aK aW aH pX pY bK bW bH qX qY
    simp only [Option.some.injEq, Prod.mk.injEq] at h
    obtain ⟨rfl, rfl, rfl⟩ := h
    refine ⟨by simp [Form, stays], L0, ?_⟩
    rw [vc_l5Touch]
    try dsimp only
    obtain ⟨ha, hp', hb, hq⟩ := hp _ rfl
    have la := bounds_le ha hp'
    have lb := bounds_le hb hq
    unfold touchF
    repeat' (first | refine ifB_of (fun c => ?_) (fun c => ?_) | refine pre_of (by first | exact la | exact lb) (fun _ => ?_) | fail)
    all_goals
      clear la lb ha hb hq hp'
      simp only [Bool.not_eq_true', Bool.not_eq_false'] at *
      first
        | (simp only [*, cond_true, cond_false, Bool.true_and, Bool.false_and, Bool.and_true, Bool.and_false, and_self, true_and]; done)
        | (exfalso; simp_all; done)
        | (exfalso; simp_all; omega))

noncomputable def touchAll (a : Shape) (p : Vec) (b : Shape) (q : Vec) : Hit × Bool :=
  bif shapeOk a && shapeOk b && placeOk p && placeOk q then touchF a p b q else (⟨⟨0, 0⟩, 0⟩, false)

def inR (n : Int) : Prop := -9223372036854775808 ≤ n ∧ n ≤ 9223372036854775807
def wayR (v : Vec) : Prop := inR v.X ∧ inR v.Y
theorem zero_R : wayR ⟨0, 0⟩ := by simp [wayR, inR]
end Go.Proofs.YtnahfbjdicjdpaaGreat.Sym

namespace Go.Proofs.YtnahfbjdicjdpaaGreat.Sym
open Go
set_option linter.unusedVariables false
set_option linter.unusedSimpArgs false
set_option maxRecDepth 100000

theorem ix5 (a b c d e : Int) (i : Nat) : @Eq Int (Ty.ix .int ([a, b, c, d, e] : List Int) i) <| if i = 0 then a else if i = 1 then b else if i = 2 then c else if i = 3 then d else if i = 4 then e else 0 := by
  match i with
  | 0 => rfl
  | 1 => rfl
  | 2 => rfl
  | 3 => rfl
  | 4 => rfl
  | n + 5 => simp [Ty.ix, List.getD, Ty.dft]
theorem ix7 (a b c d e f g : Int) (i : Nat) : @Eq Int (Ty.ix .int ([a, b, c, d, e, f, g] : List Int) i) <| if i = 0 then a else if i = 1 then b else if i = 2 then c else if i = 3 then d else if i = 4 then e else if i = 5 then f else if i = 6 then g else 0 := by
  match i with
  | 0 => rfl
  | 1 => rfl
  | 2 => rfl
  | 3 => rfl
  | 4 => rfl
  | 5 => rfl
  | 6 => rfl
  | n + 7 => simp [Ty.ix, List.getD, Ty.dft]
def shapeD (s : Shape) : Prop := s.Wide ≤ 1000 ∧ 1 ≤ s.Wide ∧ (s.Kind = 1 ∧ s.High = 0 ∨ s.Kind = 2 ∧ 1 ≤ s.High ∧ s.High ≤ 512)
instance : Nonempty {x : Shape // shapeD x} := ⟨⟨⟨1, 1, 0⟩, by simp [shapeD]⟩⟩
def driveD (m : Int) (v : Vec) : Prop := (-64000 ≤ v.X ∧ v.X ≤ 64000 ∧ -64000 ≤ v.Y ∧ v.Y ≤ 64000) ∧ (m = 0 → v.X = 0 ∧ v.Y = 0)
instance (m : Int) : Nonempty {x : Vec // driveD m x} := ⟨⟨⟨0, 0⟩, by simp [driveD]⟩⟩
/-- A drawn body. -/
def bodyD (id : Int) (b : Body) : Prop := b.Id = id ∧ shapeD b.Shape ∧ placeP b.At ∧ driveD b.Mass b.Drive ∧ 0 ≤ b.Mass ∧ b.Mass ≤ 100 ∧ 0 ≤ b.Bounce ∧ b.Bounce ≤ 256 ∧ 0 ≤ b.Rub ∧ b.Rub ≤ 256 ∧ 0 ≤ b.Quiet ∧ b.Quiet ≤ 8 ∧
  (b.Mass = 0 → b.Quiet = 0) ∧ (b.Quiet = 8 → b.Drive.X = 0 ∧ b.Drive.Y = 0)
instance (id : Int) : Nonempty {x : Body // bodyD id x} := ⟨⟨⟨id, ⟨1, 1, 0⟩, ⟨0, 0⟩, ⟨0, 0⟩, 0, 0, 0, 0⟩, by simp [bodyD, shapeD, placeP, driveD]⟩⟩
theorem ixWide {x : Int} (h0 : 1 ≤ x) (h1 : x ≤ 255) (g : Int) : @LE.le Int _ 1 (Ty.ix .int ([256, 128, 512, x, 1000] : List Int) (g % (([256, 128, 512, x, 1000] : List Int).length : Int)).toNat) ∧ @LE.le Int _ (Ty.ix .int ([256, 128, 512, x, 1000] : List Int) (g % (([256, 128, 512, x, 1000] : List Int).length : Int)).toNat) 1000 := by
  have e : ((([256, 128, 512, x, 1000] : List Int).length : Nat) : Int) = 5 := rfl
  rw [e, ix5]
  have : (g % 5).toNat < 5 := by omega
  generalize (g % 5).toNat = k at *
  (repeat' split) <;> omega
theorem ixHigh {x : Int} (h0 : 1 ≤ x) (h1 : x ≤ 255) (g : Int) : @LE.le Int _ 1 (Ty.ix .int ([256, 64, x, 512] : List Int) (g % (([256, 64, x, 512] : List Int).length : Int)).toNat) ∧ @LE.le Int _ (Ty.ix .int ([256, 64, x, 512] : List Int) (g % (([256, 64, x, 512] : List Int).length : Int)).toNat) 512 := by
  have e : ((([256, 64, x, 512] : List Int).length : Nat) : Int) = 4 := rfl
  rw [e, ix4]
  have : (g % 4).toNat < 4 := by omega
  generalize (g % 4).toNat = k at *
  (repeat' split) <;> omega
noncomputable def g_l11Shape (b : List Int) (p : Int) : ({x : Shape // shapeD x}) × Nat := someAns tt (look [(69, fs_rdPick), (51, fs_rdOne)]) Tryz.f149 [.ptr 1 0 0] [(false, .vec .byte b), (true, .box [.vec 0, .int .i64 p])] (fun x : ({x : Shape // shapeD x}) × Nat => (.agg [.int .i64 (x.1.1).Kind, .int .i64 (x.1.1).Wide, .int .i64 (x.1.1).High] : SV)) (fun x : ({x : Shape // shapeD x}) × Nat => ([(false, .vec .byte b), (true, .box [.vec 0, .int .i64 (p + ((x.2 % 6 : Nat) : Int))])] : List Ent))
noncomputable def fs_l11Shape : Fs := ⟨[], fun args H => match args, H with
  | [.ptr 1 0 0], [(false, .vec .byte b), (true, .box [.vec 0, .int .i64 p])] => some ((some (0 ≤ p ∧ p + 5 ≤ 1000000000000 ∧ BytesOk b)), .agg [.int .i64 ((g_l11Shape b p).1.1).Kind, .int .i64 ((g_l11Shape b p).1.1).Wide, .int .i64 ((g_l11Shape b p).1.1).High], [(false, .vec .byte b), (true, .box [.vec 0, .int .i64 (p + (((g_l11Shape b p).2 % 6 : Nat) : Int))])])
  | _, _ => none⟩

theorem vc_l11Shape (b : List Int) (p : Int) (Q : SV → List Ent → Prop) :
    fnVC tt (look [(69, fs_rdPick), (51, fs_rdOne)]) L0 Tryz.f149 [.ptr 1 0 0] [(false, .vec .byte b), (true, .box [.vec 0, .int .i64 p])] Q =
    (let w_ := IntKind.wrap IntKind.i64; let s_ := SV.int IntKind.i64; let A2_ := ((1 : Int) + g_rdPick b (p + (1 : Int) + (1 : Int) + (1 : Int)) (255 : Int) % (255 : Int)); let A1_ := (Ty.ix Ty.int [(256 : Int), (128 : Int), (512 : Int), w_ ((1 : Int) + g_rdPick b p (255 : Int) % (255 : Int)), (1000 : Int)] (Int.toNat (g_rdPick b (p + (1 : Int)) (↑(List.length [(256 : Int), (128 : Int), (512 : Int), w_ ((1 : Int) + g_rdPick b p (255 : Int) % (255 : Int)), (1000 : Int)]) : Int) % (↑(List.length [(256 : Int), (128 : Int), (512 : Int), w_ ((1 : Int) + g_rdPick b p (255 : Int) % (255 : Int)), (1000 : Int)]) : Int)))); ((0 : Int) ≤ p ∧ p + (1 : Int) ≤ (1000000000000 : Int) ∧ BytesOk b ∧ (1 : Int) ≤ (255 : Int)) ∧ ((0 : Int) ≤ p + (1 : Int) ∧ p + (1 : Int) + (1 : Int) ≤ (1000000000000 : Int) ∧ BytesOk b ∧ (1 : Nat) ≤ List.length [(256 : Int), (128 : Int), (512 : Int), w_ ((1 : Int) + g_rdPick b p (255 : Int) % (255 : Int)), (1000 : Int)]) ∧ ((0 : Int) ≤ p + (1 : Int) + (1 : Int) ∧ p + (1 : Int) + (1 : Int) + (1 : Int) ≤ (1000000000000 : Int) ∧ BytesOk b ∧ (1 : Int) ≤ (2 : Int)) ∧ ifB (g_rdPick b (p + (1 : Int) + (1 : Int)) (2 : Int) % (2 : Int) == (0 : Int)) (Q (SV.agg [s_ (1 : Int), s_ A1_, s_ (0 : Int)]) [(false, Blk.vec Ty.byte b), (true, Blk.box [SV.vec (0 : Nat), s_ (p + (1 : Int) + (1 : Int) + (1 : Int))])]) (((0 : Int) ≤ p + (1 : Int) + (1 : Int) + (1 : Int) ∧ p + (1 : Int) + (1 : Int) + (1 : Int) + (1 : Int) ≤ (1000000000000 : Int) ∧ BytesOk b ∧ (1 : Int) ≤ (255 : Int)) ∧ ((0 : Int) ≤ p + (1 : Int) + (1 : Int) + (1 : Int) + (1 : Int) ∧ p + (1 : Int) + (1 : Int) + (1 : Int) + (1 : Int) + (1 : Int) ≤ (1000000000000 : Int) ∧ BytesOk b ∧ (1 : Nat) ≤ List.length [(256 : Int), (64 : Int), w_ A2_, (512 : Int)]) ∧ Q (SV.agg [s_ (2 : Int), s_ A1_, s_ (Ty.ix Ty.int [(256 : Int), (64 : Int), w_ A2_, (512 : Int)] (Int.toNat (g_rdPick b (p + (1 : Int) + (1 : Int) + (1 : Int) + (1 : Int)) (↑(List.length [(256 : Int), (64 : Int), w_ A2_, (512 : Int)]) : Int) % (↑(List.length [(256 : Int), (64 : Int), w_ A2_, (512 : Int)]) : Int))))]) [(false, Blk.vec Ty.byte b), (true, Blk.box [SV.vec (0 : Nat), s_ (p + (1 : Int) + (1 : Int) + (1 : Int) + (1 : Int) + (1 : Int))])])) := by kernel_rfl

theorem ok_l11Shape : FsOk Tryz.prog 149 fs_l11Shape := fsOk_of tt_ok (tabFs_cons ok_rdPick (tabFs_cons ok_rdOne tabFs_nil)) mixed Tryz.func149 (by kernel_rfl) (by kernel_rfl) (by
    intro args LL p0 r HH h hp
    unfold fs_l11Shape at h
    dsimp only at h
    split at h
    case h_2 => cases h
    rename_i b p
    simp only [Option.some.injEq, Prod.mk.injEq] at h
    obtain ⟨rfl, rfl, rfl⟩ := h
    refine ⟨by simp [Form, stays], L0, ?_⟩
    obtain ⟨hp0, hp1, hby⟩ := hp _ rfl
    refine someAns_ok (R := (fun x : ({x : Shape // shapeD x}) × Nat => (.agg [.int .i64 (x.1.1).Kind, .int .i64 (x.1.1).Wide, .int .i64 (x.1.1).High] : SV))) (HH := (fun x : ({x : Shape // shapeD x}) × Nat => ([(false, .vec .byte b), (true, .box [.vec 0, .int .i64 (p + ((x.2 % 6 : Nat) : Int))])] : List Ent))) (by kernel_rfl) ?_
    have fin : ∀ (zK : Int) (zW : Int) (zH : Int) (p' : Int), shapeD (Shape.mk zK zW zH) → p ≤ p' → p' ≤ p + 5 → ∃ x : ({x : Shape // shapeD x}) × Nat, ((.agg [.int .i64 ((Shape.mk zK zW zH)).Kind, .int .i64 ((Shape.mk zK zW zH)).Wide, .int .i64 ((Shape.mk zK zW zH)).High] : SV) : SV) = (fun x : ({x : Shape // shapeD x}) × Nat => (.agg [.int .i64 (x.1.1).Kind, .int .i64 (x.1.1).Wide, .int .i64 (x.1.1).High] : SV)) x ∧ (([(false, .vec .byte b), (true, .box [.vec 0, .int .i64 p'])] : List Ent) : List Ent) = (fun x : ({x : Shape // shapeD x}) × Nat => ([(false, .vec .byte b), (true, .box [.vec 0, .int .i64 (p + ((x.2 % 6 : Nat) : Int))])] : List Ent)) x := fun zK zW zH p' hpred h1 h2 => ⟨(⟨(Shape.mk zK zW zH), hpred⟩, (p' - p).toNat), rfl, by
      have : p + (((p' - p).toNat % 6 : Nat) : Int) = p' := by omega
      dsimp only
      rw [this]⟩
    rw [vc_l11Shape]
    try dsimp only
    try dsimp only at fin
    have hw : ∀ q, IntKind.i64.wrap (1 + g_rdPick b q 255 % 255) = 1 + g_rdPick b q 255 % 255 := fun q => wrap_small (by omega) (by omega)
    have hx : ∀ q, 1 ≤ 1 + g_rdPick b q 255 % 255 ∧ 1 + g_rdPick b q 255 % 255 ≤ 255 := fun q => by omega
    simp only [hw] at *
    refine ⟨⟨by omega, by omega, hby, by omega⟩, ⟨by omega, by omega, hby, by simp⟩, ⟨by omega, by omega, hby, by omega⟩, ifB_of (fun c => ?_) (fun c => ⟨⟨by omega, by omega, hby, by omega⟩, ⟨by omega, by omega, hby, by simp⟩, ?_⟩)⟩
    · have h := ixWide (hx p).1 (hx p).2
      exact fin _ _ _ _ ⟨(h _).2, (h _).1, .inl ⟨rfl, rfl⟩⟩ (by omega) (by omega)
    · have h := ixWide (hx p).1 (hx p).2
      have h2 := fun q => ixHigh (hx q).1 (hx q).2
      exact fin _ _ _ _ ⟨(h _).2, (h _).1, .inr ⟨rfl, (h2 _ _).1, (h2 _ _).2⟩⟩ (by omega) (by omega))

noncomputable def g_l11AnyShape (b : List Int) (p : Int) : (Shape) × Nat := someAns tt (look [(69, fs_rdPick), (51, fs_rdOne), (149, fs_l11Shape)]) Tryz.f125 [.ptr 1 0 0] [(false, .vec .byte b), (true, .box [.vec 0, .int .i64 p])] (fun x : (Shape) × Nat => (.agg [.int .i64 (x.1).Kind, .int .i64 (x.1).Wide, .int .i64 (x.1).High] : SV)) (fun x : (Shape) × Nat => ([(false, .vec .byte b), (true, .box [.vec 0, .int .i64 (p + ((x.2 % 8 : Nat) : Int))])] : List Ent))
noncomputable def fs_l11AnyShape : Fs := ⟨[], fun args H => match args, H with
  | [.ptr 1 0 0], [(false, .vec .byte b), (true, .box [.vec 0, .int .i64 p])] => some ((some (0 ≤ p ∧ p + 7 ≤ 1000000000000 ∧ BytesOk b)), .agg [.int .i64 ((g_l11AnyShape b p).1).Kind, .int .i64 ((g_l11AnyShape b p).1).Wide, .int .i64 ((g_l11AnyShape b p).1).High], [(false, .vec .byte b), (true, .box [.vec 0, .int .i64 (p + (((g_l11AnyShape b p).2 % 8 : Nat) : Int))])])
  | _, _ => none⟩

theorem vc_l11AnyShape (b : List Int) (p : Int) (Q : SV → List Ent → Prop) :
    fnVC tt (look [(69, fs_rdPick), (51, fs_rdOne), (149, fs_l11Shape)]) L0 Tryz.f125 [.ptr 1 0 0] [(false, .vec .byte b), (true, .box [.vec 0, .int .i64 p])] Q =
    (let s_ := SV.int IntKind.i64; let A2_ := (Subtype.val (Prod.fst (g_l11Shape b p))); let A1_ := (↑(Prod.snd (g_l11Shape b p) % (6 : Nat)) : Int); let A3_ := (true, Blk.box [SV.vec (0 : Nat), s_ (p + A1_ + (1 : Int) + (1 : Int))]); ((0 : Int) ≤ p ∧ p + (5 : Int) ≤ (1000000000000 : Int) ∧ BytesOk b) ∧ ((0 : Int) ≤ p + A1_ ∧ p + A1_ + (1 : Int) ≤ (1000000000000 : Int) ∧ BytesOk b ∧ (1 : Int) ≤ (20 : Int)) ∧ ifB (g_rdPick b (p + A1_) (20 : Int) % (20 : Int) == (0 : Int)) (((0 : Int) ≤ p + A1_ + (1 : Int) ∧ p + A1_ + (1 : Int) + (1 : Int) ≤ (1000000000000 : Int) ∧ BytesOk b ∧ (1 : Nat) ≤ List.length [(0 : Int), (3 : Int), (1 : Int), (2 : Int)]) ∧ Q (SV.agg [s_ (Ty.ix Ty.int [(0 : Int), (3 : Int), (1 : Int), (2 : Int)] (Int.toNat (g_rdPick b (p + A1_ + (1 : Int)) (↑(List.length [(0 : Int), (3 : Int), (1 : Int), (2 : Int)]) : Int) % (↑(List.length [(0 : Int), (3 : Int), (1 : Int), (2 : Int)]) : Int)))), s_ (Shape.Wide A2_), s_ (Shape.High A2_)]) [(false, Blk.vec Ty.byte b), A3_]) (ifB (g_rdPick b (p + A1_) (20 : Int) % (20 : Int) == (1 : Int)) (((0 : Int) ≤ p + A1_ + (1 : Int) ∧ p + A1_ + (1 : Int) + (1 : Int) ≤ (1000000000000 : Int) ∧ BytesOk b ∧ (1 : Nat) ≤ List.length [(0 : Int), (-1 : Int), (25600 : Int), (25601 : Int)]) ∧ Q (SV.agg [s_ (Shape.Kind A2_), s_ (Ty.ix Ty.int [(0 : Int), (-1 : Int), (25600 : Int), (25601 : Int)] (Int.toNat (g_rdPick b (p + A1_ + (1 : Int)) (↑(List.length [(0 : Int), (-1 : Int), (25600 : Int), (25601 : Int)]) : Int) % (↑(List.length [(0 : Int), (-1 : Int), (25600 : Int), (25601 : Int)]) : Int)))), s_ (Shape.High A2_)]) [(false, Blk.vec Ty.byte b), A3_]) (ifB (g_rdPick b (p + A1_) (20 : Int) % (20 : Int) == (2 : Int)) (((0 : Int) ≤ p + A1_ + (1 : Int) ∧ p + A1_ + (1 : Int) + (1 : Int) ≤ (1000000000000 : Int) ∧ BytesOk b ∧ (1 : Nat) ≤ List.length [(0 : Int), (25600 : Int), (25601 : Int)]) ∧ Q (SV.agg [s_ (Shape.Kind A2_), s_ (Shape.Wide A2_), s_ (Ty.ix Ty.int [(0 : Int), (25600 : Int), (25601 : Int)] (Int.toNat (g_rdPick b (p + A1_ + (1 : Int)) (↑(List.length [(0 : Int), (25600 : Int), (25601 : Int)]) : Int) % (↑(List.length [(0 : Int), (25600 : Int), (25601 : Int)]) : Int))))]) [(false, Blk.vec Ty.byte b), A3_]) (Q (SV.agg [s_ (Shape.Kind A2_), s_ (Shape.Wide A2_), s_ (Shape.High A2_)]) [(false, Blk.vec Ty.byte b), (true, Blk.box [SV.vec (0 : Nat), s_ (p + A1_ + (1 : Int))])])))) := by kernel_rfl

theorem ok_l11AnyShape : FsOk Tryz.prog 125 fs_l11AnyShape := fsOk_of tt_ok (tabFs_cons ok_rdPick (tabFs_cons ok_rdOne (tabFs_cons ok_l11Shape tabFs_nil))) mixed Tryz.func125 (by kernel_rfl) (by kernel_rfl) (by
    intro args LL p0 r HH h hp
    unfold fs_l11AnyShape at h
    dsimp only at h
    split at h
    case h_2 => cases h
    rename_i b p
    simp only [Option.some.injEq, Prod.mk.injEq] at h
    obtain ⟨rfl, rfl, rfl⟩ := h
    refine ⟨by simp [Form, stays], L0, ?_⟩
    obtain ⟨hp0, hp1, hby⟩ := hp _ rfl
    refine someAns_ok (R := (fun x : (Shape) × Nat => (.agg [.int .i64 (x.1).Kind, .int .i64 (x.1).Wide, .int .i64 (x.1).High] : SV))) (HH := (fun x : (Shape) × Nat => ([(false, .vec .byte b), (true, .box [.vec 0, .int .i64 (p + ((x.2 % 8 : Nat) : Int))])] : List Ent))) (by kernel_rfl) ?_
    have fin : ∀ (zK : Int) (zW : Int) (zH : Int) (p' : Int), p ≤ p' → p' ≤ p + 7 → ∃ x : (Shape) × Nat, ((.agg [.int .i64 ((Shape.mk zK zW zH)).Kind, .int .i64 ((Shape.mk zK zW zH)).Wide, .int .i64 ((Shape.mk zK zW zH)).High] : SV) : SV) = (fun x : (Shape) × Nat => (.agg [.int .i64 (x.1).Kind, .int .i64 (x.1).Wide, .int .i64 (x.1).High] : SV)) x ∧ (([(false, .vec .byte b), (true, .box [.vec 0, .int .i64 p'])] : List Ent) : List Ent) = (fun x : (Shape) × Nat => ([(false, .vec .byte b), (true, .box [.vec 0, .int .i64 (p + ((x.2 % 8 : Nat) : Int))])] : List Ent)) x := fun zK zW zH p' h1 h2 => ⟨((Shape.mk zK zW zH), (p' - p).toNat), rfl, by
      have : p + (((p' - p).toNat % 8 : Nat) : Int) = p' := by omega
      dsimp only
      rw [this]⟩
    rw [vc_l11AnyShape]
    try dsimp only
    try dsimp only at fin
    repeat' (first | refine ifB_of (fun _ => ?_) (fun _ => ?_) | refine pre_of ?_ (fun _ => ?_))
    all_goals first
      | (refine fin _ _ _ _ ?_ ?_ <;> omega)
      | omega
      | exact hby
      | exact Nat.le_add_left _ _
      | exact ⟨by omega, by omega, hby⟩
      | exact ⟨by omega, by omega, hby, by omega⟩
      | exact ⟨by omega, by omega, hby, Nat.le_add_left _ _⟩)

theorem mulD {x f : Int} (h1 : -32 ≤ x) (h2 : x ≤ 32) (f0 : 0 ≤ f) (f1 : f ≤ 2000) : -64000 ≤ x * f ∧ x * f ≤ 64000 := by
  rcases Int.le_total 0 x with h | h
  · have := mul_le_mul0 h h2 f0 f1
    omega
  · have := mul_le_mul0 (x := -x) (X := 32) (by omega) (by omega) f0 f1
    rw [Int.neg_mul] at this
    omega
def driveI (i : Nat) : Int := if i = 0 then 0 else if i = 1 then 1 else if i = 2 then 4 else if i = 3 then 20 else 0
theorem ixDrive (i : Nat) : @Eq Int (Ty.ix .int ([0, 1, 4, 20] : List Int) i) (driveI i) := ix4 ..
theorem driveI_le (i : Nat) : 0 ≤ driveI i ∧ driveI i ≤ 20 := by
  unfold driveI
  (repeat' split) <;> omega
theorem driveD_mk {m a c : Int} {i : Nat} (m0 : 0 ≤ m) (m1 : m ≤ 100) (a0 : 0 ≤ a) (a1 : a < 65) (c0 : 0 ≤ c) (c1 : c < 65) : driveD m ⟨W (W (a - 32) * W (driveI i * m)), W (W (c - 32) * W (driveI i * m))⟩ := by
  obtain ⟨f0, f1⟩ := driveI_le i
  have h := mul_le_mul0 f0 f1 m0 m1
  rw [show W (a - 32) = a - 32 from wrap_small (by omega) (by omega), show W (c - 32) = c - 32 from wrap_small (by omega) (by omega), show W (driveI i * m) = driveI i * m from wrap_small (by omega) (by omega)]
  have h1 := mulD (x := a - 32) (by omega) (by omega) h.1 (by omega)
  have h2 := mulD (x := c - 32) (by omega) (by omega) h.1 (by omega)
  rw [show W ((a - 32) * (driveI i * m)) = _ from wrap_small (by omega) (by omega), show W ((c - 32) * (driveI i * m)) = _ from wrap_small (by omega) (by omega)]
  refine ⟨⟨h1.1, h1.2, h2.1, h2.2⟩, fun e => ?_⟩
  subst e
  simp
noncomputable def g_l11Drive (b : List Int) (p : Int) (m : Int) : ({x : Vec // driveD m x}) × Nat := someAns tt (look [(69, fs_rdPick), (51, fs_rdOne)]) Tryz.f151 [.ptr 1 0 0, .int .i64 m] [(false, .vec .byte b), (true, .box [.vec 0, .int .i64 p])] (fun x : ({x : Vec // driveD m x}) × Nat => (.agg [.int .i64 (x.1.1).X, .int .i64 (x.1.1).Y] : SV)) (fun x : ({x : Vec // driveD m x}) × Nat => ([(false, .vec .byte b), (true, .box [.vec 0, .int .i64 (p + 3)])] : List Ent))
noncomputable def fs_l11Drive : Fs := ⟨[], fun args H => match args, H with
  | [.ptr 1 0 0, .int .i64 m], [(false, .vec .byte b), (true, .box [.vec 0, .int .i64 p])] => some ((some (0 ≤ p ∧ p + 3 ≤ 1000000000000 ∧ BytesOk b ∧ 0 ≤ m ∧ m ≤ 100)), .agg [.int .i64 ((g_l11Drive b p m).1.1).X, .int .i64 ((g_l11Drive b p m).1.1).Y], [(false, .vec .byte b), (true, .box [.vec 0, .int .i64 (p + 3)])])
  | _, _ => none⟩

theorem vc_l11Drive (b : List Int) (p : Int) (m : Int) (Q : SV → List Ent → Prop) :
    fnVC tt (look [(69, fs_rdPick), (51, fs_rdOne)]) L0 Tryz.f151 [.ptr 1 0 0, .int .i64 m] [(false, .vec .byte b), (true, .box [.vec 0, .int .i64 p])] Q =
    (((0 : Int) ≤ p ∧ p + (1 : Int) ≤ (1000000000000 : Int) ∧ BytesOk b ∧ (1 : Nat) ≤ List.length [(0 : Int), (1 : Int), (4 : Int), (20 : Int)]) ∧ ((0 : Int) ≤ p + (1 : Int) ∧ p + (1 : Int) + (1 : Int) ≤ (1000000000000 : Int) ∧ BytesOk b ∧ (1 : Int) ≤ (65 : Int)) ∧ ((0 : Int) ≤ p + (1 : Int) + (1 : Int) ∧ p + (1 : Int) + (1 : Int) + (1 : Int) ≤ (1000000000000 : Int) ∧ BytesOk b ∧ (1 : Int) ≤ (65 : Int)) ∧ Q (SV.agg [SV.int IntKind.i64 (IntKind.wrap IntKind.i64 (IntKind.wrap IntKind.i64 (g_rdPick b (p + (1 : Int)) (65 : Int) % (65 : Int) - (32 : Int)) * IntKind.wrap IntKind.i64 (Ty.ix Ty.int [(0 : Int), (1 : Int), (4 : Int), (20 : Int)] (Int.toNat (g_rdPick b p (↑(List.length [(0 : Int), (1 : Int), (4 : Int), (20 : Int)]) : Int) % (↑(List.length [(0 : Int), (1 : Int), (4 : Int), (20 : Int)]) : Int))) * m))), SV.int IntKind.i64 (IntKind.wrap IntKind.i64 (IntKind.wrap IntKind.i64 (g_rdPick b (p + (1 : Int) + (1 : Int)) (65 : Int) % (65 : Int) - (32 : Int)) * IntKind.wrap IntKind.i64 (Ty.ix Ty.int [(0 : Int), (1 : Int), (4 : Int), (20 : Int)] (Int.toNat (g_rdPick b p (↑(List.length [(0 : Int), (1 : Int), (4 : Int), (20 : Int)]) : Int) % (↑(List.length [(0 : Int), (1 : Int), (4 : Int), (20 : Int)]) : Int))) * m)))]) [(false, Blk.vec Ty.byte b), (true, Blk.box [SV.vec (0 : Nat), SV.int IntKind.i64 (p + (1 : Int) + (1 : Int) + (1 : Int))])]) := by kernel_rfl

theorem ok_l11Drive : FsOk Tryz.prog 151 fs_l11Drive := fsOk_of tt_ok (tabFs_cons ok_rdPick (tabFs_cons ok_rdOne tabFs_nil)) mixed Tryz.func151 (by kernel_rfl) (by kernel_rfl) (by
    intro args LL p0 r HH h hp
    unfold fs_l11Drive at h
    dsimp only at h
    split at h
    case h_2 => cases h
    rename_i m b p
    simp only [Option.some.injEq, Prod.mk.injEq] at h
    obtain ⟨rfl, rfl, rfl⟩ := h
    refine ⟨by simp [Form, stays], L0, ?_⟩
    obtain ⟨hp0, hp1, hby, hpp⟩ := hp _ rfl
    refine someAns_ok (R := (fun x : ({x : Vec // driveD m x}) × Nat => (.agg [.int .i64 (x.1.1).X, .int .i64 (x.1.1).Y] : SV))) (HH := (fun x : ({x : Vec // driveD m x}) × Nat => ([(false, .vec .byte b), (true, .box [.vec 0, .int .i64 (p + 3)])] : List Ent))) (by kernel_rfl) ?_
    have fin : ∀ (zX : Int) (zY : Int) (p' : Int), driveD m (Vec.mk zX zY) → p' = p + 3 → ∃ x : ({x : Vec // driveD m x}) × Nat, ((.agg [.int .i64 ((Vec.mk zX zY)).X, .int .i64 ((Vec.mk zX zY)).Y] : SV) : SV) = (fun x : ({x : Vec // driveD m x}) × Nat => (.agg [.int .i64 (x.1.1).X, .int .i64 (x.1.1).Y] : SV)) x ∧ (([(false, .vec .byte b), (true, .box [.vec 0, .int .i64 p'])] : List Ent) : List Ent) = (fun x : ({x : Vec // driveD m x}) × Nat => ([(false, .vec .byte b), (true, .box [.vec 0, .int .i64 (p + 3)])] : List Ent)) x := fun zX zY p' hpred h1 => ⟨(⟨(Vec.mk zX zY), hpred⟩, 0), rfl, by rw [h1]⟩
    rw [vc_l11Drive]
    try dsimp only
    try dsimp only at fin
    simp only [ixDrive]
    refine ⟨⟨by omega, by omega, hby, by simp⟩, ⟨by omega, by omega, hby, by omega⟩, ⟨by omega, by omega, hby, by omega⟩, ?_⟩
    exact fin _ _ _ (driveD_mk hpp.1 hpp.2 (by omega) (by omega) (by omega) (by omega)) (by omega))

def massI (i : Nat) : Int := if i = 0 then 1 else if i = 1 then 2 else if i = 2 then 3 else if i = 3 then 10 else if i = 4 then 1 else if i = 5 then 100 else if i = 6 then 0 else 0
theorem ixMass (i : Nat) : @Eq Int (Ty.ix .int ([1, 2, 3, 10, 1, 100, 0] : List Int) i) (massI i) := ix7 ..
theorem massI_le (i : Nat) : 0 ≤ massI i ∧ massI i ≤ 100 := by
  unfold massI
  (repeat' split) <;> omega
theorem massL (i : Nat) : @LE.le Int _ 0 (Ty.ix .int ([1, 2, 3, 10, 1, 100, 0] : List Int) i) ∧ @LE.le Int _ (Ty.ix .int ([1, 2, 3, 10, 1, 100, 0] : List Int) i) 100 := by
  rw [ixMass]
  exact massI_le i
def partI (a : Int) (i : Nat) : Int := if i = 0 then 0 else if i = 1 then a else if i = 2 then 128 else if i = 3 then 256 else 0
theorem ixPart (a : Int) (i : Nat) : @Eq Int (Ty.ix .int ([0, a, 128, 256] : List Int) i) (partI a i) := ix4 ..
theorem part0_le (i : Nat) : 0 ≤ partI 0 i ∧ partI 0 i ≤ 256 := by
  unfold partI
  (repeat' split) <;> omega
theorem part64_le (i : Nat) : 0 ≤ partI 64 i ∧ partI 64 i ≤ 256 := by
  unfold partI
  (repeat' split) <;> omega
theorem bodyD_mk {id M B R Q : Int} {s : Shape} {p v : Vec} (hs : shapeD s) (hp : placeP p) (hv : driveD M v) (hM : 0 ≤ M ∧ M ≤ 100) (hB : 0 ≤ B ∧ B ≤ 256) (hR : 0 ≤ R ∧ R ≤ 256) (hQ : 0 ≤ Q ∧ Q ≤ 8) (h0 : M = 0 → Q = 0) (h8 : Q = 8 → v.X = 0 ∧ v.Y = 0) : bodyD id ⟨id, s, p, v, M, B, R, Q⟩ :=
  ⟨rfl, hs, hp, hv, hM.1, hM.2, hB.1, hB.2, hR.1, hR.2, hQ.1, hQ.2, h0, h8⟩
theorem driveD_zero (m : Int) : driveD m ⟨0, 0⟩ := by simp [driveD]
noncomputable def g_l11Body (b : List Int) (p : Int) (id : Int) : ({x : Body // bodyD id x}) × Nat := someAns tt (look [(69, fs_rdPick), (51, fs_rdOne), (149, fs_l11Shape), (150, fs_l11Place), (151, fs_l11Drive)]) Tryz.f124 [.ptr 1 0 0, .int .i64 id] [(false, .vec .byte b), (true, .box [.vec 0, .int .i64 p])] (fun x : ({x : Body // bodyD id x}) × Nat => (.agg [.int .i64 (x.1.1).Id, .int .i64 (x.1.1).Shape.Kind, .int .i64 (x.1.1).Shape.Wide, .int .i64 (x.1.1).Shape.High, .int .i64 (x.1.1).At.X, .int .i64 (x.1.1).At.Y, .int .i64 (x.1.1).Drive.X, .int .i64 (x.1.1).Drive.Y, .int .i64 (x.1.1).Mass, .int .i64 (x.1.1).Bounce, .int .i64 (x.1.1).Rub, .int .i64 (x.1.1).Quiet] : SV)) (fun x : ({x : Body // bodyD id x}) × Nat => ([(false, .vec .byte b), (true, .box [.vec 0, .int .i64 (p + ((x.2 % 16 : Nat) : Int))])] : List Ent))
noncomputable def fs_l11Body : Fs := ⟨[], fun args H => match args, H with
  | [.ptr 1 0 0, .int .i64 id], [(false, .vec .byte b), (true, .box [.vec 0, .int .i64 p])] => some ((some (0 ≤ p ∧ p + 15 ≤ 1000000000000 ∧ BytesOk b)), .agg [.int .i64 ((g_l11Body b p id).1.1).Id, .int .i64 ((g_l11Body b p id).1.1).Shape.Kind, .int .i64 ((g_l11Body b p id).1.1).Shape.Wide, .int .i64 ((g_l11Body b p id).1.1).Shape.High, .int .i64 ((g_l11Body b p id).1.1).At.X, .int .i64 ((g_l11Body b p id).1.1).At.Y, .int .i64 ((g_l11Body b p id).1.1).Drive.X, .int .i64 ((g_l11Body b p id).1.1).Drive.Y, .int .i64 ((g_l11Body b p id).1.1).Mass, .int .i64 ((g_l11Body b p id).1.1).Bounce, .int .i64 ((g_l11Body b p id).1.1).Rub, .int .i64 ((g_l11Body b p id).1.1).Quiet], [(false, .vec .byte b), (true, .box [.vec 0, .int .i64 (p + (((g_l11Body b p id).2 % 16 : Nat) : Int))])])
  | _, _ => none⟩

theorem vc_l11Body (b : List Int) (p : Int) (id : Int) (Q : SV → List Ent → Prop) :
    fnVC tt (look [(69, fs_rdPick), (51, fs_rdOne), (149, fs_l11Shape), (150, fs_l11Place), (151, fs_l11Drive)]) L0 Tryz.f124 [.ptr 1 0 0, .int .i64 id] [(false, .vec .byte b), (true, .box [.vec 0, .int .i64 p])] Q =
    (let s_ := SV.int IntKind.i64; let ii_ := Ty.ix Ty.int; let vy_ := Blk.vec Ty.byte; let A6_ := (Subtype.val (Prod.fst (g_l11Shape b p))); let A2_ := (↑(Prod.snd (g_l11Shape b p) % (6 : Nat)) : Int); let A9_ := (true, Blk.box [SV.vec (0 : Nat), s_ (p + A2_ + (2 : Int) + (1 : Int) + (1 : Int) + (1 : Int) + (3 : Int) + (1 : Int))]); let A8_ := (Subtype.val (Prod.fst (g_l11Place b (p + A2_)))); let A5_ := (ii_ [(0 : Int), (0 : Int), (128 : Int), (256 : Int)] (Int.toNat (g_rdPick b (p + A2_ + (2 : Int) + (1 : Int)) (↑(List.length [(0 : Int), (0 : Int), (128 : Int), (256 : Int)]) : Int) % (↑(List.length [(0 : Int), (0 : Int), (128 : Int), (256 : Int)]) : Int)))); let A3_ := (ii_ [(0 : Int), (64 : Int), (128 : Int), (256 : Int)] (Int.toNat (g_rdPick b (p + A2_ + (2 : Int) + (1 : Int) + (1 : Int)) (↑(List.length [(0 : Int), (64 : Int), (128 : Int), (256 : Int)]) : Int) % (↑(List.length [(0 : Int), (64 : Int), (128 : Int), (256 : Int)]) : Int)))); let A1_ := (Int.toNat (g_rdPick b (p + A2_ + (2 : Int)) (↑(List.length [(1 : Int), (2 : Int), (3 : Int), (10 : Int), (1 : Int), (100 : Int), (0 : Int)]) : Int) % (↑(List.length [(1 : Int), (2 : Int), (3 : Int), (10 : Int), (1 : Int), (100 : Int), (0 : Int)]) : Int))); let A10_ := (ii_ [(1 : Int), (2 : Int), (3 : Int), (10 : Int), (1 : Int), (100 : Int), (0 : Int)] A1_ == (0 : Int)); let A7_ := (ii_ [(1 : Int), (2 : Int), (3 : Int), (10 : Int), (1 : Int), (100 : Int), (0 : Int)] A1_); let A4_ := (Subtype.val (Prod.fst (g_l11Drive b (p + A2_ + (2 : Int) + (1 : Int) + (1 : Int) + (1 : Int)) A7_))); ((0 : Int) ≤ p ∧ p + (5 : Int) ≤ (1000000000000 : Int) ∧ BytesOk b) ∧ ((0 : Int) ≤ p + A2_ ∧ p + A2_ + (2 : Int) ≤ (1000000000000 : Int) ∧ BytesOk b) ∧ ((0 : Int) ≤ p + A2_ + (2 : Int) ∧ p + A2_ + (2 : Int) + (1 : Int) ≤ (1000000000000 : Int) ∧ BytesOk b ∧ (1 : Nat) ≤ List.length [(1 : Int), (2 : Int), (3 : Int), (10 : Int), (1 : Int), (100 : Int), (0 : Int)]) ∧ ((0 : Int) ≤ p + A2_ + (2 : Int) + (1 : Int) ∧ p + A2_ + (2 : Int) + (1 : Int) + (1 : Int) ≤ (1000000000000 : Int) ∧ BytesOk b ∧ (1 : Nat) ≤ List.length [(0 : Int), (0 : Int), (128 : Int), (256 : Int)]) ∧ ((0 : Int) ≤ p + A2_ + (2 : Int) + (1 : Int) + (1 : Int) ∧ p + A2_ + (2 : Int) + (1 : Int) + (1 : Int) + (1 : Int) ≤ (1000000000000 : Int) ∧ BytesOk b ∧ (1 : Nat) ≤ List.length [(0 : Int), (64 : Int), (128 : Int), (256 : Int)]) ∧ ((0 : Int) ≤ p + A2_ + (2 : Int) + (1 : Int) + (1 : Int) + (1 : Int) ∧ p + A2_ + (2 : Int) + (1 : Int) + (1 : Int) + (1 : Int) + (3 : Int) ≤ (1000000000000 : Int) ∧ BytesOk b ∧ (0 : Int) ≤ ii_ [(1 : Int), (2 : Int), (3 : Int), (10 : Int), (1 : Int), (100 : Int), (0 : Int)] A1_ ∧ ii_ [(1 : Int), (2 : Int), (3 : Int), (10 : Int), (1 : Int), (100 : Int), (0 : Int)] A1_ ≤ (100 : Int)) ∧ ((0 : Int) ≤ p + A2_ + (2 : Int) + (1 : Int) + (1 : Int) + (1 : Int) + (3 : Int) ∧ p + A2_ + (2 : Int) + (1 : Int) + (1 : Int) + (1 : Int) + (3 : Int) + (1 : Int) ≤ (1000000000000 : Int) ∧ BytesOk b ∧ (1 : Int) ≤ (6 : Int)) ∧ ifB (g_rdPick b (p + A2_ + (2 : Int) + (1 : Int) + (1 : Int) + (1 : Int) + (3 : Int)) (6 : Int) % (6 : Int) == (0 : Int)) (((0 : Int) ≤ p + A2_ + (2 : Int) + (1 : Int) + (1 : Int) + (1 : Int) + (3 : Int) + (1 : Int) ∧ p + A2_ + (2 : Int) + (1 : Int) + (1 : Int) + (1 : Int) + (3 : Int) + (1 : Int) + (1 : Int) ≤ (1000000000000 : Int) ∧ BytesOk b ∧ (1 : Int) ≤ (8 : Int)) ∧ ifB A10_ (Q (SV.agg [s_ id, s_ (Shape.Kind A6_), s_ (Shape.Wide A6_), s_ (Shape.High A6_), s_ (Vec.X A8_), s_ (Vec.Y A8_), s_ (Vec.X A4_), s_ (Vec.Y A4_), s_ A7_, s_ A5_, s_ A3_, s_ (0 : Int)]) [(false, vy_ b), (true, Blk.box [SV.vec (0 : Nat), s_ (p + A2_ + (2 : Int) + (1 : Int) + (1 : Int) + (1 : Int) + (3 : Int) + (1 : Int) + (1 : Int))])]) (Q (SV.agg [s_ id, s_ (Shape.Kind A6_), s_ (Shape.Wide A6_), s_ (Shape.High A6_), s_ (Vec.X A8_), s_ (Vec.Y A8_), s_ (Vec.X A4_), s_ (Vec.Y A4_), s_ A7_, s_ A5_, s_ A3_, s_ (g_rdPick b (p + A2_ + (2 : Int) + (1 : Int) + (1 : Int) + (1 : Int) + (3 : Int) + (1 : Int)) (8 : Int) % (8 : Int))]) [(false, vy_ b), (true, Blk.box [SV.vec (0 : Nat), s_ (p + A2_ + (2 : Int) + (1 : Int) + (1 : Int) + (1 : Int) + (3 : Int) + (1 : Int) + (1 : Int))])])) (ifB (g_rdPick b (p + A2_ + (2 : Int) + (1 : Int) + (1 : Int) + (1 : Int) + (3 : Int)) (6 : Int) % (6 : Int) == (1 : Int)) (ifB A10_ (Q (SV.agg [s_ id, s_ (Shape.Kind A6_), s_ (Shape.Wide A6_), s_ (Shape.High A6_), s_ (Vec.X A8_), s_ (Vec.Y A8_), s_ (0 : Int), s_ (0 : Int), s_ A7_, s_ A5_, s_ A3_, s_ (0 : Int)]) [(false, vy_ b), A9_]) (Q (SV.agg [s_ id, s_ (Shape.Kind A6_), s_ (Shape.Wide A6_), s_ (Shape.High A6_), s_ (Vec.X A8_), s_ (Vec.Y A8_), s_ (0 : Int), s_ (0 : Int), s_ A7_, s_ A5_, s_ A3_, s_ (8 : Int)]) [(false, vy_ b), A9_])) (ifB A10_ (Q (SV.agg [s_ id, s_ (Shape.Kind A6_), s_ (Shape.Wide A6_), s_ (Shape.High A6_), s_ (Vec.X A8_), s_ (Vec.Y A8_), s_ (Vec.X A4_), s_ (Vec.Y A4_), s_ A7_, s_ A5_, s_ A3_, s_ (0 : Int)]) [(false, vy_ b), A9_]) (Q (SV.agg [s_ id, s_ (Shape.Kind A6_), s_ (Shape.Wide A6_), s_ (Shape.High A6_), s_ (Vec.X A8_), s_ (Vec.Y A8_), s_ (Vec.X A4_), s_ (Vec.Y A4_), s_ A7_, s_ A5_, s_ A3_, s_ (0 : Int)]) [(false, vy_ b), A9_])))) := by kernel_rfl

theorem ok_l11Body : FsOk Tryz.prog 124 fs_l11Body := fsOk_of tt_ok (tabFs_cons ok_rdPick (tabFs_cons ok_rdOne (tabFs_cons ok_l11Shape (tabFs_cons ok_l11Place (tabFs_cons ok_l11Drive tabFs_nil))))) mixed Tryz.func124 (by kernel_rfl) (by kernel_rfl) (by
    intro args LL p0 r HH h hp
    unfold fs_l11Body at h
    dsimp only at h
    split at h
    case h_2 => cases h
    rename_i id b p
    simp only [Option.some.injEq, Prod.mk.injEq] at h
    obtain ⟨rfl, rfl, rfl⟩ := h
    refine ⟨by simp [Form, stays], L0, ?_⟩
    obtain ⟨hp0, hp1, hby⟩ := hp _ rfl
    refine someAns_ok (R := (fun x : ({x : Body // bodyD id x}) × Nat => (.agg [.int .i64 (x.1.1).Id, .int .i64 (x.1.1).Shape.Kind, .int .i64 (x.1.1).Shape.Wide, .int .i64 (x.1.1).Shape.High, .int .i64 (x.1.1).At.X, .int .i64 (x.1.1).At.Y, .int .i64 (x.1.1).Drive.X, .int .i64 (x.1.1).Drive.Y, .int .i64 (x.1.1).Mass, .int .i64 (x.1.1).Bounce, .int .i64 (x.1.1).Rub, .int .i64 (x.1.1).Quiet] : SV))) (HH := (fun x : ({x : Body // bodyD id x}) × Nat => ([(false, .vec .byte b), (true, .box [.vec 0, .int .i64 (p + ((x.2 % 16 : Nat) : Int))])] : List Ent))) (by kernel_rfl) ?_
    have fin : ∀ (zI : Int) (zK : Int) (zW : Int) (zH : Int) (zX : Int) (zY : Int) (zU : Int) (zV : Int) (zM : Int) (zB : Int) (zR : Int) (zQ : Int) (p' : Int), bodyD id (Body.mk zI (Shape.mk zK zW zH) (Vec.mk zX zY) (Vec.mk zU zV) zM zB zR zQ) → p ≤ p' → p' ≤ p + 15 → ∃ x : ({x : Body // bodyD id x}) × Nat, ((.agg [.int .i64 ((Body.mk zI (Shape.mk zK zW zH) (Vec.mk zX zY) (Vec.mk zU zV) zM zB zR zQ)).Id, .int .i64 ((Body.mk zI (Shape.mk zK zW zH) (Vec.mk zX zY) (Vec.mk zU zV) zM zB zR zQ)).Shape.Kind, .int .i64 ((Body.mk zI (Shape.mk zK zW zH) (Vec.mk zX zY) (Vec.mk zU zV) zM zB zR zQ)).Shape.Wide, .int .i64 ((Body.mk zI (Shape.mk zK zW zH) (Vec.mk zX zY) (Vec.mk zU zV) zM zB zR zQ)).Shape.High, .int .i64 ((Body.mk zI (Shape.mk zK zW zH) (Vec.mk zX zY) (Vec.mk zU zV) zM zB zR zQ)).At.X, .int .i64 ((Body.mk zI (Shape.mk zK zW zH) (Vec.mk zX zY) (Vec.mk zU zV) zM zB zR zQ)).At.Y, .int .i64 ((Body.mk zI (Shape.mk zK zW zH) (Vec.mk zX zY) (Vec.mk zU zV) zM zB zR zQ)).Drive.X, .int .i64 ((Body.mk zI (Shape.mk zK zW zH) (Vec.mk zX zY) (Vec.mk zU zV) zM zB zR zQ)).Drive.Y, .int .i64 ((Body.mk zI (Shape.mk zK zW zH) (Vec.mk zX zY) (Vec.mk zU zV) zM zB zR zQ)).Mass, .int .i64 ((Body.mk zI (Shape.mk zK zW zH) (Vec.mk zX zY) (Vec.mk zU zV) zM zB zR zQ)).Bounce, .int .i64 ((Body.mk zI (Shape.mk zK zW zH) (Vec.mk zX zY) (Vec.mk zU zV) zM zB zR zQ)).Rub, .int .i64 ((Body.mk zI (Shape.mk zK zW zH) (Vec.mk zX zY) (Vec.mk zU zV) zM zB zR zQ)).Quiet] : SV) : SV) = (fun x : ({x : Body // bodyD id x}) × Nat => (.agg [.int .i64 (x.1.1).Id, .int .i64 (x.1.1).Shape.Kind, .int .i64 (x.1.1).Shape.Wide, .int .i64 (x.1.1).Shape.High, .int .i64 (x.1.1).At.X, .int .i64 (x.1.1).At.Y, .int .i64 (x.1.1).Drive.X, .int .i64 (x.1.1).Drive.Y, .int .i64 (x.1.1).Mass, .int .i64 (x.1.1).Bounce, .int .i64 (x.1.1).Rub, .int .i64 (x.1.1).Quiet] : SV)) x ∧ (([(false, .vec .byte b), (true, .box [.vec 0, .int .i64 p'])] : List Ent) : List Ent) = (fun x : ({x : Body // bodyD id x}) × Nat => ([(false, .vec .byte b), (true, .box [.vec 0, .int .i64 (p + ((x.2 % 16 : Nat) : Int))])] : List Ent)) x := fun zI zK zW zH zX zY zU zV zM zB zR zQ p' hpred h1 h2 => ⟨(⟨(Body.mk zI (Shape.mk zK zW zH) (Vec.mk zX zY) (Vec.mk zU zV) zM zB zR zQ), hpred⟩, (p' - p).toNat), rfl, by
      have : p + (((p' - p).toNat % 16 : Nat) : Int) = p' := by omega
      dsimp only
      rw [this]⟩
    rw [vc_l11Body]
    try dsimp only
    try dsimp only at fin
    simp only [ixPart]
    have hM := massL
    refine ⟨⟨by omega, by omega, hby⟩, ⟨by omega, by omega, hby⟩, ⟨by omega, by omega, hby, by simp⟩, ⟨by omega, by omega, hby, by simp⟩, ⟨by omega, by omega, hby, by simp⟩, ⟨by omega, by omega, hby, hM _⟩, ⟨by omega, by omega, hby, by omega⟩, ?_⟩
    have hs := fun b p => (g_l11Shape b p).1.2
    have hpl := fun b p => (g_l11Place b p).1.2
    have hd := fun b p m => (g_l11Drive b p m).1.2
    refine ifB_of (fun c => ⟨⟨by omega, by omega, hby, by omega⟩, ifB_of (fun c2 => ?_) (fun c2 => ?_)⟩) (fun c => ifB_of (fun c1 => ifB_of (fun c2 => ?_) (fun c2 => ?_)) (fun c1 => ifB_of (fun c2 => ?_) (fun c2 => ?_)))
    all_goals simp only [beq_iff_eq, beq_eq_false_iff_ne] at c2
    · exact fin _ _ _ _ _ _ _ _ _ _ _ _ _ (bodyD_mk (hs _ _) (hpl _ _) (hd _ _ _) (massL _) (part0_le _) (part64_le _) (by omega) (fun _ => rfl) (fun h => by omega)) (by omega) (by omega)
    · exact fin _ _ _ _ _ _ _ _ _ _ _ _ _ (bodyD_mk (hs _ _) (hpl _ _) (hd _ _ _) (massL _) (part0_le _) (part64_le _) (by omega) (fun h => absurd h c2) (fun h => by omega)) (by omega) (by omega)
    · exact fin _ _ _ _ _ _ _ _ _ _ _ _ _ (bodyD_mk (hs _ _) (hpl _ _) (driveD_zero _) (massL _) (part0_le _) (part64_le _) (by omega) (fun _ => rfl) (fun h => by omega)) (by omega) (by omega)
    · exact fin _ _ _ _ _ _ _ _ _ _ _ _ _ (bodyD_mk (hs _ _) (hpl _ _) (driveD_zero _) (massL _) (part0_le _) (part64_le _) (by omega) (fun h => absurd h c2) (fun _ => ⟨rfl, rfl⟩)) (by omega) (by omega)
    · exact fin _ _ _ _ _ _ _ _ _ _ _ _ _ (bodyD_mk (hs _ _) (hpl _ _) (hd _ _ _) (massL _) (part0_le _) (part64_le _) (by omega) (fun _ => rfl) (fun h => by omega)) (by omega) (by omega)
    · exact fin _ _ _ _ _ _ _ _ _ _ _ _ _ (bodyD_mk (hs _ _) (hpl _ _) (hd _ _ _) (massL _) (part0_le _) (part64_le _) (by omega) (fun _ => rfl) (fun h => by omega)) (by omega) (by omega))

noncomputable def g_l11AnyBody (b : List Int) (p : Int) : (Body) × Nat := someAns tt (look [(69, fs_rdPick), (51, fs_rdOne), (124, fs_l11Body), (125, fs_l11AnyShape), (126, fs_l11AnyPlace)]) Tryz.f87 [.ptr 1 0 0] [(false, .vec .byte b), (true, .box [.vec 0, .int .i64 p])] (fun x : (Body) × Nat => (.agg [.int .i64 (x.1).Id, .int .i64 (x.1).Shape.Kind, .int .i64 (x.1).Shape.Wide, .int .i64 (x.1).Shape.High, .int .i64 (x.1).At.X, .int .i64 (x.1).At.Y, .int .i64 (x.1).Drive.X, .int .i64 (x.1).Drive.Y, .int .i64 (x.1).Mass, .int .i64 (x.1).Bounce, .int .i64 (x.1).Rub, .int .i64 (x.1).Quiet] : SV)) (fun x : (Body) × Nat => ([(false, .vec .byte b), (true, .box [.vec 0, .int .i64 (p + ((x.2 % 25 : Nat) : Int))])] : List Ent))
noncomputable def fs_l11AnyBody : Fs := ⟨[], fun args H => match args, H with
  | [.ptr 1 0 0], [(false, .vec .byte b), (true, .box [.vec 0, .int .i64 p])] => some ((some (0 ≤ p ∧ p + 24 ≤ 1000000000000 ∧ BytesOk b)), .agg [.int .i64 ((g_l11AnyBody b p).1).Id, .int .i64 ((g_l11AnyBody b p).1).Shape.Kind, .int .i64 ((g_l11AnyBody b p).1).Shape.Wide, .int .i64 ((g_l11AnyBody b p).1).Shape.High, .int .i64 ((g_l11AnyBody b p).1).At.X, .int .i64 ((g_l11AnyBody b p).1).At.Y, .int .i64 ((g_l11AnyBody b p).1).Drive.X, .int .i64 ((g_l11AnyBody b p).1).Drive.Y, .int .i64 ((g_l11AnyBody b p).1).Mass, .int .i64 ((g_l11AnyBody b p).1).Bounce, .int .i64 ((g_l11AnyBody b p).1).Rub, .int .i64 ((g_l11AnyBody b p).1).Quiet], [(false, .vec .byte b), (true, .box [.vec 0, .int .i64 (p + (((g_l11AnyBody b p).2 % 25 : Nat) : Int))])])
  | _, _ => none⟩

theorem vc_l11AnyBody (b : List Int) (p : Int) (Q : SV → List Ent → Prop) :
    fnVC tt (look [(69, fs_rdPick), (51, fs_rdOne), (124, fs_l11Body), (125, fs_l11AnyShape), (126, fs_l11AnyPlace)]) L0 Tryz.f87 [.ptr 1 0 0] [(false, .vec .byte b), (true, .box [.vec 0, .int .i64 p])] Q =
    (let s_ := SV.int IntKind.i64; let ii_ := Ty.ix Ty.int; let A6_ := (false, Blk.vec Ty.byte b); let A1_ := (g_l11Body b (p + (1 : Int)) (g_rdPick b p (9 : Int) % (9 : Int))); let A3_ := (↑(Prod.snd A1_ % (16 : Nat)) : Int); let A5_ := (p + (1 : Int) + A3_ + (1 : Int)); let A4_ := (true, Blk.box [SV.vec (0 : Nat), s_ (p + (1 : Int) + A3_ + (1 : Int) + (1 : Int))]); let A2_ := (Subtype.val (Prod.fst A1_)); let A9_ := (Shape.High (Body.Shape A2_)); let A8_ := (Shape.Wide (Body.Shape A2_)); let A7_ := (Shape.Kind (Body.Shape A2_)); ((0 : Int) ≤ p ∧ p + (1 : Int) ≤ (1000000000000 : Int) ∧ BytesOk b ∧ (1 : Int) ≤ (9 : Int)) ∧ ((0 : Int) ≤ p + (1 : Int) ∧ p + (1 : Int) + (15 : Int) ≤ (1000000000000 : Int) ∧ BytesOk b) ∧ ((0 : Int) ≤ p + (1 : Int) + A3_ ∧ p + (1 : Int) + A3_ + (1 : Int) ≤ (1000000000000 : Int) ∧ BytesOk b ∧ (1 : Int) ≤ (20 : Int)) ∧ ifB (g_rdPick b (p + (1 : Int) + A3_) (20 : Int) % (20 : Int) == (0 : Int)) (((0 : Int) ≤ p + (1 : Int) + A3_ + (1 : Int) ∧ p + (1 : Int) + A3_ + (1 : Int) + (1 : Int) ≤ (1000000000000 : Int) ∧ BytesOk b ∧ (1 : Nat) ≤ List.length [(-1 : Int), (1000000000 : Int), (1000000001 : Int)]) ∧ Q (SV.agg [s_ (ii_ [(-1 : Int), (1000000000 : Int), (1000000001 : Int)] (Int.toNat (g_rdPick b A5_ (↑(List.length [(-1 : Int), (1000000000 : Int), (1000000001 : Int)]) : Int) % (↑(List.length [(-1 : Int), (1000000000 : Int), (1000000001 : Int)]) : Int)))), s_ A7_, s_ A8_, s_ A9_, s_ (Vec.X (Body.At A2_)), s_ (Vec.Y (Body.At A2_)), s_ (Vec.X (Body.Drive A2_)), s_ (Vec.Y (Body.Drive A2_)), s_ (Body.Mass A2_), s_ (Body.Bounce A2_), s_ (Body.Rub A2_), s_ (Body.Quiet A2_)]) [A6_, A4_]) (ifB (g_rdPick b (p + (1 : Int) + A3_) (20 : Int) % (20 : Int) == (1 : Int)) (((0 : Int) ≤ p + (1 : Int) + A3_ + (1 : Int) ∧ p + (1 : Int) + A3_ + (1 : Int) + (7 : Int) ≤ (1000000000000 : Int) ∧ BytesOk b) ∧ Q (SV.agg [s_ (Body.Id A2_), s_ (Shape.Kind (Prod.fst (g_l11AnyShape b A5_))), s_ (Shape.Wide (Prod.fst (g_l11AnyShape b A5_))), s_ (Shape.High (Prod.fst (g_l11AnyShape b A5_))), s_ (Vec.X (Body.At A2_)), s_ (Vec.Y (Body.At A2_)), s_ (Vec.X (Body.Drive A2_)), s_ (Vec.Y (Body.Drive A2_)), s_ (Body.Mass A2_), s_ (Body.Bounce A2_), s_ (Body.Rub A2_), s_ (Body.Quiet A2_)]) [A6_, (true, Blk.box [SV.vec (0 : Nat), s_ (p + (1 : Int) + A3_ + (1 : Int) + (↑(Prod.snd (g_l11AnyShape b A5_) % (8 : Nat)) : Int))])]) (ifB (g_rdPick b (p + (1 : Int) + A3_) (20 : Int) % (20 : Int) == (2 : Int)) (((0 : Int) ≤ p + (1 : Int) + A3_ + (1 : Int) ∧ p + (1 : Int) + A3_ + (1 : Int) + (4 : Int) ≤ (1000000000000 : Int) ∧ BytesOk b) ∧ Q (SV.agg [s_ (Body.Id A2_), s_ A7_, s_ A8_, s_ A9_, s_ (Vec.X (Subtype.val (Prod.fst (g_l11AnyPlace b A5_)))), s_ (Vec.Y (Subtype.val (Prod.fst (g_l11AnyPlace b A5_)))), s_ (Vec.X (Body.Drive A2_)), s_ (Vec.Y (Body.Drive A2_)), s_ (Body.Mass A2_), s_ (Body.Bounce A2_), s_ (Body.Rub A2_), s_ (Body.Quiet A2_)]) [A6_, (true, Blk.box [SV.vec (0 : Nat), s_ (p + (1 : Int) + A3_ + (1 : Int) + (↑(Prod.snd (g_l11AnyPlace b A5_) % (5 : Nat)) : Int))])]) (ifB (g_rdPick b (p + (1 : Int) + A3_) (20 : Int) % (20 : Int) == (3 : Int)) (((0 : Int) ≤ p + (1 : Int) + A3_ + (1 : Int) ∧ p + (1 : Int) + A3_ + (1 : Int) + (1 : Int) ≤ (1000000000000 : Int) ∧ BytesOk b ∧ (1 : Nat) ≤ List.length [(20000000 : Int), (-20000001 : Int), (1 : Int)]) ∧ Q (SV.agg [s_ (Body.Id A2_), s_ A7_, s_ A8_, s_ A9_, s_ (Vec.X (Body.At A2_)), s_ (Vec.Y (Body.At A2_)), s_ (ii_ [(20000000 : Int), (-20000001 : Int), (1 : Int)] (Int.toNat (g_rdPick b A5_ (↑(List.length [(20000000 : Int), (-20000001 : Int), (1 : Int)]) : Int) % (↑(List.length [(20000000 : Int), (-20000001 : Int), (1 : Int)]) : Int)))), s_ (Vec.Y (Body.Drive A2_)), s_ (Body.Mass A2_), s_ (Body.Bounce A2_), s_ (Body.Rub A2_), s_ (Body.Quiet A2_)]) [A6_, A4_]) (ifB (g_rdPick b (p + (1 : Int) + A3_) (20 : Int) % (20 : Int) == (4 : Int)) (((0 : Int) ≤ p + (1 : Int) + A3_ + (1 : Int) ∧ p + (1 : Int) + A3_ + (1 : Int) + (1 : Int) ≤ (1000000000000 : Int) ∧ BytesOk b ∧ (1 : Nat) ≤ List.length [(-1 : Int), (0 : Int), (1000 : Int), (1001 : Int)]) ∧ Q (SV.agg [s_ (Body.Id A2_), s_ A7_, s_ A8_, s_ A9_, s_ (Vec.X (Body.At A2_)), s_ (Vec.Y (Body.At A2_)), s_ (Vec.X (Body.Drive A2_)), s_ (Vec.Y (Body.Drive A2_)), s_ (ii_ [(-1 : Int), (0 : Int), (1000 : Int), (1001 : Int)] (Int.toNat (g_rdPick b A5_ (↑(List.length [(-1 : Int), (0 : Int), (1000 : Int), (1001 : Int)]) : Int) % (↑(List.length [(-1 : Int), (0 : Int), (1000 : Int), (1001 : Int)]) : Int)))), s_ (Body.Bounce A2_), s_ (Body.Rub A2_), s_ (Body.Quiet A2_)]) [A6_, A4_]) (ifB (g_rdPick b (p + (1 : Int) + A3_) (20 : Int) % (20 : Int) == (5 : Int)) (((0 : Int) ≤ p + (1 : Int) + A3_ + (1 : Int) ∧ p + (1 : Int) + A3_ + (1 : Int) + (1 : Int) ≤ (1000000000000 : Int) ∧ BytesOk b ∧ (1 : Nat) ≤ List.length [(-1 : Int), (257 : Int)]) ∧ Q (SV.agg [s_ (Body.Id A2_), s_ A7_, s_ A8_, s_ A9_, s_ (Vec.X (Body.At A2_)), s_ (Vec.Y (Body.At A2_)), s_ (Vec.X (Body.Drive A2_)), s_ (Vec.Y (Body.Drive A2_)), s_ (Body.Mass A2_), s_ (ii_ [(-1 : Int), (257 : Int)] (Int.toNat (g_rdPick b A5_ (↑(List.length [(-1 : Int), (257 : Int)]) : Int) % (↑(List.length [(-1 : Int), (257 : Int)]) : Int)))), s_ (Body.Rub A2_), s_ (Body.Quiet A2_)]) [A6_, A4_]) (ifB (g_rdPick b (p + (1 : Int) + A3_) (20 : Int) % (20 : Int) == (6 : Int)) (((0 : Int) ≤ p + (1 : Int) + A3_ + (1 : Int) ∧ p + (1 : Int) + A3_ + (1 : Int) + (1 : Int) ≤ (1000000000000 : Int) ∧ BytesOk b ∧ (1 : Nat) ≤ List.length [(-1 : Int), (8 : Int), (9 : Int)]) ∧ Q (SV.agg [s_ (Body.Id A2_), s_ A7_, s_ A8_, s_ A9_, s_ (Vec.X (Body.At A2_)), s_ (Vec.Y (Body.At A2_)), s_ (Vec.X (Body.Drive A2_)), s_ (Vec.Y (Body.Drive A2_)), s_ (Body.Mass A2_), s_ (Body.Bounce A2_), s_ (Body.Rub A2_), s_ (ii_ [(-1 : Int), (8 : Int), (9 : Int)] (Int.toNat (g_rdPick b A5_ (↑(List.length [(-1 : Int), (8 : Int), (9 : Int)]) : Int) % (↑(List.length [(-1 : Int), (8 : Int), (9 : Int)]) : Int))))]) [A6_, A4_]) (ifB (g_rdPick b (p + (1 : Int) + A3_) (20 : Int) % (20 : Int) == (7 : Int)) (((0 : Int) ≤ p + (1 : Int) + A3_ + (1 : Int) ∧ p + (1 : Int) + A3_ + (1 : Int) + (1 : Int) ≤ (1000000000000 : Int) ∧ BytesOk b ∧ (1 : Nat) ≤ List.length [(-1 : Int), (257 : Int)]) ∧ Q (SV.agg [s_ (Body.Id A2_), s_ A7_, s_ A8_, s_ A9_, s_ (Vec.X (Body.At A2_)), s_ (Vec.Y (Body.At A2_)), s_ (Vec.X (Body.Drive A2_)), s_ (Vec.Y (Body.Drive A2_)), s_ (Body.Mass A2_), s_ (Body.Bounce A2_), s_ (ii_ [(-1 : Int), (257 : Int)] (Int.toNat (g_rdPick b A5_ (↑(List.length [(-1 : Int), (257 : Int)]) : Int) % (↑(List.length [(-1 : Int), (257 : Int)]) : Int)))), s_ (Body.Quiet A2_)]) [A6_, A4_]) (Q (SV.agg [s_ (Body.Id A2_), s_ A7_, s_ A8_, s_ A9_, s_ (Vec.X (Body.At A2_)), s_ (Vec.Y (Body.At A2_)), s_ (Vec.X (Body.Drive A2_)), s_ (Vec.Y (Body.Drive A2_)), s_ (Body.Mass A2_), s_ (Body.Bounce A2_), s_ (Body.Rub A2_), s_ (Body.Quiet A2_)]) [A6_, (true, Blk.box [SV.vec (0 : Nat), s_ A5_])]))))))))) := by kernel_rfl

theorem ok_l11AnyBody : FsOk Tryz.prog 87 fs_l11AnyBody := fsOk_of tt_ok (tabFs_cons ok_rdPick (tabFs_cons ok_rdOne (tabFs_cons ok_l11Body (tabFs_cons ok_l11AnyShape (tabFs_cons ok_l11AnyPlace tabFs_nil))))) mixed Tryz.func87 (by kernel_rfl) (by kernel_rfl) (by
    intro args LL p0 r HH h hp
    unfold fs_l11AnyBody at h
    dsimp only at h
    split at h
    case h_2 => cases h
    rename_i b p
    simp only [Option.some.injEq, Prod.mk.injEq] at h
    obtain ⟨rfl, rfl, rfl⟩ := h
    refine ⟨by simp [Form, stays], L0, ?_⟩
    obtain ⟨hp0, hp1, hby⟩ := hp _ rfl
    refine someAns_ok (R := (fun x : (Body) × Nat => (.agg [.int .i64 (x.1).Id, .int .i64 (x.1).Shape.Kind, .int .i64 (x.1).Shape.Wide, .int .i64 (x.1).Shape.High, .int .i64 (x.1).At.X, .int .i64 (x.1).At.Y, .int .i64 (x.1).Drive.X, .int .i64 (x.1).Drive.Y, .int .i64 (x.1).Mass, .int .i64 (x.1).Bounce, .int .i64 (x.1).Rub, .int .i64 (x.1).Quiet] : SV))) (HH := (fun x : (Body) × Nat => ([(false, .vec .byte b), (true, .box [.vec 0, .int .i64 (p + ((x.2 % 25 : Nat) : Int))])] : List Ent))) (by kernel_rfl) ?_
    have fin : ∀ (zI : Int) (zK : Int) (zW : Int) (zH : Int) (zX : Int) (zY : Int) (zU : Int) (zV : Int) (zM : Int) (zB : Int) (zR : Int) (zQ : Int) (p' : Int), p ≤ p' → p' ≤ p + 24 → ∃ x : (Body) × Nat, ((.agg [.int .i64 ((Body.mk zI (Shape.mk zK zW zH) (Vec.mk zX zY) (Vec.mk zU zV) zM zB zR zQ)).Id, .int .i64 ((Body.mk zI (Shape.mk zK zW zH) (Vec.mk zX zY) (Vec.mk zU zV) zM zB zR zQ)).Shape.Kind, .int .i64 ((Body.mk zI (Shape.mk zK zW zH) (Vec.mk zX zY) (Vec.mk zU zV) zM zB zR zQ)).Shape.Wide, .int .i64 ((Body.mk zI (Shape.mk zK zW zH) (Vec.mk zX zY) (Vec.mk zU zV) zM zB zR zQ)).Shape.High, .int .i64 ((Body.mk zI (Shape.mk zK zW zH) (Vec.mk zX zY) (Vec.mk zU zV) zM zB zR zQ)).At.X, .int .i64 ((Body.mk zI (Shape.mk zK zW zH) (Vec.mk zX zY) (Vec.mk zU zV) zM zB zR zQ)).At.Y, .int .i64 ((Body.mk zI (Shape.mk zK zW zH) (Vec.mk zX zY) (Vec.mk zU zV) zM zB zR zQ)).Drive.X, .int .i64 ((Body.mk zI (Shape.mk zK zW zH) (Vec.mk zX zY) (Vec.mk zU zV) zM zB zR zQ)).Drive.Y, .int .i64 ((Body.mk zI (Shape.mk zK zW zH) (Vec.mk zX zY) (Vec.mk zU zV) zM zB zR zQ)).Mass, .int .i64 ((Body.mk zI (Shape.mk zK zW zH) (Vec.mk zX zY) (Vec.mk zU zV) zM zB zR zQ)).Bounce, .int .i64 ((Body.mk zI (Shape.mk zK zW zH) (Vec.mk zX zY) (Vec.mk zU zV) zM zB zR zQ)).Rub, .int .i64 ((Body.mk zI (Shape.mk zK zW zH) (Vec.mk zX zY) (Vec.mk zU zV) zM zB zR zQ)).Quiet] : SV) : SV) = (fun x : (Body) × Nat => (.agg [.int .i64 (x.1).Id, .int .i64 (x.1).Shape.Kind, .int .i64 (x.1).Shape.Wide, .int .i64 (x.1).Shape.High, .int .i64 (x.1).At.X, .int .i64 (x.1).At.Y, .int .i64 (x.1).Drive.X, .int .i64 (x.1).Drive.Y, .int .i64 (x.1).Mass, .int .i64 (x.1).Bounce, .int .i64 (x.1).Rub, .int .i64 (x.1).Quiet] : SV)) x ∧ (([(false, .vec .byte b), (true, .box [.vec 0, .int .i64 p'])] : List Ent) : List Ent) = (fun x : (Body) × Nat => ([(false, .vec .byte b), (true, .box [.vec 0, .int .i64 (p + ((x.2 % 25 : Nat) : Int))])] : List Ent)) x := fun zI zK zW zH zX zY zU zV zM zB zR zQ p' h1 h2 => ⟨((Body.mk zI (Shape.mk zK zW zH) (Vec.mk zX zY) (Vec.mk zU zV) zM zB zR zQ), (p' - p).toNat), rfl, by
      have : p + (((p' - p).toNat % 25 : Nat) : Int) = p' := by omega
      dsimp only
      rw [this]⟩
    rw [vc_l11AnyBody]
    try dsimp only
    try dsimp only at fin
    repeat' (first | refine ifB_of (fun _ => ?_) (fun _ => ?_) | refine pre_of ?_ (fun _ => ?_))
    all_goals first
      | (refine fin _ _ _ _ _ _ _ _ _ _ _ _ _ ?_ ?_ <;> omega)
      | omega
      | exact hby
      | exact Nat.le_add_left _ _
      | exact ⟨by omega, by omega, hby⟩
      | exact ⟨by omega, by omega, hby, by omega⟩
      | exact ⟨by omega, by omega, hby, Nat.le_add_left _ _⟩)

def hitR (h : Hit) : Prop := wayR h.Way
instance : Nonempty {x : Hit // hitR x} := ⟨⟨⟨⟨0, 0⟩, 0⟩, zero_R⟩⟩
def twoR (z : Body × Body × Hit) : Prop := wayR z.2.2.Way
def twoB (z : Body × Body × Hit × Bool) : Prop := wayR z.2.2.1.Way
instance : Nonempty {x : Body × Body × Hit // twoR x} := ⟨⟨(⟨0, ⟨0, 0, 0⟩, ⟨0, 0⟩, ⟨0, 0⟩, 0, 0, 0, 0⟩, ⟨0, ⟨0, 0, 0⟩, ⟨0, 0⟩, ⟨0, 0⟩, 0, 0, 0, 0⟩, ⟨⟨0, 0⟩, 0⟩), zero_R⟩⟩
instance : Nonempty {x : Body × Body × Hit × Bool // twoB x} := ⟨⟨(⟨0, ⟨0, 0, 0⟩, ⟨0, 0⟩, ⟨0, 0⟩, 0, 0, 0, 0⟩, ⟨0, ⟨0, 0, 0⟩, ⟨0, 0⟩, ⟨0, 0⟩, 0, 0, 0, 0⟩, ⟨⟨0, 0⟩, 0⟩, false), zero_R⟩⟩
def rayD (z : Ray × Shape × Vec) : Prop := placeA z.2.2
instance : Nonempty {x : Ray × Shape × Vec // rayD x} := ⟨⟨(⟨⟨0, 0⟩, ⟨0, 0⟩⟩, ⟨0, 0, 0⟩, ⟨0, 0⟩), by simp [rayD, placeA]⟩⟩
end Go.Proofs.YtnahfbjdicjdpaaGreat.Sym

