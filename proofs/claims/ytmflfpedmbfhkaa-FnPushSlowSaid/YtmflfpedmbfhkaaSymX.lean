/-
  Lists that are handed in, opened.
  No condition.
-/
import Derived.Test.YtmflfpedmbfhkaaSymV
namespace Go.Proofs.Ytmflfpedmbfhkaa.Sym
open Go
set_option linter.unusedVariables false
set_option linter.unusedSimpArgs false

/-- Cells of whole numbers and bools, of the kinds said. -/
def FlatV : List (Option IntKind) → List Value → Prop
  | [], [] => True
  | some k :: ks, .int k' n :: vs => k' = k ∧ (Lit.int k n).wf = true ∧ FlatV ks vs
  | none :: ks, .bool _ :: vs => FlatV ks vs
  | _, _ => False

theorem FlatV.length : ∀ {ks : List (Option IntKind)} {vs : List Value}, FlatV ks vs → vs.length = ks.length
  | [], [], _ => rfl
  | some k :: ks, .int k' n :: vs, h => by simp [FlatV.length h.2.2]
  | none :: ks, .bool b :: vs, h => by simp [FlatV.length (ks := ks) (vs := vs) h]

theorem FlatV.append : ∀ {k1 k2 : List (Option IntKind)} {v1 v2 : List Value}, FlatV k1 v1 → FlatV k2 v2 → FlatV (k1 ++ k2) (v1 ++ v2)
  | [], k2, [], v2, _, h => h
  | some k :: ks, k2, .int k' n :: vs, v2, h1, h2 => ⟨h1.1, h1.2.1, FlatV.append h1.2.2 h2⟩
  | none :: ks, k2, .bool b :: vs, v2, h1, h2 => FlatV.append (k1 := ks) (v1 := vs) h1 h2

section
variable {H : Type} {enc : TypeId × Value → H} {P : Program} {w : World} {base : Nat} {spare : Nat → Bool} {held : Bool}

theorem trod_flat : ∀ (d : Nat) (t : Nat) (ks : List (Option IntKind)), flatK P d t = some ks → ∀ (fuel : Nat) (cs : List Value) x, DataW.trod enc P w base spare held fuel t cs = some x →
    (∀ u, P.underlying t = some u → aggDesc u = true → P.cellsOf t = ks.length) → FlatV ks cs
  | 0, t, ks, hk, _, _, _, _, _ => by simp [flatK] at hk
  | d + 1, t, ks, hk, 0, cs, x, h, _ => by simp [DataW.trod] at h
  | d + 1, t, ks, hk, fuel + 1, cs, x, h, hC => by
    simp only [flatK] at hk
    split at hk
    · rename_i k hu
      cases hk
      simp only [DataW.trod, hu] at h
      split at h <;> simp_all [FlatV]
    · rename_i hu
      cases hk
      simp only [DataW.trod, hu] at h
      split at h <;> simp_all [FlatV]
    · rename_i fs hu
      split at hk
      · cases hk
      have hC := hC _ hu rfl
      simp only [DataW.trod, hu] at h
      split at h
      case isFalse => cases h
      rename_i hlen
      simp only [Option.map_eq_some_iff] at h
      obtain ⟨ys, hys, _⟩ := h
      have each : ∀ f ∈ fs.toList, ∃ y, DataW.trod enc P w base spare held fuel f.type ((cs.drop f.offset).take (P.cellsOf f.type)) = some y := fun f hf => by
        have hys' : List.mapM (fun f : Field => DataW.trod enc P w base spare held fuel f.type ((cs.drop f.offset).take (P.cellsOf f.type))) fs.toList = some ys := hys
        exact WideShapes.mapM_each hys' f hf
      have go : ∀ (l : List Field) (acc ks : List (Option IntKind)), (∀ f ∈ l, f ∈ fs.toList) → flatFs P (flatK P d) l acc = some ks → ks.length ≤ cs.length → FlatV acc (cs.take acc.length) → FlatV ks (cs.take ks.length) := by
        intro l
        induction l with
        | nil => intro acc ks _ h _ ha; cases h; exact ha
        | cons f r ih =>
          intro acc ks hm h hl ha
          simp only [flatFs] at h
          split at h
          case isFalse => cases h
          rename_i hcond
          split at h
          case h_2 => cases h
          rename_i kf hkf
          split at h
          case isFalse => cases h
          rename_i hsz
          have hmono : ∀ (l : List Field) (acc ks : List (Option IntKind)), flatFs P (flatK P d) l acc = some ks → acc.length ≤ ks.length := by
            intro l
            induction l with
            | nil => intro acc ks h; cases h; exact Nat.le_refl _
            | cons f r ih =>
              intro acc ks h
              simp only [flatFs] at h
              split at h
              case isFalse => cases h
              split at h
              case h_2 => cases h
              split at h
              case isFalse => cases h
              have := ih _ _ h
              simp at this
              omega
          have hm1 := hmono r _ _ h
          simp only [List.length_append] at hm1
          refine ih (acc ++ kf) ks (fun g hg => hm g (List.mem_cons_of_mem _ hg)) h hl ?_
          obtain ⟨y, hy⟩ := each f (hm f List.mem_cons_self)
          have hf := trod_flat d f.type kf hkf fuel _ y hy (fun _ _ _ => hsz.1)
          rw [List.length_append, List.take_add]
          refine ha.append ?_
          rw [← hcond.2, ← hsz.1]
          exact hf
      have := go fs.toList [] ks (fun f hf => hf) hk (by omega) trivial
      rwa [List.take_of_length_le (by omega)] at this
    · cases hk

/-- All whole numbers are of their kind's size. -/
def fits : SV → Bool
  | .int k n => (Lit.int k n).wf
  | _ => true

theorem flat_ints {k : IntKind} : ∀ {n : Nat} {cs : List Value}, FlatV (List.replicate n (some k)) cs → ∃ ns : List Int, ns.length = n ∧ cs = ns.map (Value.int k) ∧ ∀ m ∈ ns, (Lit.int k m).wf = true
  | 0, [], _ => ⟨[], rfl, rfl, fun m h => by cases h⟩
  | n + 1, .int k' m :: cs, h => by
    obtain ⟨rfl, h2, h3⟩ := h
    obtain ⟨ns, l, e, w⟩ := flat_ints (n := n) (cs := cs) h3
    refine ⟨m :: ns, by simp [l], by simp [e], ?_⟩
    intro q hq
    rcases List.mem_cons.1 hq with rfl | hq
    · exact h2
    · exact w q hq

theorem list1 {α : Type} {l : List α} (h : l.length = 1) : ∃ a, l = [a] := by
  match l, h with
  | [a], _ => exact ⟨a, rfl⟩
theorem list5 {α : Type} {l : List α} (h : l.length = 5) : ∃ a b c d e, l = [a, b, c, d, e] := by
  match l, h with
  | [a, b, c, d, e], _ => exact ⟨a, b, c, d, e, rfl⟩

theorem dec_flat (U : Ty) {cs : List Value} (h : FlatV (kindsOf (U.enc U.dft)) cs) : ∃ x : U.El, cs = (U.enc x).map svl ∧ ∀ c ∈ U.enc x, fits c = true := by
  cases U with
  | int =>
    obtain ⟨ns, l, rfl, w⟩ := flat_ints (k := .i64) (n := 1) h
    obtain ⟨a, rfl⟩ := list1 l
    exact ⟨a, rfl, by simpa [Ty.enc, fits] using w⟩
  | byte =>
    obtain ⟨ns, l, rfl, w⟩ := flat_ints (k := .u8) (n := 1) h
    obtain ⟨a, rfl⟩ := list1 l
    exact ⟨a, rfl, by simpa [Ty.enc, fits] using w⟩
  | bool =>
    match cs, h with
    | [.bool b], _ => exact ⟨b, rfl, by simp [Ty.enc, fits]⟩
  | vec =>
    obtain ⟨ns, l, rfl, w⟩ := flat_ints (k := .i64) (n := 2) h
    obtain ⟨a, b, rfl⟩ := list2 l
    exact ⟨⟨a, b⟩, rfl, by simpa [Ty.enc, fits] using w⟩
  | item =>
    obtain ⟨ns, l, rfl, w⟩ := flat_ints (k := .i64) (n := 5) h
    obtain ⟨a, b, c, d, e, rfl⟩ := list5 l
    exact ⟨⟨a, ⟨⟨b, c⟩, ⟨d, e⟩⟩⟩, rfl, by simpa [Ty.enc, fits] using w⟩
  | pair =>
    obtain ⟨ns, l, rfl, w⟩ := flat_ints (k := .i64) (n := 2) h
    obtain ⟨a, b, rfl⟩ := list2 l
    exact ⟨⟨a, b⟩, rfl, by simpa [Ty.enc, fits] using w⟩
  | hit =>
    obtain ⟨ns, l, rfl, w⟩ := flat_ints (k := .i64) (n := 3) h
    obtain ⟨a, b, c, rfl⟩ := list3 l
    exact ⟨⟨⟨a, b⟩, c⟩, rfl, by simpa [Ty.enc, fits] using w⟩
  | contact =>
    obtain ⟨ns, l, rfl, w⟩ := flat_ints (k := .i64) (n := 5) h
    obtain ⟨a, b, c, d, e, rfl⟩ := list5 l
    exact ⟨⟨a, b, ⟨⟨c, d⟩, e⟩⟩, rfl, by simpa [Ty.enc, fits] using w⟩
  | event =>
    match cs, h with
    | .bool b :: cs, h =>
      obtain ⟨ns, l, rfl, w⟩ := flat_ints (k := .i64) (n := 2) (cs := cs) h
      obtain ⟨c, d, rfl⟩ := list2 l
      exact ⟨⟨b, ⟨c, d⟩⟩, rfl, by simpa [Ty.enc, fits] using w⟩
  | body =>
    obtain ⟨ns, l, rfl, w⟩ := flat_ints (k := .i64) (n := 12) h
    obtain ⟨a, b, c, d, e, f, g, q, i, j, k, m, rfl⟩ := list12 l
    exact ⟨⟨a, ⟨b, c, d⟩, ⟨e, f⟩, ⟨g, q⟩, i, j, k, m⟩, rfl, by simpa [Ty.enc, fits] using w⟩

theorem pick_list {α : Type} {p : Nat → α → Prop} : ∀ n, (∀ e, e < n → ∃ x, p e x) → ∃ xs : List α, xs.length = n ∧ ∀ e x, xs[e]? = some x → p e x
  | 0, _ => ⟨[], rfl, fun e x h => by simp at h⟩
  | n + 1, h => by
    obtain ⟨xs, l, q⟩ := pick_list n fun e he => h e (by omega)
    obtain ⟨x, hx⟩ := h n (by omega)
    refine ⟨xs ++ [x], by simp [l], ?_⟩
    intro e y hy
    rcases Nat.lt_trichotomy e xs.length with he | he | he
    · rw [List.getElem?_append_left he] at hy
      exact q e y hy
    · subst he
      simp at hy
      subst hy
      rw [l]
      exact hx
    · rw [List.getElem?_eq_none (by simp; omega)] at hy
      cases hy

theorem add_off (a : Addr) (m n : Nat) : (a.add m).add n = a.add (m + n) := by
  unfold Addr.add
  by_cases hm : m = 0 <;> by_cases hn : n = 0 <;> simp [hm, hn, Nat.add_assoc]

/-- A list that is handed in. -/
theorem open_list {U : Ty} {t e : Nat} {a : Option Addr} {len cap : Nat} {d : DataW H} {ps : List MemPlace} (hu : P.underlying t = some (.slice e)) (hk : flatK P 6 e = some (kindsOf (U.enc U.dft))) (hc : P.cellsOf e = U.sz)
    (h : DataW.Trod enc P w 0 (fun _ => true) held t (.slice a len cap) d ps) :
    ∃ xs : List U.El, xs.length = len ∧ (∀ x ∈ xs, ∀ c ∈ U.enc x, fits c = true) ∧ len ≤ maxLen ∧ ∀ (wr : Nat → Prop) (env : Env) (Hp : Hp) j, env j = (a, cap) → blkRel env Hp j false (.vec U xs) w := by
  obtain ⟨fuel, h⟩ := h
  cases fuel with
  | zero => simp [DataW.trod] at h
  | succ fuel =>
  have hcs : (Value.slice a len cap).cells.toList = [Value.slice a len cap] := rfl
  rw [hcs] at h
  have hkl : (kindsOf (U.enc U.dft)).length = U.sz := by cases U <;> rfl
  cases a with
  | none =>
    have : len = 0 ∧ cap = 0 := by
      cases len <;> cases cap <;> simp [DataW.trod, hu] at h <;> simp
    obtain ⟨rfl, rfl⟩ := this
    refine ⟨[], rfl, fun x hx => (by cases hx), Nat.zero_le _, ?_⟩
    intro wr env Hp j he
    exact ⟨by simp, .inl (by simp [he])⟩
  | some a =>
    simp only [DataW.trod, hu] at h
    split at h
    case isFalse => cases h
    rename_i hcond
    obtain ⟨_, hlc, hcm⟩ := hcond
    simp only [if_true, Option.bind_eq_some_iff, Option.map_eq_some_iff] at h
    obtain ⟨elems, h1, rest, h2, _⟩ := h
    have cells : ∀ k, k < cap → ∃ cs : List Value, w.cells? 0 (a.add (k * P.cellsOf e)) (P.cellsOf e) = some cs ∧ FlatV (kindsOf (U.enc U.dft)) cs := by
      intro k hk'
      have : ∃ y, (w.cells? 0 (a.add (k * P.cellsOf e)) (P.cellsOf e)).bind (DataW.trod enc P w 0 (fun _ => true) held fuel e) = some y := by
        by_cases hkl : k < len
        · have h1' : List.mapM (fun i : Nat => (w.cells? 0 (a.add (i * P.cellsOf e)) (P.cellsOf e)).bind (DataW.trod enc P w 0 (fun _ => true) held fuel e)) (List.range len) = some elems := h1
          exact WideShapes.mapM_each h1' k (by simp [hkl])
        · have h2' : List.mapM (fun i : Nat => (w.cells? 0 (a.add ((len + i) * P.cellsOf e)) (P.cellsOf e)).bind (DataW.trod enc P w 0 (fun _ => true) held fuel e)) (List.range (cap - len)) = some rest := h2
          obtain ⟨y, hy⟩ := WideShapes.mapM_each h2' (k - len) (by simp; omega)
          rw [show len + (k - len) = k by omega] at hy
          exact ⟨y, hy⟩
      obtain ⟨y, hy⟩ := this
      simp only [Option.bind_eq_some_iff] at hy
      obtain ⟨cs, hcs, hy⟩ := hy
      exact ⟨cs, hcs, trod_flat 6 e _ hk fuel cs y hy fun _ _ _ => by rw [hc, hkl]⟩
    have cellAt : ∀ k, k < cap → ∃ x : U.El, (∀ c ∈ U.enc x, fits c = true) ∧ ∀ o, o < U.sz → w.cell? (a.add (k * U.sz + o)) = some (svl ((U.enc x).getD o .any)) := by
      intro k hk'
      obtain ⟨cs, hcs, hfl⟩ := cells k hk'
      obtain ⟨x, rfl, hfit⟩ := dec_flat U hfl
      refine ⟨x, hfit, ?_⟩
      intro o ho
      unfold World.cells? at hcs
      split at hcs
      case isFalse => cases hcs
      rw [hc] at hcs
      have h3 := mapM_some_get hcs o o (by simp [ho])
      rw [← add_off, h3]
      have hl := enc_length U x
      rw [List.getElem?_map, List.getD_eq_getElem?_getD, List.getElem?_eq_getElem (by omega)]
      rfl
    obtain ⟨xs, hxl, hxs⟩ := pick_list (p := fun k (x : U.El) => (∀ c ∈ U.enc x, fits c = true) ∧ ∀ o, o < U.sz → w.cell? (a.add (k * U.sz + o)) = some (svl ((U.enc x).getD o .any))) len (fun k hk' => cellAt k (by omega))
    refine ⟨xs, hxl, ?_, by omega, ?_⟩
    · intro x hx
      obtain ⟨k, hk', rfl⟩ := List.getElem_of_mem hx
      exact (hxs k _ (List.getElem?_eq_getElem hk')).1
    · intro wr env Hp j he
      refine ⟨by rw [he, hxl]; exact hlc, ?_⟩
      by_cases hz : cap = 0
      · exact .inl (by rw [he]; exact hz)
      right
      have pos := sz_pos U
      -- a cell that there is
      have cell : ∀ q, q < cap * U.sz → ∃ v, w.cell? (a.add q) = some v := by
        intro q hq
        have hq1 : q / U.sz < cap := by
          rw [Nat.div_lt_iff_lt_mul pos]
          exact hq
        obtain ⟨x, _, hx⟩ := cellAt (q / U.sz) hq1
        have := hx (q % U.sz) (Nat.mod_lt _ pos)
        rw [show q / U.sz * U.sz + q % U.sz = q by rw [Nat.mul_comm]; exact Nat.div_add_mod q U.sz] at this
        exact ⟨_, this⟩
      have cpos : 0 < cap * U.sz := Nat.mul_pos (by omega) pos
      obtain ⟨b, off, spot⟩ := a
      have spotNone : spot = none := by
        obtain ⟨v, hv⟩ := cell 0 cpos
        cases spot with
        | none => rfl
        | some s =>
          exfalso
          simp only [World.cell?, Addr.add] at hv
          split at hv <;> simp_all
      subst spotNone
      simp only [add_addr] at cell hxs
      obtain ⟨v, hv⟩ := cell 0 cpos
      simp only [World.cell?] at hv
      split at hv
      case h_2 => cases hv
      rename_i vs E0 fz hheap
      refine ⟨b, off, E0, vs, fz, by rw [he], hheap, ?_, ?_, fun q => by cases q⟩
      · rw [he]
        obtain ⟨v2, hv2⟩ := cell (cap * U.sz - 1) (by omega)
        rw [cell_of hheap] at hv2
        have := (Array.getElem?_eq_some_iff.1 hv2).1
        simp only
        omega
      · intro k hk' o ho
        obtain ⟨_, hx⟩ := hxs k _ (List.getElem?_eq_getElem hk')
        have := hx o ho
        rw [cell_of hheap] at this
        rw [Nat.add_assoc, this]
        simp [Ty.ix, List.getD, hk']

/-- A field of a struct: its type, its offset, its cells. -/
def fieldOf (P : Program) (t i : Nat) : Option (Nat × Nat × Nat) := match P.underlying t with
  | some (.struct fs) => (fs[i]?).map fun f => (f.type, f.offset, P.cellsOf f.type)
  | _ => none

theorem open_field {t i ft off : Nat} {cs : Array Value} {v : Value} {d : DataW H} {ps : List MemPlace} (hf : fieldOf P t i = some (ft, off, 1)) (h : DataW.Trod enc P w base spare held t (.agg cs) d ps) (hv : cs.toList[off]? = some v) (h1 : v.oneCell' = true) :
    ∃ d' ps', DataW.Trod enc P w base spare held ft v d' ps' := by
  unfold fieldOf at hf
  split at hf
  case h_2 => cases hf
  rename_i fs hu
  simp only [Option.map_eq_some_iff, Prod.mk.injEq] at hf
  obtain ⟨f, hfi, rfl, rfl, hsz⟩ := hf
  obtain ⟨fuel, h⟩ := h
  cases fuel with
  | zero => simp [DataW.trod] at h
  | succ fuel =>
  have hcs : (Value.agg cs).cells.toList = cs.toList := rfl
  rw [hcs] at h
  simp only [DataW.trod, hu] at h
  split at h
  case isFalse => cases h
  simp only [Option.map_eq_some_iff] at h
  obtain ⟨ys, hys, _⟩ := h
  have hys' : List.mapM (fun f : Field => DataW.trod enc P w base spare held fuel f.type ((cs.toList.drop f.offset).take (P.cellsOf f.type))) fs.toList = some ys := hys
  obtain ⟨y, hy⟩ := WideShapes.mapM_each hys' f (by
    have := Array.mem_of_getElem? hfi
    simpa using this)
  refine ⟨y.1, y.2, fuel, ?_⟩
  rw [hsz] at hy
  have e : (cs.toList.drop f.offset).take 1 = [v] := by
    obtain ⟨hlt, hvv⟩ := List.getElem?_eq_some_iff.1 hv
    rw [List.drop_eq_getElem_cons hlt, hvv]
    rfl
  have e2 : v.cells.toList = [v] := by cases v <;> first | rfl | cases h1
  rw [e2, ← e]
  exact hy

def fieldTy (P : Program) (t i : Nat) : Nat := match fieldOf P t i with
  | some (ft, _, _) => ft
  | none => 0
def elemTy (P : Program) (t : Nat) : Nat := match P.underlying t with
  | some (.slice e) => e
  | _ => 0

end

/-- One list that may only be read. -/
theorem hrel_one {U : Ty} {xs : List U.El} {wr : Nat → Prop} {env : Env} {w : World} (h : ∀ Hp : Hp, blkRel env Hp 0 false (.vec U xs) w) : HRel wr env (ofL [(false, .vec U xs)]) w := by
  have only : ∀ (j : Nat) r b, ofL [(false, Blk.vec U xs)] j = some (r, b) → j = 0 ∧ r = false ∧ b = .vec U xs := by
    intro j r b hj
    cases j with
    | zero => simp only [ofL, List.getElem?_cons_zero, Option.some.injEq, Prod.mk.injEq] at hj; exact ⟨rfl, hj.1.symm, hj.2.symm⟩
    | succ j => simp [ofL] at hj
  refine ⟨?_, ?_, ?_⟩
  · intro j r b hj
    obtain ⟨rfl, rfl, rfl⟩ := only j r b hj
    exact h _
  · intro i j ri bi rj bj hij hi hj
    exact absurd ((only i ri bi hi).1.trans (only j rj bj hj).1.symm) hij
  · intro j b hj
    obtain ⟨_, h2, _⟩ := only j true b hj
    cases h2

/-- Lists that may only be read. -/
theorem hrel_ro {L : List Ent} {wr : Nat → Prop} {env : Env} {w : World} (h : ∀ (j : Nat) r b, L[j]? = some (r, b) → r = false ∧ ∀ Hp : Hp, blkRel env Hp j false b w) : HRel wr env (ofL L) w := by
  refine ⟨?_, ?_, ?_⟩
  · intro j r b hj
    obtain ⟨rfl, h2⟩ := h j r b hj
    exact h2 _
  · intro i j ri bi rj bj hij hi hj hr
    have h1 := (h i ri bi hi).1
    have h2 := (h j rj bj hj).1
    subst h1 h2
    rcases hr with hr | hr <;> cases hr
  · intro j b hj
    have := (h j true b hj).1
    cases this

/-- A list as it may come in: not too long, its numbers of their kinds' sizes. -/
def LOk (T : Ty) (xs : List T.El) : Prop := xs.length ≤ 9223372036854775807 ∧ ∀ x ∈ xs, ∀ c ∈ T.enc x, fits c = true

theorem okAll_cons {P : Program} {w : World} {r : Reach} {base : Nat} {t : TypeId} {ts : List TypeId} {vs : List Value} (h : OkAll P w r base (t :: ts) vs) : ∃ v vs', vs = v :: vs' ∧ Cell.okWide P w r base t v ∧ OkAll P w r base ts vs' := by
  cases vs with
  | nil => exact h.elim
  | cons v vs' => exact ⟨v, vs', rfl, h.1, h.2⟩
theorem okAll_nil {P : Program} {w : World} {r : Reach} {base : Nat} {vs : List Value} (h : OkAll P w r base [] vs) : vs = [] := by
  cases vs with
  | nil => rfl
  | cons v vs' => exact h.elim

end Go.Proofs.Ytmflfpedmbfhkaa.Sym
