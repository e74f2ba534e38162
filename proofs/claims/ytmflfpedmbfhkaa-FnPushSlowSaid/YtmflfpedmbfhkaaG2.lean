/-
  Bodies: what is ok, what is still.
  No condition.
-/
import Derived.Test.YtmflfpedmbfhkaaG1
namespace Go.Proofs.Ytmflfpedmbfhkaa.Sym
open Go
set_option linter.unusedVariables false
set_option linter.unusedSimpArgs false
set_option maxRecDepth 100000

def bodyAt (xs : List Body) (k : Nat) : Bool := bodyOk (Ty.ix .body xs k) && (k == 0 || decide ((Ty.ix .body xs (k - 1)).Id < (Ty.ix .body xs k).Id))
def bodiesOk (xs : List Body) : Bool := allTo (bodyAt xs) xs.length && decide (xs.length ≤ 12)
theorem fin_bodies {xs : List Body} : bodiesOk xs = (allTo (bodyAt xs) xs.length && decide ((xs.length : Int) ≤ 12)) := by
  unfold bodiesOk
  congr 1
  rw [decide_eq_decide]
  omega
theorem bodiesOk_len {xs : List Body} (h : bodiesOk xs = true) : xs.length ≤ 12 := by
  simp only [bodiesOk, Bool.and_eq_true, decide_eq_true_eq] at h
  exact h.2
theorem allTo_iff {p : Nat → Bool} : ∀ {n : Nat}, allTo p n = true ↔ ∀ k, k < n → p k = true
  | 0 => by simp [allTo]
  | n + 1 => by
    simp only [allTo, Bool.and_eq_true, allTo_iff (n := n)]
    constructor
    · rintro ⟨h1, h2⟩ k hk
      by_cases e : k = n
      · subst e; exact h2
      · exact h1 k (by omega)
    · exact fun h => ⟨fun k hk => h k (by omega), h n (by omega)⟩
theorem bodiesOk_iff {xs : List Body} : bodiesOk xs = true ↔ xs.length ≤ 12 ∧ (∀ k, k < xs.length → bodyOk (Ty.ix .body xs k) = true) ∧ ∀ k, k + 1 < xs.length → (Ty.ix .body xs k).Id < (Ty.ix .body xs (k + 1)).Id := by
  simp only [bodiesOk, Bool.and_eq_true, decide_eq_true_eq, allTo_iff, bodyAt, Bool.or_eq_true, beq_iff_eq]
  constructor
  · rintro ⟨h1, h2⟩
    refine ⟨h2, fun k hk => (h1 k hk).1, fun k hk => ?_⟩
    rcases (h1 (k + 1) hk).2 with h | h
    · omega
    · simpa using h
  · rintro ⟨h1, h2, h3⟩
    refine ⟨fun k hk => ⟨h2 k hk, ?_⟩, h1⟩
    cases k with
    | zero => left; rfl
    | succ k => right; simpa using h3 k hk
theorem bodiesOk_each {xs : List Body} (h : bodiesOk xs = true) {k : Nat} (hk : k < xs.length) : bodyOk (Ty.ix .body xs k) = true := (bodiesOk_iff.1 h).2.1 k hk
theorem bodiesOk_mem {xs : List Body} (h : bodiesOk xs = true) {b : Body} (hb : b ∈ xs) : bodyOk b = true := by
  obtain ⟨k, hk, rfl⟩ := List.getElem_of_mem hb
  have := bodiesOk_each h hk
  rwa [show Ty.ix .body xs k = xs[k] by simp [Ty.ix, List.getD, hk]] at this

def LSspecBodiesOk  : LS where
  S := List Body × Unit × Int
  live := [(0, [none]), (3, [none])]
  shape := fun s => ([.vec 0, .int .i64 s.2.2], [(false, .vec .body s.1)])
  get := fun v h => match v, h with
    | [.vec 0, .int .i64 i], [(false, .vec .body xs)] => some (xs, (), i)
    | _, _ => none
  inv := fun s0 s => Holds (s.1 = s0.1 ∧ 0 ≤ s.2.2 ∧ s.2.2 ≤ s0.1.length ∧ allTo (bodyAt s0.1) s.2.2.toNat = true)
  mu := fun s => ((s.1.length : Int) - s.2.2).toNat
  ok := by
    intro v h s hg
    try dsimp only at hg
    split at hg <;> cases hg
    rfl

def L_specBodiesOk : Loops := fun n => match n with
  | 2 => some LSspecBodiesOk
  | _ => none
def LSimplBodiesOk  : LS where
  S := List Body × Unit × Unit × Int × Int
  live := [(0, [none]), (5, [none]), (6, [none]), (7, [none])]
  shape := fun s => ([.vec 0, .vec 0, .int .i64 s.2.2.2.1, .int .i64 s.2.2.2.2], [(false, .vec .body s.1)])
  get := fun v h => match v, h with
    | [.vec 0, .vec 0, .int .i64 n, .int .i64 i], [(false, .vec .body xs)] => some (xs, (), (), n, i)
    | _, _ => none
  inv := fun s0 s => Holds (s.1 = s0.1 ∧ s.2.2.2.1 = s0.1.length ∧ 0 ≤ s.2.2.2.2 ∧ s.2.2.2.2 ≤ s0.1.length ∧ allTo (bodyAt s0.1) s.2.2.2.2.toNat = true)
  mu := fun s => ((s.1.length : Int) - s.2.2.2.2).toNat
  ok := by
    intro v h s hg
    try dsimp only at hg
    split at hg <;> cases hg
    rfl

def L_implBodiesOk : Loops := fun n => match n with
  | 2 => some LSimplBodiesOk
  | _ => none

/-! ### Still -/
def moves (b : Body) : Bool := !(b.Mass == 0) && !(b.Quiet == 8)
def stillF (xs : List Body) : Bool := bodiesOk xs && !(xs.any moves)
/-- The first place at which something holds; -1 if there is none. -/
def firstI {α : Type} (p : α → Bool) (xs : List α) : Int := bif xs.any p then (xs.findIdx p : Int) else -1
theorem firstI_at {T : Ty} {p : T.El → Bool} {xs : List T.El} {i : Nat} (hi : i < xs.length) (h : p (T.ix xs i) = true) (hb : ∀ k, k < i → p (T.ix xs k) = false) : firstI p xs = i := by
  have hx : ∀ k (hk : k < xs.length), xs[k] = T.ix xs k := fun k hk => by simp [Ty.ix, List.getD, hk]
  have h1 : xs.any p = true := List.any_eq_true.2 ⟨xs[i], List.getElem_mem hi, by rw [hx]; exact h⟩
  have h2 : xs.findIdx p = i := (List.findIdx_eq hi).2 ⟨by rw [hx]; exact h, fun k hk => by rw [hx]; exact hb k hk⟩
  simp [firstI, h1, h2]
theorem firstI_no {T : Ty} {p : T.El → Bool} {xs : List T.El} (hb : ∀ k, k < xs.length → p (T.ix xs k) = false) : firstI p xs = -1 := by
  have h1 : xs.any p = false := by
    rw [List.any_eq_false]
    intro x hx
    obtain ⟨k, hk, rfl⟩ := List.getElem_of_mem hx
    have := hb k hk
    rw [show T.ix xs k = xs[k] by simp [Ty.ix, List.getD, hk]] at this
    simp [this]
  simp [firstI, h1]
theorem firstI_neg {α : Type} {p : α → Bool} {xs : List α} : decide (firstI p xs ≥ 0) = xs.any p := by
  cases h : xs.any p <;> simp [firstI, h]
theorem moves_iff {b : Body} (h : bodyOk b = true) : moves b = (decide (b.Mass > 0) && !decide (b.Quiet ≥ 8)) := by
  simp only [bodyOk, Bool.and_eq_true, isIn, decide_eq_true_eq] at h
  unfold moves
  by_cases h1 : b.Mass = 0
  · simp [h1]
  · by_cases h2 : b.Quiet = 8
    · simp [h2]
    · have : b.Mass > 0 := by omega
      have : ¬ b.Quiet ≥ 8 := by omega
      simp [h1, h2, *]
def LSspecStill  : LS where
  S := List Body × Unit × Int
  live := [(0, [none]), (3, [none])]
  shape := fun s => ([.vec 0, .int .i64 s.2.2], [(false, .vec .body s.1)])
  get := fun v h => match v, h with
    | [.vec 0, .int .i64 i], [(false, .vec .body xs)] => some (xs, (), i)
    | _, _ => none
  inv := fun s0 s => Holds (s.1 = s0.1 ∧ 0 ≤ s.2.2 ∧ s.2.2 ≤ s0.1.length ∧ (bodiesOk s0.1 = true → ∀ k, k < s.2.2.toNat → moves (Ty.ix .body s0.1 k) = false))
  mu := fun s => ((s.1.length : Int) - s.2.2).toNat
  ok := by
    intro v h s hg
    try dsimp only at hg
    split at hg <;> cases hg
    rfl

def L_specStill : Loops := fun n => match n with
  | 2 => some LSspecStill
  | _ => none
end Go.Proofs.Ytmflfpedmbfhkaa.Sym
