/-
  Boxes put and taken away.
  No condition.
-/
import Derived.Test.YtmflfpedmbfhkaaG3
import Derived.Test.YtmflfpedmbfhkaaSymY
namespace Go.Proofs.Ytmflfpedmbfhkaa.Sym
open Go
set_option linter.unusedVariables false
set_option linter.unusedSimpArgs false
set_option maxRecDepth 100000

/-- How many at the beginning of a list have something. -/
def pref {α : Type} (p : α → Bool) (xs : List α) : Nat := (xs.takeWhile p).length
theorem pref_eq {T : Ty} {p : T.El → Bool} : ∀ {xs : List T.El} {k : Nat}, k ≤ xs.length → (∀ e, e < k → p (T.ix xs e) = true) → (k < xs.length → p (T.ix xs k) = false) → pref p xs = k
  | [], k, h, _, _ => by simp at h; subst h; rfl
  | x :: r, 0, _, _, h2 => by
    have h3 : p x = false := h2 (by simp)
    simp [pref, List.takeWhile, h3]
  | x :: r, k + 1, h, h1, h2 => by
    have hx : p x = true := h1 0 (by omega)
    have h3 := pref_eq (xs := r) (k := k) (by simpa using h) (fun e he => h1 (e + 1) (by omega)) (fun hk => h2 (by simpa using hk))
    simp only [pref] at h3
    simp [pref, List.takeWhile, hx, h3]
theorem pref_spec {T : Ty} {p : T.El → Bool} : ∀ (xs : List T.El), pref p xs ≤ xs.length ∧ (∀ e, e < pref p xs → p (T.ix xs e) = true) ∧ (pref p xs < xs.length → p (T.ix xs (pref p xs)) = false)
  | [] => ⟨by simp [pref], fun e h => by simp [pref] at h, fun h => by simp at h⟩
  | x :: r => by
    cases hx : p x with
    | false =>
      have e : pref p (x :: r) = 0 := by simp [pref, List.takeWhile, hx]
      rw [e]
      exact ⟨by simp, fun e h => by omega, fun _ => hx⟩
    | true =>
      obtain ⟨h1, h2, h3⟩ := pref_spec r
      have e : pref p (x :: r) = pref p r + 1 := by simp [pref, List.takeWhile, hx]
      rw [e]
      refine ⟨by simpa using h1, fun e h => ?_, fun h => h3 (by simpa using h)⟩
      cases e with
      | zero => exact hx
      | succ e => exact h2 e (by omega)

def atI (xs : List Item) (id : Int) : Nat := pref (fun y => decide (y.Id < id)) xs
def hasI (xs : List Item) (id : Int) : Bool := decide (atI xs id < xs.length) && (Ty.ix .item xs (atI xs id)).Id == id
def insI (xs : List Item) (k : Nat) (x : Item) : List Item := xs.take k ++ x :: xs.drop k
def delI (xs : List Item) (k : Nat) : List Item := xs.take k ++ xs.drop (k + 1)
def putF (xs : List Item) (x : Item) : List Item × Bool :=
  bif itemsOk xs then bif itemOk x then bif hasI xs x.Id then (xs.set (atI xs x.Id) x, true) else bif decide (xs.length ≥ 24) then (xs, false) else (insI xs (atI xs x.Id) x, true) else (xs, false) else ([], false)
def goneF (xs : List Item) (id : Int) : List Item × Bool :=
  bif itemsOk xs then bif hasI xs id then (delI xs (atI xs id), true) else (xs, false) else ([], false)
theorem atI_le (xs : List Item) (id : Int) : atI xs id ≤ xs.length := (pref_spec (T := .item) xs).1

def LSl4At  : LS where
  S := List Item × Int × Unit × Int
  live := [(1, [none]), (2, [none]), (6, [none])]
  shape := fun s => ([.int .i64 s.2.1, .ptr 1 0 0, .int .i64 s.2.2.2], [(false, .vec .item s.1), (true, .box [.vec 0])])
  get := fun v h => match v, h with
    | [.int .i64 id, .ptr 1 0 0, .int .i64 k], [(false, .vec .item xs), (true, .box [.vec 0])] => some (xs, id, (), k)
    | _, _ => none
  inv := fun s0 s => Holds (s.1 = s0.1 ∧ s.2.1 = s0.2.1 ∧ 0 ≤ s.2.2.2 ∧ s.2.2.2 ≤ s0.1.length ∧ (∀ e, e < s.2.2.2.toNat → decide ((Ty.ix .item s0.1 e).Id < s0.2.1) = true))
  mu := fun s => ((s.1.length : Int) - s.2.2.2).toNat
  ok := by
    intro v h s hg
    try dsimp only at hg
    split at hg <;> cases hg
    rfl

def L_l4At : Loops := fun n => match n with
  | 2 => some LSl4At
  | _ => none
theorem hasI_lt {xs : List Item} {id : Int} (h : hasI xs id = true) : atI xs id < xs.length := by
  simp only [hasI, Bool.and_eq_true, decide_eq_true_eq] at h
  exact h.1
theorem take_rest {α : Type} (xs : List α) (k : Nat) : List.take (xs.length - k) (List.drop k xs) = xs.drop k := List.take_of_length_le (by simp)

/-! ### The program's own way -/
def delRaw (xs : List Item) (i : Nat) : List Item := spl (spl xs i (xs.drop (i + 1))) (xs.length - 1) [⟨0, ⟨⟨0, 0⟩, ⟨0, 0⟩⟩⟩]
theorem length_delRaw {xs : List Item} {i : Nat} (h : i < xs.length) : (delRaw xs i).length = xs.length := by
  have h1 : (spl xs i (xs.drop (i + 1))).length = xs.length := length_spl (by simp; omega)
  unfold delRaw
  rw [length_spl (by rw [h1]; simp; omega), h1]
theorem delRaw_take {xs : List Item} {i : Nat} (h : i < xs.length) : (delRaw xs i).take (xs.length - 1) = delI xs i := by
  have h1 : (spl xs i (xs.drop (i + 1))).length = xs.length := length_spl (by simp; omega)
  unfold delRaw
  have e : spl (spl xs i (xs.drop (i + 1))) (xs.length - 1) [⟨0, ⟨⟨0, 0⟩, ⟨0, 0⟩⟩⟩] = (spl xs i (xs.drop (i + 1))).take (xs.length - 1) ++ ([⟨0, ⟨⟨0, 0⟩, ⟨0, 0⟩⟩⟩] ++ (spl xs i (xs.drop (i + 1))).drop (xs.length - 1 + 1)) := by
    simp [spl]
  rw [e, List.take_left' (by simp [h1])]
  unfold spl delI
  rw [List.take_left' (by simp; omega)]
theorem itemsOk_iff {xs : List Item} : itemsOk xs = true ↔ xs.length ≤ 24 ∧ (∀ k, k < xs.length → itemOk (Ty.ix .item xs k) = true) ∧ ∀ k, k + 1 < xs.length → (Ty.ix .item xs k).Id < (Ty.ix .item xs (k + 1)).Id := by
  simp only [itemsOk, Bool.and_eq_true, decide_eq_true_eq, allTo_iff, itemAt, Bool.or_eq_true, beq_iff_eq]
  constructor
  · rintro ⟨h1, h2⟩
    refine ⟨h2, fun k hk => (h1 k hk).1, fun k hk => ?_⟩
    rcases (h1 (k + 1) hk).2 with h | h
    · omega
    · simpa using h
  · rintro ⟨h1, h2, h3⟩
    refine ⟨fun k hk => ⟨h2 k hk, ?_⟩, h1⟩
    cases k with
    | zero => left; rfl
    | succ k => right; simpa using h3 k hk
theorem items_lt {xs : List Item} (h : itemsOk xs = true) : ∀ {b a : Nat}, a < b → b < xs.length → (Ty.ix .item xs a).Id < (Ty.ix .item xs b).Id
  | 0, a, h1, _ => by omega
  | b + 1, a, h1, h2 => by
    have h3 := (itemsOk_iff.1 h).2.2 b h2
    by_cases e : a = b
    · subst e; exact h3
    · exact Int.lt_trans (items_lt h (b := b) (a := a) (by omega) (by omega)) h3
theorem firstI_id {xs : List Item} {id : Int} (h : itemsOk xs = true) : firstI (fun y : Item => y.Id == id) xs = bif hasI xs id then (atI xs id : Int) else -1 := by
  obtain ⟨k1, k2, k3⟩ := pref_spec (T := .item) (p := fun y : Item => decide (y.Id < id)) xs
  change atI xs id ≤ xs.length at k1
  change ∀ e, e < atI xs id → decide ((Ty.ix .item xs e).Id < id) = true at k2
  change atI xs id < xs.length → decide ((Ty.ix .item xs (atI xs id)).Id < id) = false at k3
  cases hh : hasI xs id with
  | true =>
    have hlt := hasI_lt hh
    simp only [hasI, Bool.and_eq_true] at hh
    simp only [cond_true]
    refine firstI_at (T := .item) (p := fun y : Item => y.Id == id) hlt hh.2 fun e he => ?_
    have := of_decide_eq_true (k2 e he)
    simp
    omega
  | false =>
    simp only [cond_false]
    refine firstI_no (T := .item) (p := fun y : Item => y.Id == id) fun e he => ?_
    simp only [beq_eq_false_iff_ne]
    intro q
    rcases Nat.lt_trichotomy e (atI xs id) with c | c | c
    · have := of_decide_eq_true (k2 e c)
      omega
    · subst c
      simp [hasI, he, q] at hh
    · have hk := of_decide_eq_false (k3 (by omega))
      have := items_lt h c he
      omega
theorem length_goneF {xs : List Item} {id : Int} : (goneF xs id).1.length ≤ xs.length := by
  unfold goneF
  cases itemsOk xs <;> cases hasI xs id <;> simp [delI]
  omega
theorem length_putF {xs : List Item} {x : Item} : (putF xs x).1.length ≤ xs.length + 1 := by
  unfold putF
  have := atI_le xs x.Id
  cases itemsOk xs <;> cases itemOk x <;> cases hasI xs x.Id <;> cases decide (xs.length ≥ 24) <;> simp [insI]
  omega
end Go.Proofs.Ytmflfpedmbfhkaa.Sym
