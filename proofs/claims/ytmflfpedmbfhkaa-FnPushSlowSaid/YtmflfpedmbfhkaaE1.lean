/-
  The laws' own functions over lists.
  No condition.
-/
import Derived.Test.YtmflfpedmbfhkaaF4
import Derived.Test.YtmflfpedmbfhkaaSymX
import Derived.Test.YtmflfpedmbfhkaaSymW
namespace Go.Proofs.Ytmflfpedmbfhkaa.Sym
open Go
set_option linter.unusedVariables false
set_option linter.unusedSimpArgs false
set_option maxRecDepth 100000

/-- The bound on what comes in: what is left of it, or -1. -/
def szLeft (b n : Int) : Int := if W (b - n) < 0 then -1 else W (b - n)
/-- Are two things the same? -/
noncomputable def same {α : Type} (a b : α) : Bool := @decide (a = b) (Classical.propDecidable _)
@[simp] theorem same_self {α : Type} (a : α) : same a a = true := by simp [same]
theorem same_ff {α : Type} {a b : α} (h : a ≠ b) : same a b = false := by simp [same, h]
theorem same_tt {α : Type} {a b : α} (h : a = b) : same a b = true := by simp [same, h]
theorem same_iff {α : Type} {a b : α} : same a b = true ↔ a = b := by simp [same]
theorem same_iff_ff {α : Type} {a b : α} : same a b = false ↔ a ≠ b := by simp [same]
theorem same_comm {α : Type} (a b : α) : same a b = same b a := by
  by_cases h : a = b
  · rw [h]
  · rw [same_ff h, same_ff (Ne.symm h)]
theorem beq_same {α : Type} [BEq α] [LawfulBEq α] (a b : α) : (a == b) = same a b := by
  by_cases h : a = b
  · subst h; simp
  · rw [same_ff h]; simpa using h

theorem ix_get {T : Ty} {xs : List T.El} {i : Nat} (h : i < xs.length) : xs[i]? = some (T.ix xs i) := by
  simp [Ty.ix, List.getD, h]
theorem ix_eq {T : Ty} {xs : List T.El} {i : Nat} {x : T.El} (h : xs[i]? = some x) : T.ix xs i = x := by
  simp [Ty.ix, List.getD, h]
theorem ix_set_self {T : Ty} {xs : List T.El} {i : Nat} {x : T.El} (h : i < xs.length) : T.ix (xs.set i x) i = x := by
  simp [Ty.ix, List.getD, h]
theorem ix_set_ne {T : Ty} {xs : List T.El} {i j : Nat} {x : T.El} (h : i ≠ j) : T.ix (xs.set i x) j = T.ix xs j := by
  simp [Ty.ix, List.getD, h]
theorem take_succ_eq {T : Ty} {xs ys : List T.El} {i : Nat} (hi : i < xs.length) (hj : i < ys.length) (h : xs.take i = ys.take i) (e : T.ix xs i = T.ix ys i) : xs.take (i + 1) = ys.take (i + 1) := by
  apply List.ext_getElem?
  intro j
  simp only [List.getElem?_take]
  split
  · by_cases hji : j = i
    · subst hji
      rw [ix_get (T := T) hi, ix_get (T := T) hj, e]
    · have := congrArg (fun l => l[j]?) h
      simpa [List.getElem?_take, show j < i by omega] using this
  · rfl
theorem eq_of_take {α : Type} {xs ys : List α} {i : Nat} (hx : xs.length ≤ i) (hy : ys.length ≤ i) (h : xs.take i = ys.take i) : xs = ys := by
  rwa [List.take_of_length_le hx, List.take_of_length_le hy] at h
/-- The first of f, then those of xs. -/
def fill {α : Type} (f : Nat → α) (xs : List α) (i : Nat) : List α := (List.range i).map f ++ xs.drop i
def gen {α : Type} (f : Nat → α) (n : Nat) : List α := (List.range n).map f
@[simp] theorem length_gen {α : Type} (f : Nat → α) (n : Nat) : (gen f n).length = n := by simp [gen]
theorem fill_zero {α : Type} (f : Nat → α) (xs : List α) : fill f xs 0 = xs := by simp [fill]
theorem fill_end {α : Type} (f : Nat → α) (xs : List α) {i : Nat} (h : i = xs.length) : fill f xs i = gen f xs.length := by subst h; simp [fill, gen]
theorem length_fill {α : Type} (f : Nat → α) (xs : List α) {i : Nat} (h : i ≤ xs.length) : (fill f xs i).length = xs.length := by simp [fill]; omega
theorem fill_step {α : Type} (f : Nat → α) (xs : List α) {i : Nat} (h : i < xs.length) : (fill f xs i).set i (f i) = fill f xs (i + 1) := by
  unfold fill
  rw [List.set_append_right _ _ (by simp)]
  simp only [List.length_map, List.length_range, Nat.sub_self]
  rw [List.drop_eq_getElem_cons h, List.set_cons_zero, List.range_succ, List.map_append, List.append_assoc]
  rfl
theorem ix_gen {T : Ty} {f : Nat → T.El} {n i : Nat} (h : i < n) : T.ix (gen f n) i = f i := ix_eq (by simp [gen, h])
theorem gen_ix {T : Ty} (xs : List T.El) : gen (fun e => T.ix xs e) xs.length = xs := by
  apply List.ext_getElem?
  intro j
  by_cases h : j < xs.length
  · rw [ix_get (T := T) h]
    simp [gen, h]
  · rw [List.getElem?_eq_none (by simpa using h), List.getElem?_eq_none (by simpa using h)]
theorem heldBad {T : Ty} {xs : List T.El} {f : Nat → T.El} {i : Nat} (hi : i < xs.length) (h : T.ix xs i ≠ f i) : same xs (gen f xs.length) = false :=
  same_ff fun e => h (by rw [← ix_gen (T := T) (f := f) hi]; exact congrArg (fun l => T.ix l i) e)
theorem length_setC {T : Ty} {xs : List T.El} {e o : Nat} {vs : List SV} : (setC T xs e o vs).length = xs.length := by
  unfold setC
  split <;> simp

theorem ix_set_self_int (xs : List Int) {i : Nat} (x : Int) (h : i < xs.length) : Ty.ix .int (xs.set i x) i = x := ix_set_self (T := .int) h
def mkInt (k : Int) : Int := k
theorem setC_item0 (xs : List Item) (e : Nat) (b : Int) : setC .item xs e 0 [.int .i64 b] = xs.set e ⟨b, ⟨⟨(Ty.ix .item xs e).Box.Low.X, (Ty.ix .item xs e).Box.Low.Y⟩, ⟨(Ty.ix .item xs e).Box.High.X, (Ty.ix .item xs e).Box.High.Y⟩⟩⟩ := rfl
theorem setC_item1 (xs : List Item) (e : Nat) (b : Int) : setC .item xs e 1 [.int .i64 b] = xs.set e ⟨(Ty.ix .item xs e).Id, ⟨⟨b, (Ty.ix .item xs e).Box.Low.Y⟩, ⟨(Ty.ix .item xs e).Box.High.X, (Ty.ix .item xs e).Box.High.Y⟩⟩⟩ := rfl
theorem setC_item2 (xs : List Item) (e : Nat) (b : Int) : setC .item xs e 2 [.int .i64 b] = xs.set e ⟨(Ty.ix .item xs e).Id, ⟨⟨(Ty.ix .item xs e).Box.Low.X, b⟩, ⟨(Ty.ix .item xs e).Box.High.X, (Ty.ix .item xs e).Box.High.Y⟩⟩⟩ := rfl
theorem setC_item3 (xs : List Item) (e : Nat) (b : Int) : setC .item xs e 3 [.int .i64 b] = xs.set e ⟨(Ty.ix .item xs e).Id, ⟨⟨(Ty.ix .item xs e).Box.Low.X, (Ty.ix .item xs e).Box.Low.Y⟩, ⟨b, (Ty.ix .item xs e).Box.High.Y⟩⟩⟩ := rfl
theorem setC_item4 (xs : List Item) (e : Nat) (b : Int) : setC .item xs e 4 [.int .i64 b] = xs.set e ⟨(Ty.ix .item xs e).Id, ⟨⟨(Ty.ix .item xs e).Box.Low.X, (Ty.ix .item xs e).Box.Low.Y⟩, ⟨(Ty.ix .item xs e).Box.High.X, b⟩⟩⟩ := rfl
theorem length_setC_item (xs : List Item) (e o : Nat) (vs : List SV) : List.length (α := Item) (setC .item xs e o vs) = xs.length := length_setC (T := .item)
theorem ix_set_self_item (xs : List Item) {i : Nat} (x : Item) (h : i < xs.length) : Ty.ix .item (xs.set i x) i = x := ix_set_self (T := .item) h
def mkItem (k : Int) : Item := ⟨k, ⟨⟨k + 1, k + 1 + 1⟩, ⟨k + 1 + 1 + 1, k + 1 + 1 + 1 + 1⟩⟩⟩
theorem setC_pair0 (xs : List Pair) (e : Nat) (b : Int) : setC .pair xs e 0 [.int .i64 b] = xs.set e ⟨b, (Ty.ix .pair xs e).B⟩ := rfl
theorem setC_pair1 (xs : List Pair) (e : Nat) (b : Int) : setC .pair xs e 1 [.int .i64 b] = xs.set e ⟨(Ty.ix .pair xs e).A, b⟩ := rfl
theorem length_setC_pair (xs : List Pair) (e o : Nat) (vs : List SV) : List.length (α := Pair) (setC .pair xs e o vs) = xs.length := length_setC (T := .pair)
theorem ix_set_self_pair (xs : List Pair) {i : Nat} (x : Pair) (h : i < xs.length) : Ty.ix .pair (xs.set i x) i = x := ix_set_self (T := .pair) h
def mkPair (k : Int) : Pair := ⟨k, k + 1⟩
theorem setC_contact0 (xs : List Contact) (e : Nat) (b : Int) : setC .contact xs e 0 [.int .i64 b] = xs.set e ⟨b, (Ty.ix .contact xs e).B, ⟨⟨(Ty.ix .contact xs e).Hit.Way.X, (Ty.ix .contact xs e).Hit.Way.Y⟩, (Ty.ix .contact xs e).Hit.Deep⟩⟩ := rfl
theorem setC_contact1 (xs : List Contact) (e : Nat) (b : Int) : setC .contact xs e 1 [.int .i64 b] = xs.set e ⟨(Ty.ix .contact xs e).A, b, ⟨⟨(Ty.ix .contact xs e).Hit.Way.X, (Ty.ix .contact xs e).Hit.Way.Y⟩, (Ty.ix .contact xs e).Hit.Deep⟩⟩ := rfl
theorem setC_contact2 (xs : List Contact) (e : Nat) (b : Int) : setC .contact xs e 2 [.int .i64 b] = xs.set e ⟨(Ty.ix .contact xs e).A, (Ty.ix .contact xs e).B, ⟨⟨b, (Ty.ix .contact xs e).Hit.Way.Y⟩, (Ty.ix .contact xs e).Hit.Deep⟩⟩ := rfl
theorem setC_contact3 (xs : List Contact) (e : Nat) (b : Int) : setC .contact xs e 3 [.int .i64 b] = xs.set e ⟨(Ty.ix .contact xs e).A, (Ty.ix .contact xs e).B, ⟨⟨(Ty.ix .contact xs e).Hit.Way.X, b⟩, (Ty.ix .contact xs e).Hit.Deep⟩⟩ := rfl
theorem setC_contact4 (xs : List Contact) (e : Nat) (b : Int) : setC .contact xs e 4 [.int .i64 b] = xs.set e ⟨(Ty.ix .contact xs e).A, (Ty.ix .contact xs e).B, ⟨⟨(Ty.ix .contact xs e).Hit.Way.X, (Ty.ix .contact xs e).Hit.Way.Y⟩, b⟩⟩ := rfl
theorem length_setC_contact (xs : List Contact) (e o : Nat) (vs : List SV) : List.length (α := Contact) (setC .contact xs e o vs) = xs.length := length_setC (T := .contact)
theorem ix_set_self_contact (xs : List Contact) {i : Nat} (x : Contact) (h : i < xs.length) : Ty.ix .contact (xs.set i x) i = x := ix_set_self (T := .contact) h
def mkContact (k : Int) : Contact := ⟨k, k + 1, ⟨⟨k + 1 + 1, k + 1 + 1 + 1⟩, k + 1 + 1 + 1 + 1⟩⟩
theorem setC_body0 (xs : List Body) (e : Nat) (b : Int) : setC .body xs e 0 [.int .i64 b] = xs.set e ⟨b, ⟨(Ty.ix .body xs e).Shape.Kind, (Ty.ix .body xs e).Shape.Wide, (Ty.ix .body xs e).Shape.High⟩, ⟨(Ty.ix .body xs e).At.X, (Ty.ix .body xs e).At.Y⟩, ⟨(Ty.ix .body xs e).Drive.X, (Ty.ix .body xs e).Drive.Y⟩, (Ty.ix .body xs e).Mass, (Ty.ix .body xs e).Bounce, (Ty.ix .body xs e).Rub, (Ty.ix .body xs e).Quiet⟩ := rfl
theorem setC_body1 (xs : List Body) (e : Nat) (b : Int) : setC .body xs e 1 [.int .i64 b] = xs.set e ⟨(Ty.ix .body xs e).Id, ⟨b, (Ty.ix .body xs e).Shape.Wide, (Ty.ix .body xs e).Shape.High⟩, ⟨(Ty.ix .body xs e).At.X, (Ty.ix .body xs e).At.Y⟩, ⟨(Ty.ix .body xs e).Drive.X, (Ty.ix .body xs e).Drive.Y⟩, (Ty.ix .body xs e).Mass, (Ty.ix .body xs e).Bounce, (Ty.ix .body xs e).Rub, (Ty.ix .body xs e).Quiet⟩ := rfl
theorem setC_body2 (xs : List Body) (e : Nat) (b : Int) : setC .body xs e 2 [.int .i64 b] = xs.set e ⟨(Ty.ix .body xs e).Id, ⟨(Ty.ix .body xs e).Shape.Kind, b, (Ty.ix .body xs e).Shape.High⟩, ⟨(Ty.ix .body xs e).At.X, (Ty.ix .body xs e).At.Y⟩, ⟨(Ty.ix .body xs e).Drive.X, (Ty.ix .body xs e).Drive.Y⟩, (Ty.ix .body xs e).Mass, (Ty.ix .body xs e).Bounce, (Ty.ix .body xs e).Rub, (Ty.ix .body xs e).Quiet⟩ := rfl
theorem setC_body3 (xs : List Body) (e : Nat) (b : Int) : setC .body xs e 3 [.int .i64 b] = xs.set e ⟨(Ty.ix .body xs e).Id, ⟨(Ty.ix .body xs e).Shape.Kind, (Ty.ix .body xs e).Shape.Wide, b⟩, ⟨(Ty.ix .body xs e).At.X, (Ty.ix .body xs e).At.Y⟩, ⟨(Ty.ix .body xs e).Drive.X, (Ty.ix .body xs e).Drive.Y⟩, (Ty.ix .body xs e).Mass, (Ty.ix .body xs e).Bounce, (Ty.ix .body xs e).Rub, (Ty.ix .body xs e).Quiet⟩ := rfl
theorem setC_body4 (xs : List Body) (e : Nat) (b : Int) : setC .body xs e 4 [.int .i64 b] = xs.set e ⟨(Ty.ix .body xs e).Id, ⟨(Ty.ix .body xs e).Shape.Kind, (Ty.ix .body xs e).Shape.Wide, (Ty.ix .body xs e).Shape.High⟩, ⟨b, (Ty.ix .body xs e).At.Y⟩, ⟨(Ty.ix .body xs e).Drive.X, (Ty.ix .body xs e).Drive.Y⟩, (Ty.ix .body xs e).Mass, (Ty.ix .body xs e).Bounce, (Ty.ix .body xs e).Rub, (Ty.ix .body xs e).Quiet⟩ := rfl
theorem setC_body5 (xs : List Body) (e : Nat) (b : Int) : setC .body xs e 5 [.int .i64 b] = xs.set e ⟨(Ty.ix .body xs e).Id, ⟨(Ty.ix .body xs e).Shape.Kind, (Ty.ix .body xs e).Shape.Wide, (Ty.ix .body xs e).Shape.High⟩, ⟨(Ty.ix .body xs e).At.X, b⟩, ⟨(Ty.ix .body xs e).Drive.X, (Ty.ix .body xs e).Drive.Y⟩, (Ty.ix .body xs e).Mass, (Ty.ix .body xs e).Bounce, (Ty.ix .body xs e).Rub, (Ty.ix .body xs e).Quiet⟩ := rfl
theorem setC_body6 (xs : List Body) (e : Nat) (b : Int) : setC .body xs e 6 [.int .i64 b] = xs.set e ⟨(Ty.ix .body xs e).Id, ⟨(Ty.ix .body xs e).Shape.Kind, (Ty.ix .body xs e).Shape.Wide, (Ty.ix .body xs e).Shape.High⟩, ⟨(Ty.ix .body xs e).At.X, (Ty.ix .body xs e).At.Y⟩, ⟨b, (Ty.ix .body xs e).Drive.Y⟩, (Ty.ix .body xs e).Mass, (Ty.ix .body xs e).Bounce, (Ty.ix .body xs e).Rub, (Ty.ix .body xs e).Quiet⟩ := rfl
theorem setC_body7 (xs : List Body) (e : Nat) (b : Int) : setC .body xs e 7 [.int .i64 b] = xs.set e ⟨(Ty.ix .body xs e).Id, ⟨(Ty.ix .body xs e).Shape.Kind, (Ty.ix .body xs e).Shape.Wide, (Ty.ix .body xs e).Shape.High⟩, ⟨(Ty.ix .body xs e).At.X, (Ty.ix .body xs e).At.Y⟩, ⟨(Ty.ix .body xs e).Drive.X, b⟩, (Ty.ix .body xs e).Mass, (Ty.ix .body xs e).Bounce, (Ty.ix .body xs e).Rub, (Ty.ix .body xs e).Quiet⟩ := rfl
theorem setC_body8 (xs : List Body) (e : Nat) (b : Int) : setC .body xs e 8 [.int .i64 b] = xs.set e ⟨(Ty.ix .body xs e).Id, ⟨(Ty.ix .body xs e).Shape.Kind, (Ty.ix .body xs e).Shape.Wide, (Ty.ix .body xs e).Shape.High⟩, ⟨(Ty.ix .body xs e).At.X, (Ty.ix .body xs e).At.Y⟩, ⟨(Ty.ix .body xs e).Drive.X, (Ty.ix .body xs e).Drive.Y⟩, b, (Ty.ix .body xs e).Bounce, (Ty.ix .body xs e).Rub, (Ty.ix .body xs e).Quiet⟩ := rfl
theorem setC_body9 (xs : List Body) (e : Nat) (b : Int) : setC .body xs e 9 [.int .i64 b] = xs.set e ⟨(Ty.ix .body xs e).Id, ⟨(Ty.ix .body xs e).Shape.Kind, (Ty.ix .body xs e).Shape.Wide, (Ty.ix .body xs e).Shape.High⟩, ⟨(Ty.ix .body xs e).At.X, (Ty.ix .body xs e).At.Y⟩, ⟨(Ty.ix .body xs e).Drive.X, (Ty.ix .body xs e).Drive.Y⟩, (Ty.ix .body xs e).Mass, b, (Ty.ix .body xs e).Rub, (Ty.ix .body xs e).Quiet⟩ := rfl
theorem setC_body10 (xs : List Body) (e : Nat) (b : Int) : setC .body xs e 10 [.int .i64 b] = xs.set e ⟨(Ty.ix .body xs e).Id, ⟨(Ty.ix .body xs e).Shape.Kind, (Ty.ix .body xs e).Shape.Wide, (Ty.ix .body xs e).Shape.High⟩, ⟨(Ty.ix .body xs e).At.X, (Ty.ix .body xs e).At.Y⟩, ⟨(Ty.ix .body xs e).Drive.X, (Ty.ix .body xs e).Drive.Y⟩, (Ty.ix .body xs e).Mass, (Ty.ix .body xs e).Bounce, b, (Ty.ix .body xs e).Quiet⟩ := rfl
theorem setC_body11 (xs : List Body) (e : Nat) (b : Int) : setC .body xs e 11 [.int .i64 b] = xs.set e ⟨(Ty.ix .body xs e).Id, ⟨(Ty.ix .body xs e).Shape.Kind, (Ty.ix .body xs e).Shape.Wide, (Ty.ix .body xs e).Shape.High⟩, ⟨(Ty.ix .body xs e).At.X, (Ty.ix .body xs e).At.Y⟩, ⟨(Ty.ix .body xs e).Drive.X, (Ty.ix .body xs e).Drive.Y⟩, (Ty.ix .body xs e).Mass, (Ty.ix .body xs e).Bounce, (Ty.ix .body xs e).Rub, b⟩ := rfl
theorem length_setC_body (xs : List Body) (e o : Nat) (vs : List SV) : List.length (α := Body) (setC .body xs e o vs) = xs.length := length_setC (T := .body)
theorem ix_set_self_body (xs : List Body) {i : Nat} (x : Body) (h : i < xs.length) : Ty.ix .body (xs.set i x) i = x := ix_set_self (T := .body) h
def mkBody (k : Int) : Body := ⟨k, ⟨k + 1, k + 1 + 1, k + 1 + 1 + 1⟩, ⟨k + 1 + 1 + 1 + 1, k + 1 + 1 + 1 + 1 + 1⟩, ⟨k + 1 + 1 + 1 + 1 + 1 + 1, k + 1 + 1 + 1 + 1 + 1 + 1 + 1⟩, k + 1 + 1 + 1 + 1 + 1 + 1 + 1 + 1, k + 1 + 1 + 1 + 1 + 1 + 1 + 1 + 1 + 1, k + 1 + 1 + 1 + 1 + 1 + 1 + 1 + 1 + 1 + 1, k + 1 + 1 + 1 + 1 + 1 + 1 + 1 + 1 + 1 + 1 + 1⟩
theorem setC_event0 (xs : List Event) (e : Nat) (b : Bool) : setC .event xs e 0 [.bool b] = xs.set e ⟨b, ⟨(Ty.ix .event xs e).Pair.A, (Ty.ix .event xs e).Pair.B⟩⟩ := rfl
theorem setC_event1 (xs : List Event) (e : Nat) (b : Int) : setC .event xs e 1 [.int .i64 b] = xs.set e ⟨(Ty.ix .event xs e).Begins, ⟨b, (Ty.ix .event xs e).Pair.B⟩⟩ := rfl
theorem setC_event2 (xs : List Event) (e : Nat) (b : Int) : setC .event xs e 2 [.int .i64 b] = xs.set e ⟨(Ty.ix .event xs e).Begins, ⟨(Ty.ix .event xs e).Pair.A, b⟩⟩ := rfl
theorem length_setC_event (xs : List Event) (e o : Nat) (vs : List SV) : List.length (α := Event) (setC .event xs e o vs) = xs.length := length_setC (T := .event)
theorem ix_set_self_event (xs : List Event) {i : Nat} (x : Event) (h : i < xs.length) : Ty.ix .event (xs.set i x) i = x := ix_set_self (T := .event) h
def mkEvent (k : Int) : Event := ⟨Int.tmod k 3 == 0, ⟨k + 1, k + 1 + 1⟩⟩
theorem eqEv (a b : Event) : same a b = ((a.Begins == b.Begins) && same a.Pair b.Pair) := by
  obtain ⟨a, p⟩ := a
  obtain ⟨b, q⟩ := b
  by_cases h : a = b <;> by_cases h2 : p = q <;> simp_all [same]
theorem eqEvent_iff (u v : Event) : (u.Begins = v.Begins ∧ u.Pair.A = v.Pair.A ∧ u.Pair.B = v.Pair.B) ↔ u = v := by
  constructor
  · intro q
    obtain ⟨a, ⟨b, c⟩⟩ := u
    obtain ⟨a, ⟨b, c⟩⟩ := v
    simp_all
  · rintro rfl
    simp
def LSlawsEqIntS (xs : List Int) (ys : List Int) : LS where
  S := List Int × List Int × Unit × Unit × Int
  live := [(0, [none]), (1, [none]), (5, [none])]
  shape := fun s => ([.vec 0, .vec 1, .int .i64 s.2.2.2.2], [(false, .vec .int s.1), (false, .vec .int s.2.1)])
  get := fun v h => match v, h with
    | [.vec 0, .vec 1, .int .i64 i], [(false, .vec .int xs'), (false, .vec .int ys')] => some (xs', ys', (), (), i)
    | _, _ => none
  inv := fun s0 s => Holds (s.1 = xs ∧ s.2.1 = ys ∧ 0 ≤ s.2.2.2.2 ∧ s.2.2.2.2 ≤ xs.length ∧ xs.take s.2.2.2.2.toNat = ys.take s.2.2.2.2.toNat)
  mu := fun s => ((xs.length : Int) - s.2.2.2.2).toNat
  ok := by
    intro v h s hg
    try dsimp only at hg
    split at hg <;> cases hg
    rfl

def L_lawsEqIntS (xs ys : List Int) : Loops := fun n => match n with
  | 4 => some (LSlawsEqIntS xs ys)
  | _ => none
def LSlawsPqInts (xs : List Int) (ys : List Int) : LS where
  S := List Int × List Int × Unit × Unit × Int
  live := [(0, [none]), (1, [none]), (5, [none])]
  shape := fun s => ([.vec 0, .vec 1, .int .i64 s.2.2.2.2], [(false, .vec .int s.1), (false, .vec .int s.2.1)])
  get := fun v h => match v, h with
    | [.vec 0, .vec 1, .int .i64 i], [(false, .vec .int xs'), (false, .vec .int ys')] => some (xs', ys', (), (), i)
    | _, _ => none
  inv := fun s0 s => Holds (s.1 = xs ∧ s.2.1 = ys ∧ 0 ≤ s.2.2.2.2 ∧ s.2.2.2.2 ≤ xs.length ∧ xs.take s.2.2.2.2.toNat = ys.take s.2.2.2.2.toNat)
  mu := fun s => ((xs.length : Int) - s.2.2.2.2).toNat
  ok := by
    intro v h s hg
    try dsimp only at hg
    split at hg <;> cases hg
    rfl

def L_lawsPqInts (xs ys : List Int) : Loops := fun n => match n with
  | 4 => some (LSlawsPqInts xs ys)
  | _ => none
def LSlawsMarkIntS (k0 : Int) (xs : List Int) : LS where
  S := List Int × Unit × Int × Int
  live := [(0, [none]), (1, [none]), (5, [none])]
  shape := fun s => ([.vec 0, .int .i64 s.2.2.1, .int .i64 s.2.2.2], [(true, .vec .int s.1)])
  get := fun v h => match v, h with
    | [.vec 0, .int .i64 k, .int .i64 i], [(true, .vec .int ys)] => some (ys, (), k, i)
    | _, _ => none
  inv := fun s0 s => Holds (0 ≤ s.2.2.2 ∧ s.2.2.2 ≤ xs.length ∧ s.2.2.1 = k0 + 1 * s.2.2.2 ∧ s.1 = fill (fun e => mkInt (k0 + 1 * (e : Int))) xs s.2.2.2.toNat)
  mu := fun s => ((xs.length : Int) - s.2.2.2).toNat
  ok := by
    intro v h s hg
    try dsimp only at hg
    split at hg <;> cases hg
    rfl

def L_lawsMarkIntS (k0 : Int) (xs : List Int) : Loops := fun n => match n with
  | 2 => some (LSlawsMarkIntS k0 xs)
  | _ => none
def LSlawsHeldIntS (k0 : Int) (xs : List Int) : LS where
  S := List Int × Unit × Int × Int
  live := [(0, [none]), (1, [none]), (5, [none])]
  shape := fun s => ([.vec 0, .int .i64 s.2.2.1, .int .i64 s.2.2.2], [(false, .vec .int s.1)])
  get := fun v h => match v, h with
    | [.vec 0, .int .i64 k, .int .i64 i], [(false, .vec .int xs')] => some (xs', (), k, i)
    | _, _ => none
  inv := fun s0 s => Holds (s.1 = xs ∧ 0 ≤ s.2.2.2 ∧ s.2.2.2 ≤ xs.length ∧ s.2.2.1 = k0 + 1 * s.2.2.2 ∧ xs.take s.2.2.2.toNat = (gen (fun e => mkInt (k0 + 1 * (e : Int))) xs.length).take s.2.2.2.toNat)
  mu := fun s => ((xs.length : Int) - s.2.2.2).toNat
  ok := by
    intro v h s hg
    try dsimp only at hg
    split at hg <;> cases hg
    rfl

def L_lawsHeldIntS (k0 : Int) (xs : List Int) : Loops := fun n => match n with
  | 2 => some (LSlawsHeldIntS k0 xs)
  | _ => none
def LSlawsEqItemS (xs : List Item) (ys : List Item) : LS where
  S := List Item × List Item × Unit × Unit × Int
  live := [(0, [none]), (1, [none]), (5, [none])]
  shape := fun s => ([.vec 0, .vec 1, .int .i64 s.2.2.2.2], [(false, .vec .item s.1), (false, .vec .item s.2.1)])
  get := fun v h => match v, h with
    | [.vec 0, .vec 1, .int .i64 i], [(false, .vec .item xs'), (false, .vec .item ys')] => some (xs', ys', (), (), i)
    | _, _ => none
  inv := fun s0 s => Holds (s.1 = xs ∧ s.2.1 = ys ∧ 0 ≤ s.2.2.2.2 ∧ s.2.2.2.2 ≤ xs.length ∧ xs.take s.2.2.2.2.toNat = ys.take s.2.2.2.2.toNat)
  mu := fun s => ((xs.length : Int) - s.2.2.2.2).toNat
  ok := by
    intro v h s hg
    try dsimp only at hg
    split at hg <;> cases hg
    rfl

def L_lawsEqItemS (xs ys : List Item) : Loops := fun n => match n with
  | 4 => some (LSlawsEqItemS xs ys)
  | _ => none
theorem eqItem_iff (u v : Item) : (u.Id = v.Id ∧ u.Box.Low.X = v.Box.Low.X ∧ u.Box.Low.Y = v.Box.Low.Y ∧ u.Box.High.X = v.Box.High.X ∧ u.Box.High.Y = v.Box.High.Y) ↔ u = v := by
  constructor
  · intro q
    obtain ⟨a, ⟨b, c⟩, ⟨d, e⟩⟩ := u
    obtain ⟨a, ⟨b, c⟩, ⟨d, e⟩⟩ := v
    simp_all
  · rintro rfl
    simp
def LSlawsPqBroad (xs : List Item) (ys : List Item) : LS where
  S := List Item × List Item × Unit × Unit × Int
  live := [(2, [none]), (3, [none]), (5, [none])]
  shape := fun s => ([.ptr 2 0 0, .ptr 3 0 0, .int .i64 s.2.2.2.2], [(false, .vec .item s.1), (false, .vec .item s.2.1), (true, .box [.vec 0]), (true, .box [.vec 1])])
  get := fun v h => match v, h with
    | [.ptr 2 0 0, .ptr 3 0 0, .int .i64 i], [(false, .vec .item xs'), (false, .vec .item ys'), (true, .box [.vec 0]), (true, .box [.vec 1])] => some (xs', ys', (), (), i)
    | _, _ => none
  inv := fun s0 s => Holds (s.1 = xs ∧ s.2.1 = ys ∧ 0 ≤ s.2.2.2.2 ∧ s.2.2.2.2 ≤ xs.length ∧ xs.take s.2.2.2.2.toNat = ys.take s.2.2.2.2.toNat)
  mu := fun s => ((xs.length : Int) - s.2.2.2.2).toNat
  ok := by
    intro v h s hg
    try dsimp only at hg
    split at hg <;> cases hg
    rfl

def L_lawsPqBroad (xs ys : List Item) : Loops := fun n => match n with
  | 4 => some (LSlawsPqBroad xs ys)
  | _ => none
def LSlawsToItemS (xs : List Item) : LS where
  S := List Item × Unit × List Item × Int
  live := [(0, [none]), (3, [some .item]), (4, [none])]
  shape := fun s => ([.vec 0, .vec 1, .int .i64 s.2.2.2], [(false, .vec .item s.1), (true, .vec .item s.2.2.1)])
  get := fun v h => match v, h with
    | [.vec 0, .vec 1, .int .i64 i], [(false, .vec .item xs'), (true, .vec .item ys)] => some (xs', (), ys, i)
    | _, _ => none
  inv := fun s0 s => Holds (s.1 = xs ∧ 0 ≤ s.2.2.2 ∧ s.2.2.2 ≤ xs.length ∧ s.2.2.1 = fill (fun e => Ty.ix .item xs e) (List.replicate xs.length (Ty.dft .item)) s.2.2.2.toNat)
  mu := fun s => ((xs.length : Int) - s.2.2.2).toNat
  ok := by
    intro v h s hg
    try dsimp only at hg
    split at hg <;> cases hg
    rfl

def L_lawsToItemS (xs : List Item) : Loops := fun n => match n with
  | 3 => some (LSlawsToItemS xs)
  | _ => none
def LSlawsMarkItemS (k0 : Int) (xs : List Item) : LS where
  S := List Item × Unit × Int × Int
  live := [(0, [none]), (1, [none]), (5, [none])]
  shape := fun s => ([.vec 0, .int .i64 s.2.2.1, .int .i64 s.2.2.2], [(true, .vec .item s.1)])
  get := fun v h => match v, h with
    | [.vec 0, .int .i64 k, .int .i64 i], [(true, .vec .item ys)] => some (ys, (), k, i)
    | _, _ => none
  inv := fun s0 s => Holds (0 ≤ s.2.2.2 ∧ s.2.2.2 ≤ xs.length ∧ s.2.2.1 = k0 + 5 * s.2.2.2 ∧ s.1 = fill (fun e => mkItem (k0 + 5 * (e : Int))) xs s.2.2.2.toNat)
  mu := fun s => ((xs.length : Int) - s.2.2.2).toNat
  ok := by
    intro v h s hg
    try dsimp only at hg
    split at hg <;> cases hg
    rfl

def L_lawsMarkItemS (k0 : Int) (xs : List Item) : Loops := fun n => match n with
  | 2 => some (LSlawsMarkItemS k0 xs)
  | _ => none
def LSlawsHeldItemS (k0 : Int) (xs : List Item) : LS where
  S := List Item × Unit × Int × Int
  live := [(0, [none]), (1, [none]), (5, [none])]
  shape := fun s => ([.vec 0, .int .i64 s.2.2.1, .int .i64 s.2.2.2], [(false, .vec .item s.1)])
  get := fun v h => match v, h with
    | [.vec 0, .int .i64 k, .int .i64 i], [(false, .vec .item xs')] => some (xs', (), k, i)
    | _, _ => none
  inv := fun s0 s => Holds (s.1 = xs ∧ 0 ≤ s.2.2.2 ∧ s.2.2.2 ≤ xs.length ∧ s.2.2.1 = k0 + 5 * s.2.2.2 ∧ xs.take s.2.2.2.toNat = (gen (fun e => mkItem (k0 + 5 * (e : Int))) xs.length).take s.2.2.2.toNat)
  mu := fun s => ((xs.length : Int) - s.2.2.2).toNat
  ok := by
    intro v h s hg
    try dsimp only at hg
    split at hg <;> cases hg
    rfl

def L_lawsHeldItemS (k0 : Int) (xs : List Item) : Loops := fun n => match n with
  | 2 => some (LSlawsHeldItemS k0 xs)
  | _ => none
def LSlawsEqPairS (xs : List Pair) (ys : List Pair) : LS where
  S := List Pair × List Pair × Unit × Unit × Int
  live := [(0, [none]), (1, [none]), (5, [none])]
  shape := fun s => ([.vec 0, .vec 1, .int .i64 s.2.2.2.2], [(false, .vec .pair s.1), (false, .vec .pair s.2.1)])
  get := fun v h => match v, h with
    | [.vec 0, .vec 1, .int .i64 i], [(false, .vec .pair xs'), (false, .vec .pair ys')] => some (xs', ys', (), (), i)
    | _, _ => none
  inv := fun s0 s => Holds (s.1 = xs ∧ s.2.1 = ys ∧ 0 ≤ s.2.2.2.2 ∧ s.2.2.2.2 ≤ xs.length ∧ xs.take s.2.2.2.2.toNat = ys.take s.2.2.2.2.toNat)
  mu := fun s => ((xs.length : Int) - s.2.2.2.2).toNat
  ok := by
    intro v h s hg
    try dsimp only at hg
    split at hg <;> cases hg
    rfl

def L_lawsEqPairS (xs ys : List Pair) : Loops := fun n => match n with
  | 4 => some (LSlawsEqPairS xs ys)
  | _ => none
theorem eqPair_iff (u v : Pair) : (u.A = v.A ∧ u.B = v.B) ↔ u = v := by
  constructor
  · intro q
    obtain ⟨a, b⟩ := u
    obtain ⟨a, b⟩ := v
    simp_all
  · rintro rfl
    simp
def LSlawsPqPairs (xs : List Pair) (ys : List Pair) : LS where
  S := List Pair × List Pair × Unit × Unit × Int
  live := [(0, [none]), (1, [none]), (5, [none])]
  shape := fun s => ([.vec 0, .vec 1, .int .i64 s.2.2.2.2], [(false, .vec .pair s.1), (false, .vec .pair s.2.1)])
  get := fun v h => match v, h with
    | [.vec 0, .vec 1, .int .i64 i], [(false, .vec .pair xs'), (false, .vec .pair ys')] => some (xs', ys', (), (), i)
    | _, _ => none
  inv := fun s0 s => Holds (s.1 = xs ∧ s.2.1 = ys ∧ 0 ≤ s.2.2.2.2 ∧ s.2.2.2.2 ≤ xs.length ∧ xs.take s.2.2.2.2.toNat = ys.take s.2.2.2.2.toNat)
  mu := fun s => ((xs.length : Int) - s.2.2.2.2).toNat
  ok := by
    intro v h s hg
    try dsimp only at hg
    split at hg <;> cases hg
    rfl

def L_lawsPqPairs (xs ys : List Pair) : Loops := fun n => match n with
  | 4 => some (LSlawsPqPairs xs ys)
  | _ => none
def LSlawsToPairS (xs : List Pair) : LS where
  S := List Pair × Unit × List Pair × Int
  live := [(0, [none]), (3, [some .pair]), (4, [none])]
  shape := fun s => ([.vec 0, .vec 1, .int .i64 s.2.2.2], [(false, .vec .pair s.1), (true, .vec .pair s.2.2.1)])
  get := fun v h => match v, h with
    | [.vec 0, .vec 1, .int .i64 i], [(false, .vec .pair xs'), (true, .vec .pair ys)] => some (xs', (), ys, i)
    | _, _ => none
  inv := fun s0 s => Holds (s.1 = xs ∧ 0 ≤ s.2.2.2 ∧ s.2.2.2 ≤ xs.length ∧ s.2.2.1 = fill (fun e => Ty.ix .pair xs e) (List.replicate xs.length (Ty.dft .pair)) s.2.2.2.toNat)
  mu := fun s => ((xs.length : Int) - s.2.2.2).toNat
  ok := by
    intro v h s hg
    try dsimp only at hg
    split at hg <;> cases hg
    rfl

def L_lawsToPairS (xs : List Pair) : Loops := fun n => match n with
  | 3 => some (LSlawsToPairS xs)
  | _ => none
def LSlawsMarkPairS (k0 : Int) (xs : List Pair) : LS where
  S := List Pair × Unit × Int × Int
  live := [(0, [none]), (1, [none]), (5, [none])]
  shape := fun s => ([.vec 0, .int .i64 s.2.2.1, .int .i64 s.2.2.2], [(true, .vec .pair s.1)])
  get := fun v h => match v, h with
    | [.vec 0, .int .i64 k, .int .i64 i], [(true, .vec .pair ys)] => some (ys, (), k, i)
    | _, _ => none
  inv := fun s0 s => Holds (0 ≤ s.2.2.2 ∧ s.2.2.2 ≤ xs.length ∧ s.2.2.1 = k0 + 2 * s.2.2.2 ∧ s.1 = fill (fun e => mkPair (k0 + 2 * (e : Int))) xs s.2.2.2.toNat)
  mu := fun s => ((xs.length : Int) - s.2.2.2).toNat
  ok := by
    intro v h s hg
    try dsimp only at hg
    split at hg <;> cases hg
    rfl

def L_lawsMarkPairS (k0 : Int) (xs : List Pair) : Loops := fun n => match n with
  | 2 => some (LSlawsMarkPairS k0 xs)
  | _ => none
def LSlawsHeldPairS (k0 : Int) (xs : List Pair) : LS where
  S := List Pair × Unit × Int × Int
  live := [(0, [none]), (1, [none]), (5, [none])]
  shape := fun s => ([.vec 0, .int .i64 s.2.2.1, .int .i64 s.2.2.2], [(false, .vec .pair s.1)])
  get := fun v h => match v, h with
    | [.vec 0, .int .i64 k, .int .i64 i], [(false, .vec .pair xs')] => some (xs', (), k, i)
    | _, _ => none
  inv := fun s0 s => Holds (s.1 = xs ∧ 0 ≤ s.2.2.2 ∧ s.2.2.2 ≤ xs.length ∧ s.2.2.1 = k0 + 2 * s.2.2.2 ∧ xs.take s.2.2.2.toNat = (gen (fun e => mkPair (k0 + 2 * (e : Int))) xs.length).take s.2.2.2.toNat)
  mu := fun s => ((xs.length : Int) - s.2.2.2).toNat
  ok := by
    intro v h s hg
    try dsimp only at hg
    split at hg <;> cases hg
    rfl

def L_lawsHeldPairS (k0 : Int) (xs : List Pair) : Loops := fun n => match n with
  | 2 => some (LSlawsHeldPairS k0 xs)
  | _ => none
def LSlawsEqContactS (xs : List Contact) (ys : List Contact) : LS where
  S := List Contact × List Contact × Unit × Unit × Int
  live := [(0, [none]), (1, [none]), (5, [none])]
  shape := fun s => ([.vec 0, .vec 1, .int .i64 s.2.2.2.2], [(false, .vec .contact s.1), (false, .vec .contact s.2.1)])
  get := fun v h => match v, h with
    | [.vec 0, .vec 1, .int .i64 i], [(false, .vec .contact xs'), (false, .vec .contact ys')] => some (xs', ys', (), (), i)
    | _, _ => none
  inv := fun s0 s => Holds (s.1 = xs ∧ s.2.1 = ys ∧ 0 ≤ s.2.2.2.2 ∧ s.2.2.2.2 ≤ xs.length ∧ xs.take s.2.2.2.2.toNat = ys.take s.2.2.2.2.toNat)
  mu := fun s => ((xs.length : Int) - s.2.2.2.2).toNat
  ok := by
    intro v h s hg
    try dsimp only at hg
    split at hg <;> cases hg
    rfl

def L_lawsEqContactS (xs ys : List Contact) : Loops := fun n => match n with
  | 4 => some (LSlawsEqContactS xs ys)
  | _ => none
theorem eqContact_iff (u v : Contact) : (u.A = v.A ∧ u.B = v.B ∧ u.Hit.Way.X = v.Hit.Way.X ∧ u.Hit.Way.Y = v.Hit.Way.Y ∧ u.Hit.Deep = v.Hit.Deep) ↔ u = v := by
  constructor
  · intro q
    obtain ⟨a, b, ⟨c, d⟩, e⟩ := u
    obtain ⟨a, b, ⟨c, d⟩, e⟩ := v
    simp_all
  · rintro rfl
    simp
def LSlawsPqContacts (xs : List Contact) (ys : List Contact) : LS where
  S := List Contact × List Contact × Unit × Unit × Int
  live := [(0, [none]), (1, [none]), (5, [none])]
  shape := fun s => ([.vec 0, .vec 1, .int .i64 s.2.2.2.2], [(false, .vec .contact s.1), (false, .vec .contact s.2.1)])
  get := fun v h => match v, h with
    | [.vec 0, .vec 1, .int .i64 i], [(false, .vec .contact xs'), (false, .vec .contact ys')] => some (xs', ys', (), (), i)
    | _, _ => none
  inv := fun s0 s => Holds (s.1 = xs ∧ s.2.1 = ys ∧ 0 ≤ s.2.2.2.2 ∧ s.2.2.2.2 ≤ xs.length ∧ xs.take s.2.2.2.2.toNat = ys.take s.2.2.2.2.toNat)
  mu := fun s => ((xs.length : Int) - s.2.2.2.2).toNat
  ok := by
    intro v h s hg
    try dsimp only at hg
    split at hg <;> cases hg
    rfl

def L_lawsPqContacts (xs ys : List Contact) : Loops := fun n => match n with
  | 4 => some (LSlawsPqContacts xs ys)
  | _ => none
noncomputable def fs_lawsPqContacts : Fs := ⟨[], fun args H => match args, H with
  | [.vec 0, .vec 1], [(false, .vec .contact xs), (false, .vec .contact ys)] => some ((some (xs.length ≤ 4611686018427387904)), .bool (same xs ys), [(false, .vec .contact xs), (false, .vec .contact ys)])
  | _, _ => none⟩

def LSlawsToContactS (xs : List Contact) : LS where
  S := List Contact × Unit × List Contact × Int
  live := [(0, [none]), (3, [some .contact]), (4, [none])]
  shape := fun s => ([.vec 0, .vec 1, .int .i64 s.2.2.2], [(false, .vec .contact s.1), (true, .vec .contact s.2.2.1)])
  get := fun v h => match v, h with
    | [.vec 0, .vec 1, .int .i64 i], [(false, .vec .contact xs'), (true, .vec .contact ys)] => some (xs', (), ys, i)
    | _, _ => none
  inv := fun s0 s => Holds (s.1 = xs ∧ 0 ≤ s.2.2.2 ∧ s.2.2.2 ≤ xs.length ∧ s.2.2.1 = fill (fun e => Ty.ix .contact xs e) (List.replicate xs.length (Ty.dft .contact)) s.2.2.2.toNat)
  mu := fun s => ((xs.length : Int) - s.2.2.2).toNat
  ok := by
    intro v h s hg
    try dsimp only at hg
    split at hg <;> cases hg
    rfl

def L_lawsToContactS (xs : List Contact) : Loops := fun n => match n with
  | 3 => some (LSlawsToContactS xs)
  | _ => none
def LSlawsMarkContactS (k0 : Int) (xs : List Contact) : LS where
  S := List Contact × Unit × Int × Int
  live := [(0, [none]), (1, [none]), (5, [none])]
  shape := fun s => ([.vec 0, .int .i64 s.2.2.1, .int .i64 s.2.2.2], [(true, .vec .contact s.1)])
  get := fun v h => match v, h with
    | [.vec 0, .int .i64 k, .int .i64 i], [(true, .vec .contact ys)] => some (ys, (), k, i)
    | _, _ => none
  inv := fun s0 s => Holds (0 ≤ s.2.2.2 ∧ s.2.2.2 ≤ xs.length ∧ s.2.2.1 = k0 + 5 * s.2.2.2 ∧ s.1 = fill (fun e => mkContact (k0 + 5 * (e : Int))) xs s.2.2.2.toNat)
  mu := fun s => ((xs.length : Int) - s.2.2.2).toNat
  ok := by
    intro v h s hg
    try dsimp only at hg
    split at hg <;> cases hg
    rfl

def L_lawsMarkContactS (k0 : Int) (xs : List Contact) : Loops := fun n => match n with
  | 2 => some (LSlawsMarkContactS k0 xs)
  | _ => none
def LSlawsEqBodyS (xs : List Body) (ys : List Body) : LS where
  S := List Body × List Body × Unit × Unit × Int
  live := [(0, [none]), (1, [none]), (5, [none])]
  shape := fun s => ([.vec 0, .vec 1, .int .i64 s.2.2.2.2], [(false, .vec .body s.1), (false, .vec .body s.2.1)])
  get := fun v h => match v, h with
    | [.vec 0, .vec 1, .int .i64 i], [(false, .vec .body xs'), (false, .vec .body ys')] => some (xs', ys', (), (), i)
    | _, _ => none
  inv := fun s0 s => Holds (s.1 = xs ∧ s.2.1 = ys ∧ 0 ≤ s.2.2.2.2 ∧ s.2.2.2.2 ≤ xs.length ∧ xs.take s.2.2.2.2.toNat = ys.take s.2.2.2.2.toNat)
  mu := fun s => ((xs.length : Int) - s.2.2.2.2).toNat
  ok := by
    intro v h s hg
    try dsimp only at hg
    split at hg <;> cases hg
    rfl

def L_lawsEqBodyS (xs ys : List Body) : Loops := fun n => match n with
  | 4 => some (LSlawsEqBodyS xs ys)
  | _ => none
theorem eqBody_iff (u v : Body) : (u.Id = v.Id ∧ u.Shape.Kind = v.Shape.Kind ∧ u.Shape.Wide = v.Shape.Wide ∧ u.Shape.High = v.Shape.High ∧ u.At.X = v.At.X ∧ u.At.Y = v.At.Y ∧ u.Drive.X = v.Drive.X ∧ u.Drive.Y = v.Drive.Y ∧ u.Mass = v.Mass ∧ u.Bounce = v.Bounce ∧ u.Rub = v.Rub ∧ u.Quiet = v.Quiet) ↔ u = v := by
  constructor
  · intro q
    obtain ⟨a, ⟨b, c, d⟩, ⟨e, f⟩, ⟨g, h⟩, i, j, k, l⟩ := u
    obtain ⟨a, ⟨b, c, d⟩, ⟨e, f⟩, ⟨g, h⟩, i, j, k, l⟩ := v
    simp_all
  · rintro rfl
    simp
def LSlawsPqBodies (xs : List Body) (ys : List Body) : LS where
  S := List Body × List Body × Unit × Unit × Int
  live := [(0, [none]), (1, [none]), (5, [none])]
  shape := fun s => ([.vec 0, .vec 1, .int .i64 s.2.2.2.2], [(false, .vec .body s.1), (false, .vec .body s.2.1)])
  get := fun v h => match v, h with
    | [.vec 0, .vec 1, .int .i64 i], [(false, .vec .body xs'), (false, .vec .body ys')] => some (xs', ys', (), (), i)
    | _, _ => none
  inv := fun s0 s => Holds (s.1 = xs ∧ s.2.1 = ys ∧ 0 ≤ s.2.2.2.2 ∧ s.2.2.2.2 ≤ xs.length ∧ xs.take s.2.2.2.2.toNat = ys.take s.2.2.2.2.toNat)
  mu := fun s => ((xs.length : Int) - s.2.2.2.2).toNat
  ok := by
    intro v h s hg
    try dsimp only at hg
    split at hg <;> cases hg
    rfl

def L_lawsPqBodies (xs ys : List Body) : Loops := fun n => match n with
  | 4 => some (LSlawsPqBodies xs ys)
  | _ => none
def LSlawsToBodyS (xs : List Body) : LS where
  S := List Body × Unit × List Body × Int
  live := [(0, [none]), (3, [some .body]), (4, [none])]
  shape := fun s => ([.vec 0, .vec 1, .int .i64 s.2.2.2], [(false, .vec .body s.1), (true, .vec .body s.2.2.1)])
  get := fun v h => match v, h with
    | [.vec 0, .vec 1, .int .i64 i], [(false, .vec .body xs'), (true, .vec .body ys)] => some (xs', (), ys, i)
    | _, _ => none
  inv := fun s0 s => Holds (s.1 = xs ∧ 0 ≤ s.2.2.2 ∧ s.2.2.2 ≤ xs.length ∧ s.2.2.1 = fill (fun e => Ty.ix .body xs e) (List.replicate xs.length (Ty.dft .body)) s.2.2.2.toNat)
  mu := fun s => ((xs.length : Int) - s.2.2.2).toNat
  ok := by
    intro v h s hg
    try dsimp only at hg
    split at hg <;> cases hg
    rfl

def L_lawsToBodyS (xs : List Body) : Loops := fun n => match n with
  | 3 => some (LSlawsToBodyS xs)
  | _ => none
def LSlawsMarkBodyS (k0 : Int) (xs : List Body) : LS where
  S := List Body × Unit × Int × Int
  live := [(0, [none]), (1, [none]), (5, [none])]
  shape := fun s => ([.vec 0, .int .i64 s.2.2.1, .int .i64 s.2.2.2], [(true, .vec .body s.1)])
  get := fun v h => match v, h with
    | [.vec 0, .int .i64 k, .int .i64 i], [(true, .vec .body ys)] => some (ys, (), k, i)
    | _, _ => none
  inv := fun s0 s => Holds (0 ≤ s.2.2.2 ∧ s.2.2.2 ≤ xs.length ∧ s.2.2.1 = k0 + 12 * s.2.2.2 ∧ s.1 = fill (fun e => mkBody (k0 + 12 * (e : Int))) xs s.2.2.2.toNat)
  mu := fun s => ((xs.length : Int) - s.2.2.2).toNat
  ok := by
    intro v h s hg
    try dsimp only at hg
    split at hg <;> cases hg
    rfl

def L_lawsMarkBodyS (k0 : Int) (xs : List Body) : Loops := fun n => match n with
  | 2 => some (LSlawsMarkBodyS k0 xs)
  | _ => none
def LSlawsHeldBodyS (k0 : Int) (xs : List Body) : LS where
  S := List Body × Unit × Int × Int
  live := [(0, [none]), (1, [none]), (5, [none])]
  shape := fun s => ([.vec 0, .int .i64 s.2.2.1, .int .i64 s.2.2.2], [(false, .vec .body s.1)])
  get := fun v h => match v, h with
    | [.vec 0, .int .i64 k, .int .i64 i], [(false, .vec .body xs')] => some (xs', (), k, i)
    | _, _ => none
  inv := fun s0 s => Holds (s.1 = xs ∧ 0 ≤ s.2.2.2 ∧ s.2.2.2 ≤ xs.length ∧ s.2.2.1 = k0 + 12 * s.2.2.2 ∧ xs.take s.2.2.2.toNat = (gen (fun e => mkBody (k0 + 12 * (e : Int))) xs.length).take s.2.2.2.toNat)
  mu := fun s => ((xs.length : Int) - s.2.2.2).toNat
  ok := by
    intro v h s hg
    try dsimp only at hg
    split at hg <;> cases hg
    rfl

def L_lawsHeldBodyS (k0 : Int) (xs : List Body) : Loops := fun n => match n with
  | 2 => some (LSlawsHeldBodyS k0 xs)
  | _ => none
def LSlawsEqEventS (xs : List Event) (ys : List Event) : LS where
  S := List Event × List Event × Unit × Unit × Int
  live := [(0, [none]), (1, [none]), (5, [none])]
  shape := fun s => ([.vec 0, .vec 1, .int .i64 s.2.2.2.2], [(false, .vec .event s.1), (false, .vec .event s.2.1)])
  get := fun v h => match v, h with
    | [.vec 0, .vec 1, .int .i64 i], [(false, .vec .event xs'), (false, .vec .event ys')] => some (xs', ys', (), (), i)
    | _, _ => none
  inv := fun s0 s => Holds (s.1 = xs ∧ s.2.1 = ys ∧ 0 ≤ s.2.2.2.2 ∧ s.2.2.2.2 ≤ xs.length ∧ xs.take s.2.2.2.2.toNat = ys.take s.2.2.2.2.toNat)
  mu := fun s => ((xs.length : Int) - s.2.2.2.2).toNat
  ok := by
    intro v h s hg
    try dsimp only at hg
    split at hg <;> cases hg
    rfl

def L_lawsEqEventS (xs ys : List Event) : Loops := fun n => match n with
  | 4 => some (LSlawsEqEventS xs ys)
  | _ => none
def LSlawsMarkEventS (k0 : Int) (xs : List Event) : LS where
  S := List Event × Unit × Int × Int
  live := [(0, [none]), (1, [none]), (5, [none])]
  shape := fun s => ([.vec 0, .int .i64 s.2.2.1, .int .i64 s.2.2.2], [(true, .vec .event s.1)])
  get := fun v h => match v, h with
    | [.vec 0, .int .i64 k, .int .i64 i], [(true, .vec .event ys)] => some (ys, (), k, i)
    | _, _ => none
  inv := fun s0 s => Holds (0 ≤ s.2.2.2 ∧ s.2.2.2 ≤ xs.length ∧ s.2.2.1 = k0 + 3 * s.2.2.2 ∧ s.1 = fill (fun e => mkEvent (k0 + 3 * (e : Int))) xs s.2.2.2.toNat)
  mu := fun s => ((xs.length : Int) - s.2.2.2).toNat
  ok := by
    intro v h s hg
    try dsimp only at hg
    split at hg <;> cases hg
    rfl

def L_lawsMarkEventS (k0 : Int) (xs : List Event) : Loops := fun n => match n with
  | 2 => some (LSlawsMarkEventS k0 xs)
  | _ => none
def LSlawsHeldEventS (k0 : Int) (xs : List Event) : LS where
  S := List Event × Unit × Int × Int
  live := [(0, [none]), (1, [none]), (5, [none])]
  shape := fun s => ([.vec 0, .int .i64 s.2.2.1, .int .i64 s.2.2.2], [(false, .vec .event s.1)])
  get := fun v h => match v, h with
    | [.vec 0, .int .i64 k, .int .i64 i], [(false, .vec .event xs')] => some (xs', (), k, i)
    | _, _ => none
  inv := fun s0 s => Holds (s.1 = xs ∧ 0 ≤ s.2.2.2 ∧ s.2.2.2 ≤ xs.length ∧ s.2.2.1 = k0 + 3 * s.2.2.2 ∧ xs.take s.2.2.2.toNat = (gen (fun e => mkEvent (k0 + 3 * (e : Int))) xs.length).take s.2.2.2.toNat)
  mu := fun s => ((xs.length : Int) - s.2.2.2).toNat
  ok := by
    intro v h s hg
    try dsimp only at hg
    split at hg <;> cases hg
    rfl

def L_lawsHeldEventS (k0 : Int) (xs : List Event) : Loops := fun n => match n with
  | 2 => some (LSlawsHeldEventS k0 xs)
  | _ => none
end Go.Proofs.Ytmflfpedmbfhkaa.Sym
