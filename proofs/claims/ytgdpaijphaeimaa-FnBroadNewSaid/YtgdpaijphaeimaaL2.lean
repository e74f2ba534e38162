/-
  Laws of boxes.
  No condition.
-/
import Derived.Test.YtgdpaijphaeimaaD2
namespace Go.Proofs.Ytgdpaijphaeimaa.Sym
open Go
set_option linter.unusedVariables false
set_option linter.unusedSimpArgs false
set_option maxRecDepth 100000

/-- What is left without a number. -/
def goneL (id : Int) (xs : List Item) : List Item := xs.filter fun y => y.Id != id
def noPair (id : Int) (q : Pair) : Bool := q.A != id && q.B != id
theorem rowF_gone {id : Int} {x : Item} (h : x.Id ≠ id) : ∀ (ys : List Item), (rowF x ys).filter (noPair id) = rowF x (goneL id ys)
  | [] => rfl
  | y :: r => by
    have ih := rowF_gone h r
    simp only [rowF, goneL] at ih ⊢
    cases hm : boxMeets x.Box y.Box <;> cases hy : (y.Id != id) <;> simp [List.filter, hm, hy, noPair, h] at ih ⊢ <;> simp_all
theorem rowF_none {id : Int} {x : Item} (h : x.Id = id) : ∀ (ys : List Item), (rowF x ys).filter (noPair id) = []
  | [] => rfl
  | y :: r => by
    have ih := rowF_none h r
    simp only [rowF] at ih ⊢
    cases hm : boxMeets x.Box y.Box with
    | true => simpa [List.filter, hm, noPair, h] using ih
    | false => simpa [List.filter, hm] using ih
theorem pairsF_gone {id : Int} : ∀ (xs : List Item), (pairsF xs).filter (noPair id) = pairsF (goneL id xs)
  | [] => rfl
  | x :: r => by
    simp only [pairsF, List.filter_append]
    rw [pairsF_gone r]
    by_cases h : x.Id = id
    · rw [rowF_none h]
      have : goneL id (x :: r) = goneL id r := by simp [goneL, h]
      rw [this]
      rfl
    · rw [rowF_gone h]
      have : goneL id (x :: r) = x :: goneL id r := by simp [goneL, h]
      rw [this]
      rfl
theorem ix_del {xs : List Item} {k : Nat} (hk : k < xs.length) (e : Nat) : Ty.ix .item (delI xs k) e = if e < k then Ty.ix .item xs e else Ty.ix .item xs (e + 1) := by
  simp only [Ty.ix, delI, List.getD_eq_getElem?_getD]
  split
  · rename_i h
    rw [List.getElem?_append_left (by simp; omega), List.getElem?_take_of_lt h]
  · rename_i h
    rw [List.getElem?_append_right (by simp; omega)]
    have hl : (xs.take k).length = k := by simp; omega
    rw [hl, List.getElem?_drop, show k + 1 + (e - k) = e + 1 by omega]
theorem length_delI {xs : List Item} {k : Nat} (hk : k < xs.length) : (delI xs k).length + 1 = xs.length := by
  simp [delI]
  omega
theorem itemsOk_del {xs : List Item} {k : Nat} (h : itemsOk xs = true) (hk : k < xs.length) : itemsOk (delI xs k) = true := by
  obtain ⟨h1, h2, h3⟩ := itemsOk_iff.1 h
  have hl := length_delI hk
  refine itemsOk_iff.2 ⟨by omega, fun e he => ?_, fun e he => ?_⟩
  · rw [ix_del hk]
    split
    · exact h2 e (by omega)
    · exact h2 (e + 1) (by omega)
  · rw [ix_del hk, ix_del hk]
    by_cases q : e + 1 < k
    · rw [if_pos (by omega), if_pos q]
      exact h3 e (by omega)
    · by_cases q2 : e < k
      · rw [if_pos q2, if_neg q]
        exact items_lt h (by omega) (by omega)
      · rw [if_neg q2, if_neg q]
        exact h3 (e + 1) (by omega)
theorem mem_ix {T : Ty} {xs : List T.El} {x : T.El} (h : x ∈ xs) : ∃ i, i < xs.length ∧ T.ix xs i = x := by
  obtain ⟨i, hi, e⟩ := List.mem_iff_getElem.1 h
  exact ⟨i, hi, ix_eq (by rw [← e]; exact List.getElem?_eq_getElem hi)⟩
theorem hasI_at {xs : List Item} {id : Int} (h : hasI xs id = true) : (Ty.ix .item xs (atI xs id)).Id = id := by
  simp only [hasI, Bool.and_eq_true, beq_iff_eq] at h
  exact h.2
theorem del_gone {xs : List Item} {id : Int} (h : itemsOk xs = true) (hh : hasI xs id = true) : delI xs (atI xs id) = goneL id xs := by
  have hlt := hasI_lt hh
  have hid := hasI_at hh
  generalize atI xs id = k at *
  have e : xs = xs.take k ++ Ty.ix .item xs k :: xs.drop (k + 1) := by
    rw [← drop_ix (T := .item) hlt, List.take_append_drop]
  have h1 : goneL id (xs.take k) = xs.take k := by
    refine List.filter_eq_self.2 fun y hy => ?_
    obtain ⟨i, hi, q⟩ := mem_ix (T := .item) hy
    have hi' : i < k := by simp at hi; omega
    have hx : Ty.ix .item (xs.take k) i = Ty.ix .item xs i := by simp only [Ty.ix, List.getD_eq_getElem?_getD, List.getElem?_take_of_lt hi']
    have := items_lt h hi' hlt
    rw [← q, hx]
    simp
    omega
  have h2 : goneL id (xs.drop (k + 1)) = xs.drop (k + 1) := by
    refine List.filter_eq_self.2 fun y hy => ?_
    obtain ⟨i, hi, q⟩ := mem_ix (T := .item) hy
    have hx : Ty.ix .item (xs.drop (k + 1)) i = Ty.ix .item xs (k + 1 + i) := by simp only [Ty.ix, List.getD_eq_getElem?_getD, List.getElem?_drop]
    have := items_lt h (a := k) (b := k + 1 + i) (by omega) (by simp at hi; omega)
    rw [← q, hx]
    simp
    omega
  have h3 : goneL id (Ty.ix .item xs k :: xs.drop (k + 1)) = xs.drop (k + 1) := by
    conv => rhs; rw [← h2]
    simp [goneL, hid]
  conv => rhs; rw [e]
  unfold delI
  have h4 : goneL id (xs.take k ++ Ty.ix .item xs k :: xs.drop (k + 1)) = goneL id (xs.take k) ++ goneL id (Ty.ix .item xs k :: xs.drop (k + 1)) := by simp [goneL]
  rw [h4, h1, h3]
theorem hasI_gone {xs : List Item} {id : Int} : hasI (goneL id xs) id = false := by
  cases hh : hasI (goneL id xs) id with
  | false => rfl
  | true =>
    have hlt := hasI_lt hh
    have hid := hasI_at hh
    have hm : Ty.ix .item (goneL id xs) (atI (goneL id xs) id) ∈ goneL id xs := by
      have := ix_get (T := .item) hlt
      exact List.mem_of_getElem? this
    have := (List.mem_filter.1 hm).2
    simp [hid] at this
def goneP (z : List Item × Int) : Prop := z.1.length ≤ 25
instance : Nonempty {x : List Item × Int // goneP x} := ⟨⟨([], 0), by simp [goneP]⟩⟩
def leftF (id : Int) (ps : List Pair) : List Pair := ps.filter (noPair id)
theorem leftF_drop {id : Int} {ps : List Pair} {i : Nat} (h : i < ps.length) : leftF id (ps.drop i) = (bif noPair id (Ty.ix .pair ps i) then [Ty.ix .pair ps i] else []) ++ leftF id (ps.drop (i + 1)) := by
  rw [drop_ix (T := .pair) h]
  unfold leftF
  cases q : noPair id (Ty.ix .pair ps i) <;> simp [List.filter, q]
theorem goneF_true {xs : List Item} {id : Int} (h : (goneF xs id).2 = true) : itemsOk xs = true ∧ (goneF xs id).1 = goneL id xs ∧ itemsOk (goneL id xs) = true := by
  unfold goneF at h ⊢
  cases h1 : itemsOk xs with
  | false => rw [h1] at h; cases h
  | true =>
    cases h2 : hasI xs id with
    | false => rw [h1, h2] at h; cases h
    | true =>
      have e := del_gone h1 h2
      refine ⟨rfl, e, ?_⟩
      rw [← e]
      exact itemsOk_del h1 (hasI_lt h2)
theorem goneF_twice {xs : List Item} {id : Int} : (goneF (goneL id xs) id).2 = false := by
  unfold goneF
  rw [hasI_gone]
  cases itemsOk (goneL id xs) <;> rfl
theorem leftF_end {id : Int} {ps : List Pair} {i : Nat} (h : ps.length ≤ i) : leftF id (ps.drop i) = [] := by
  rw [drop_end h]
  rfl
theorem left_next {id i : Int} {ps l l' : List Pair} (h0 : 0 ≤ i) (h1 : i < ps.length) (hl : ps.length ≤ 576) (h : l ++ leftF id (ps.drop i.toNat) = leftF id ps)
    (e : l' = l ++ bif noPair id (Ty.ix .pair ps i.toNat) then [Ty.ix .pair ps i.toNat] else []) :
    (0 ≤ IntKind.i64.wrap (i + 1) ∧ IntKind.i64.wrap (i + 1) ≤ ps.length ∧ l' ++ leftF id (ps.drop (IntKind.i64.wrap (i + 1)).toNat) = leftF id ps) ∧ ((ps.length : Int) - IntKind.i64.wrap (i + 1)).toNat < ((ps.length : Int) - i).toNat := by
  have w : IntKind.i64.wrap (i + 1) = i + 1 := wrap_small (by omega) (by omega)
  rw [w]
  refine ⟨⟨by omega, by omega, ?_⟩, by omega⟩
  rw [← h, leftF_drop (ps := ps) (i := i.toNat) (by omega), e, show (i + 1).toNat = i.toNat + 1 by omega, List.append_assoc]

def LSleft  : LS where
  S := List Int × Int × List Item × List Pair × List Pair × Int
  live := [(4, [none]), (5, [some .item]), (9, [some .pair]), (10, [some .pair]), (11, [none])]
  shape := fun s => ([.int .i64 s.2.1, .ptr 2 0 0, .vec 3, .vec 4, .int .i64 s.2.2.2.2.2], [(false, .vec .byte s.1), (true, .vec .item s.2.2.1), (true, .box [.vec 1]), (true, .vec .pair s.2.2.2.1), (true, .vec .pair s.2.2.2.2.1)])
  get := fun v h => match v, h with
    | [.int .i64 id, .ptr 2 0 0, .vec 3, .vec 4, .int .i64 i], [(false, .vec .byte b), (true, .vec .item x), (true, .box [.vec 1]), (true, .vec .pair list), (true, .vec .pair lft)] => some (b, id, x, list, lft, i)
    | _, _ => none
  inv := fun s0 s => Holds (s.1 = s0.1 ∧ s.2.1 = s0.2.1 ∧ s.2.2.1 = s0.2.2.1 ∧ s.2.2.2.1 = s0.2.2.2.1 ∧ 0 ≤ s.2.2.2.2.2 ∧ s.2.2.2.2.2 ≤ s0.2.2.2.1.length ∧ s.2.2.2.2.1 ++ leftF s0.2.1 (s0.2.2.2.1.drop s.2.2.2.2.2.toNat) = leftF s0.2.1 s0.2.2.2.1)
  mu := fun s => ((s.2.2.2.1.length : Int) - s.2.2.2.2.2).toNat
  ok := by
    intro v h s hg
    try dsimp only at hg
    split at hg <;> cases hg
    rfl

def L_lawBroadGone : Loops := fun n => match n with
  | 11 => some LSleft
  | _ => none
end Go.Proofs.Ytgdpaijphaeimaa.Sym
