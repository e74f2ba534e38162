/-
  Boxes by their numbers: what is ok, what meets.
  No condition.
-/
import Derived.Test.YtmflfpedmbfhkaaE1
namespace Go.Proofs.Ytmflfpedmbfhkaa.Sym
open Go
set_option linter.unusedVariables false
set_option linter.unusedSimpArgs false
set_option maxRecDepth 100000

def itemOk (x : Item) : Bool := isIn x.Id 0 1000000000 && boxOk x.Box
/-- All below a number. -/
def allTo (p : Nat → Bool) : Nat → Bool
  | 0 => true
  | k + 1 => allTo p k && p k
theorem allTo_false {p : Nat → Bool} {k : Nat} (hk : p k = false) : ∀ {n : Nat}, k < n → allTo p n = false
  | n + 1, h => by
    simp only [allTo]
    by_cases e : k = n
    · subst e; simp [hk]
    · simp [allTo_false hk (n := n) (by omega)]
theorem allTo_true {p : Nat → Bool} : ∀ {n : Nat}, (∀ k, k < n → p k = true) → allTo p n = true
  | 0, _ => rfl
  | n + 1, h => by simp only [allTo, allTo_true (n := n) fun k hk => h k (by omega), h n (by omega), Bool.and_self]
def itemAt (xs : List Item) (k : Nat) : Bool := itemOk (Ty.ix .item xs k) && (k == 0 || decide ((Ty.ix .item xs (k - 1)).Id < (Ty.ix .item xs k).Id))
def itemsOk (xs : List Item) : Bool := allTo (itemAt xs) xs.length && decide (xs.length ≤ 24)
theorem szLeft_le {n : Nat} (c : decide (szLeft 1048576 (n : Int) < 0) = false) (hb : n ≤ 9223372036854775807) : n ≤ 1048576 := by
  have c := of_decide_eq_false c
  have hw : W (1048576 - (n : Int)) = 1048576 - (n : Int) := wrap_small (by omega) (by omega)
  simp only [szLeft, hw] at c
  split at c <;> omega
theorem fin_items {xs : List Item} : itemsOk xs = (allTo (itemAt xs) xs.length && decide ((xs.length : Int) ≤ 24)) := by
  unfold itemsOk
  congr 1
  rw [decide_eq_decide]
  omega
def LSspecBroadOk (xs : List Item) : LS where
  S := List Item × Unit × Int
  live := [(1, [none]), (3, [none])]
  shape := fun s => ([.ptr 1 0 0, .int .i64 s.2.2], [(false, .vec .item s.1), (true, .box [.vec 0])])
  get := fun v h => match v, h with
    | [.ptr 1 0 0, .int .i64 i], [(false, .vec .item xs'), (true, .box [.vec 0])] => some (xs', (), i)
    | _, _ => none
  inv := fun s0 s => Holds (s.1 = xs ∧ 0 ≤ s.2.2 ∧ s.2.2 ≤ xs.length ∧ allTo (itemAt xs) s.2.2.toNat = true ∧ xs.length < 4611686018427387904)
  mu := fun s => ((xs.length : Int) - s.2.2).toNat
  ok := by
    intro v h s hg
    try dsimp only at hg
    split at hg <;> cases hg
    rfl

def L_specBroadOk (xs : List Item) : Loops := fun n => match n with
  | 2 => some (LSspecBroadOk xs)
  | _ => none
def LSimplBroadOk (xs : List Item) : LS where
  S := List Item × Unit × Unit × Int × Int
  live := [(1, [none]), (6, [none]), (7, [none]), (8, [none])]
  shape := fun s => ([.ptr 1 0 0, .vec 0, .int .i64 s.2.2.2.1, .int .i64 s.2.2.2.2], [(false, .vec .item s.1), (true, .box [.vec 0])])
  get := fun v h => match v, h with
    | [.ptr 1 0 0, .vec 0, .int .i64 n, .int .i64 i], [(false, .vec .item xs'), (true, .box [.vec 0])] => some (xs', (), (), n, i)
    | _, _ => none
  inv := fun s0 s => Holds (s.1 = xs ∧ s.2.2.2.1 = xs.length ∧ 0 ≤ s.2.2.2.2 ∧ s.2.2.2.2 ≤ xs.length ∧ allTo (itemAt xs) s.2.2.2.2.toNat = true ∧ xs.length < 4611686018427387904)
  mu := fun s => ((xs.length : Int) - s.2.2.2.2).toNat
  ok := by
    intro v h s hg
    try dsimp only at hg
    split at hg <;> cases hg
    rfl

def L_implBroadOk (xs : List Item) : Loops := fun n => match n with
  | 2 => some (LSimplBroadOk xs)
  | _ => none

def boxMeets (a b : Box) : Bool := decide (a.Low.X ≤ b.High.X) && decide (b.Low.X ≤ a.High.X) && decide (a.Low.Y ≤ b.High.Y) && decide (b.Low.Y ≤ a.High.Y)
noncomputable def fs_l3Meets : Fs := ⟨[], fun args H => match args, H with
  | [.agg [.int .i64 aLX, .int .i64 aLY, .int .i64 aHX, .int .i64 aHY], .agg [.int .i64 bLX, .int .i64 bLY, .int .i64 bHX, .int .i64 bHY]], [] => some (none, .bool (boxMeets (Box.mk (Vec.mk aLX aLY) (Vec.mk aHX aHY)) (Box.mk (Vec.mk bLX bLY) (Vec.mk bHX bHY))), [])
  | _, _ => none⟩

theorem vc_l3Meets (aLX : Int) (aLY : Int) (aHX : Int) (aHY : Int) (bLX : Int) (bLY : Int) (bHX : Int) (bHY : Int) (Q : SV → List Ent → Prop) :
    fnVC tt (look []) L0 Try.f69 [.agg [.int .i64 aLX, .int .i64 aLY, .int .i64 aHX, .int .i64 aHY], .agg [.int .i64 bLX, .int .i64 bLY, .int .i64 bHX, .int .i64 bHY]] [] Q =
    (ifB (decide (aLX ≤ bHX)) (ifB (decide (bLX ≤ aHX)) (ifB (decide (aLY ≤ bHY)) (Q (SV.bool (decide (bLY ≤ aHY))) []) (Q (SV.bool false) [])) (Q (SV.bool false) [])) (Q (SV.bool false) [])) := by kernel_rfl

theorem ok_l3Meets : FsOk Try.prog 69 fs_l3Meets := fsOk_of tt_ok tabFs_nil mixed Try.func69 (by kernel_rfl) (by kernel_rfl) (by
    intro args LL p r HH h hp
    unfold fs_l3Meets at h
    dsimp only at h
    split at h
    case h_2 => cases h
    rename_i aLX aLY aHX aHY bLX bLY bHX bHY
    simp only [Option.some.injEq, Prod.mk.injEq] at h
    obtain ⟨rfl, rfl, rfl⟩ := h
    refine ⟨by simp [Form, stays], L0, ?_⟩
    rw [vc_l3Meets]
    try dsimp only

    repeat' (first | refine ifB_of (fun _ => ?_) (fun _ => ?_) | refine pre_of ?_ (fun _ => ?_))
    all_goals first
      | rfl
      | (simp only [W, boxMeets, *, cond_true, cond_false, Bool.true_and, Bool.false_and, Bool.and_true, Bool.and_false, Bool.not_true, Bool.not_false, and_self, true_and]; done)
      | (simp_all [W, boxMeets]; done)
      | (simp_all [W, boxMeets] <;> omega))


/-! ### All that meet a box -/
def askF (x : Box) (xs : List Item) : List Int := (xs.filter fun y => boxMeets y.Box x).map (·.Id)
def broadAsk (xs : List Item) (x : Box) : List Int := bif itemsOk xs && boxOk x then askF x xs else []
theorem length_askF (x : Box) (xs : List Item) : (askF x xs).length ≤ xs.length := by
  simp only [askF, List.length_map]
  exact List.length_filter_le _ _
theorem drop_ix {T : Ty} {xs : List T.El} {i : Nat} (h : i < xs.length) : xs.drop i = T.ix xs i :: xs.drop (i + 1) := by
  rw [List.drop_eq_getElem_cons h]
  congr 1
  simp [Ty.ix, List.getD, h]
theorem askF_drop {x : Box} {xs : List Item} {i : Nat} (h : i < xs.length) : askF x (xs.drop i) = (bif boxMeets (Ty.ix .item xs i).Box x then [(Ty.ix .item xs i).Id] else []) ++ askF x (xs.drop (i + 1)) := by
  rw [drop_ix (T := .item) h]
  cases c : boxMeets (Ty.ix .item xs i).Box x <;> simp [askF, c]
theorem itemsOk_len {xs : List Item} (h : itemsOk xs = true) : xs.length ≤ 24 := by
  simp only [itemsOk, Bool.and_eq_true, decide_eq_true_eq] at h
  exact h.2
def LSimplBroadAsk  : LS where
  S := List Item × Box × List Int × Unit × Int × Int
  live := [(3, [none]), (5, [some .int]), (17, [none]), (18, [none]), (19, [none])]
  shape := fun s => ([.ptr 1 0 0, .vec 2, .vec 0, .int .i64 s.2.2.2.2.1, .int .i64 s.2.2.2.2.2], [(false, .vec .item s.1), (true, .box [.int .i64 s.2.1.Low.X, .int .i64 s.2.1.Low.Y, .int .i64 s.2.1.High.X, .int .i64 s.2.1.High.Y]), (true, .vec .int s.2.2.1)])
  get := fun v h => match v, h with
    | [.ptr 1 0 0, .vec 2, .vec 0, .int .i64 n, .int .i64 i], [(false, .vec .item xs), (true, .box [.int .i64 xLX, .int .i64 xLY, .int .i64 xHX, .int .i64 xHY]), (true, .vec .int out)] => some (xs, (Box.mk (Vec.mk xLX xLY) (Vec.mk xHX xHY)), out, (), n, i)
    | _, _ => none
  inv := fun s0 s => Holds (s.1 = s0.1 ∧ s.2.1 = s0.2.1 ∧ s.2.2.2.2.1 = s0.1.length ∧ 0 ≤ s.2.2.2.2.2 ∧ s.2.2.2.2.2 ≤ s0.1.length ∧ s.2.2.1 ++ askF s0.2.1 (s0.1.drop s.2.2.2.2.2.toNat) = askF s0.2.1 s0.1)
  mu := fun s => ((s.1.length : Int) - s.2.2.2.2.2).toNat
  ok := by
    intro v h s hg
    try dsimp only at hg
    split at hg <;> cases hg
    rfl

def L_implBroadAsk : Loops := fun n => match n with
  | 5 => some LSimplBroadAsk
  | _ => none
theorem not_true {b : Bool} (h : (!b) = true) : b = false := by simpa using h
theorem not_false {b : Bool} (h : (!b) = false) : b = true := by simpa using h
theorem drop_end {α : Type} {xs : List α} {i : Nat} (h : xs.length ≤ i) : xs.drop i = [] := List.drop_eq_nil_of_le h
def LSspecBroadAsk  : LS where
  S := List Item × Unit × Box × List Int × Int
  live := [(2, [none]), (3, [none]), (5, [some .int]), (6, [none])]
  shape := fun s => ([.ptr 1 0 0, .ptr 2 0 0, .vec 3, .int .i64 s.2.2.2.2], [(false, .vec .item s.1), (true, .box [.vec 0]), (true, .box [.int .i64 s.2.2.1.Low.X, .int .i64 s.2.2.1.Low.Y, .int .i64 s.2.2.1.High.X, .int .i64 s.2.2.1.High.Y]), (true, .vec .int s.2.2.2.1)])
  get := fun v h => match v, h with
    | [.ptr 1 0 0, .ptr 2 0 0, .vec 3, .int .i64 i], [(false, .vec .item xs), (true, .box [.vec 0]), (true, .box [.int .i64 xLX, .int .i64 xLY, .int .i64 xHX, .int .i64 xHY]), (true, .vec .int out)] => some (xs, (), (Box.mk (Vec.mk xLX xLY) (Vec.mk xHX xHY)), out, i)
    | _, _ => none
  inv := fun s0 s => Holds (s.1 = s0.1 ∧ s.2.2.1 = s0.2.2.1 ∧ 0 ≤ s.2.2.2.2 ∧ s.2.2.2.2 ≤ s0.1.length ∧ s.2.2.2.1 ++ askF s0.2.2.1 (s0.1.drop s.2.2.2.2.toNat) = askF s0.2.2.1 s0.1)
  mu := fun s => ((s.1.length : Int) - s.2.2.2.2).toNat
  ok := by
    intro v h s hg
    try dsimp only at hg
    split at hg <;> cases hg
    rfl

def L_specBroadAsk : Loops := fun n => match n with
  | 5 => some LSspecBroadAsk
  | _ => none

/-! ### All two that meet -/
def rowF (x : Item) (ys : List Item) : List Pair := (ys.filter fun y => boxMeets x.Box y.Box).map fun y => ⟨x.Id, y.Id⟩
def pairsF : List Item → List Pair
  | [] => []
  | x :: r => rowF x r ++ pairsF r
def broadPairs (xs : List Item) : List Pair := bif itemsOk xs then pairsF xs else []
theorem length_rowF (x : Item) (ys : List Item) : (rowF x ys).length ≤ ys.length := by
  simp only [rowF, List.length_map]
  exact List.length_filter_le _ _
theorem length_pairsF : ∀ xs : List Item, (pairsF xs).length ≤ xs.length * xs.length
  | [] => by simp [pairsF]
  | x :: r => by
    have h1 := length_rowF x r
    have h2 := length_pairsF r
    simp only [pairsF, List.length_append, List.length_cons, Nat.add_mul, Nat.mul_add, Nat.one_mul, Nat.mul_one]
    omega
theorem rowF_drop {x : Item} {xs : List Item} {i : Nat} (h : i < xs.length) : rowF x (xs.drop i) = (bif boxMeets x.Box (Ty.ix .item xs i).Box then [⟨x.Id, (Ty.ix .item xs i).Id⟩] else []) ++ rowF x (xs.drop (i + 1)) := by
  rw [drop_ix (T := .item) h]
  cases c : boxMeets x.Box (Ty.ix .item xs i).Box <;> simp [rowF, c]
theorem pairsF_drop {xs : List Item} {i : Nat} (h : i < xs.length) : pairsF (xs.drop i) = rowF (Ty.ix .item xs i) (xs.drop (i + 1)) ++ pairsF (xs.drop (i + 1)) := by
  rw [drop_ix (T := .item) h]
  rfl
theorem length_sq {n : Nat} (h : n ≤ 24) : n * n ≤ 576 := Nat.mul_le_mul h h
def LSl4Pairs1  : LS where
  S := List Item × Unit × List Pair × Int
  live := [(1, [none]), (3, [some .pair]), (4, [none])]
  shape := fun s => ([.ptr 1 0 0, .vec 2, .int .i64 s.2.2.2], [(false, .vec .item s.1), (true, .box [.vec 0]), (true, .vec .pair s.2.2.1)])
  get := fun v h => match v, h with
    | [.ptr 1 0 0, .vec 2, .int .i64 i], [(false, .vec .item xs), (true, .box [.vec 0]), (true, .vec .pair out)] => some (xs, (), out, i)
    | _, _ => none
  inv := fun s0 s => Holds (s.1 = s0.1 ∧ 0 ≤ s.2.2.2 ∧ s.2.2.2 ≤ s0.1.length ∧ s.2.2.1 ++ pairsF (s0.1.drop s.2.2.2.toNat) = pairsF s0.1)
  mu := fun s => ((s.1.length : Int) - s.2.2.2).toNat
  ok := by
    intro v h s hg
    try dsimp only at hg
    split at hg <;> cases hg
    rfl

def LSl4Pairs2  : LS where
  S := List Item × Unit × List Pair × Int × Int
  live := [(1, [none]), (3, [some .pair]), (4, [none]), (5, [none])]
  shape := fun s => ([.ptr 1 0 0, .vec 2, .int .i64 s.2.2.2.1, .int .i64 s.2.2.2.2], [(false, .vec .item s.1), (true, .box [.vec 0]), (true, .vec .pair s.2.2.1)])
  get := fun v h => match v, h with
    | [.ptr 1 0 0, .vec 2, .int .i64 i, .int .i64 k], [(false, .vec .item xs), (true, .box [.vec 0]), (true, .vec .pair out)] => some (xs, (), out, i, k)
    | _, _ => none
  inv := fun s0 s => Holds (s.1 = s0.1 ∧ s.2.2.2.1 = s0.2.2.2.1 ∧ s0.2.2.2.1 + 1 ≤ s.2.2.2.2 ∧ s.2.2.2.2 ≤ s0.1.length ∧ s.2.2.1 ++ rowF (Ty.ix .item s0.1 s0.2.2.2.1.toNat) (s0.1.drop s.2.2.2.2.toNat) = s0.2.2.1 ++ rowF (Ty.ix .item s0.1 s0.2.2.2.1.toNat) (s0.1.drop s0.2.2.2.2.toNat))
  mu := fun s => ((s.1.length : Int) - s.2.2.2.2).toNat
  ok := by
    intro v h s hg
    try dsimp only at hg
    split at hg <;> cases hg
    rfl

def L_l4Pairs : Loops := fun n => match n with
  | 3 => some LSl4Pairs1
  | 6 => some LSl4Pairs2
  | _ => none
def LSimplPairs1  : LS where
  S := List Item × Unit × List Pair × Unit × Int × Int
  live := [(1, [none]), (3, [some .pair]), (12, [none]), (13, [none]), (14, [none])]
  shape := fun s => ([.ptr 1 0 0, .vec 2, .vec 0, .int .i64 s.2.2.2.2.1, .int .i64 s.2.2.2.2.2], [(false, .vec .item s.1), (true, .box [.vec 0]), (true, .vec .pair s.2.2.1)])
  get := fun v h => match v, h with
    | [.ptr 1 0 0, .vec 2, .vec 0, .int .i64 n, .int .i64 i], [(false, .vec .item xs), (true, .box [.vec 0]), (true, .vec .pair out)] => some (xs, (), out, (), n, i)
    | _, _ => none
  inv := fun s0 s => Holds (s.1 = s0.1 ∧ s.2.2.2.2.1 = s0.1.length ∧ 0 ≤ s.2.2.2.2.2 ∧ s.2.2.2.2.2 ≤ s0.1.length ∧ s.2.2.1 ++ pairsF (s0.1.drop s.2.2.2.2.2.toNat) = pairsF s0.1)
  mu := fun s => ((s.1.length : Int) - s.2.2.2.2.2).toNat
  ok := by
    intro v h s hg
    try dsimp only at hg
    split at hg <;> cases hg
    rfl

def LSimplPairs2  : LS where
  S := List Item × Unit × List Pair × Item × Unit × Int × Int × (Nat × Nat) × Int × Int
  live := [(1, [none]), (3, [some .pair]), (5, [none]), (12, [none]), (13, [none]), (14, [none]), (23, [none]), (24, [none]), (25, [none])]
  shape := fun s => ([.ptr 1 0 0, .vec 2, .ptr 3 0 0, .vec 0, .int .i64 s.2.2.2.2.2.1, .int .i64 s.2.2.2.2.2.2.1, .sl 0 s.2.2.2.2.2.2.2.1.1 s.2.2.2.2.2.2.2.1.2, .int .i64 s.2.2.2.2.2.2.2.2.1, .int .i64 s.2.2.2.2.2.2.2.2.2], [(false, .vec .item s.1), (true, .box [.vec 0]), (true, .vec .pair s.2.2.1), (true, .box [.int .i64 s.2.2.2.1.Id, .int .i64 s.2.2.2.1.Box.Low.X, .int .i64 s.2.2.2.1.Box.Low.Y, .int .i64 s.2.2.2.1.Box.High.X, .int .i64 s.2.2.2.1.Box.High.Y])])
  get := fun v h => match v, h with
    | [.ptr 1 0 0, .vec 2, .ptr 3 0 0, .vec 0, .int .i64 n, .int .i64 i, .sl 0 z_1 z_2, .int .i64 m, .int .i64 k], [(false, .vec .item xs), (true, .box [.vec 0]), (true, .vec .pair out), (true, .box [.int .i64 xI, .int .i64 xLX, .int .i64 xLY, .int .i64 xHX, .int .i64 xHY])] => some (xs, (), out, (Item.mk xI (Box.mk (Vec.mk xLX xLY) (Vec.mk xHX xHY))), (), n, i, (z_1, z_2), m, k)
    | _, _ => none
  inv := fun s0 s => Holds (s.1 = s0.1 ∧ s.2.2.2.1 = s0.2.2.2.1 ∧ s.2.2.2.2.2.1 = s0.2.2.2.2.2.1 ∧ s.2.2.2.2.2.2.1 = s0.2.2.2.2.2.2.1 ∧ s.2.2.2.2.2.2.2.1 = s0.2.2.2.2.2.2.2.1 ∧ s.2.2.2.2.2.2.2.2.1 = s0.2.2.2.2.2.2.2.2.1 ∧ 0 ≤ s.2.2.2.2.2.2.2.2.2 ∧ s.2.2.2.2.2.2.2.2.2 ≤ s0.2.2.2.2.2.2.2.2.1 ∧ s.2.2.1 ++ rowF s0.2.2.2.1 (s0.1.drop (s0.2.2.2.2.2.2.2.1.1 + s.2.2.2.2.2.2.2.2.2.toNat)) = s0.2.2.1 ++ rowF s0.2.2.2.1 (s0.1.drop (s0.2.2.2.2.2.2.2.1.1 + s0.2.2.2.2.2.2.2.2.2.toNat)))
  mu := fun s => (s.2.2.2.2.2.2.2.2.1 - s.2.2.2.2.2.2.2.2.2).toNat
  ok := by
    intro v h s hg
    try dsimp only at hg
    split at hg <;> cases hg
    rfl

def L_implPairs : Loops := fun n => match n with
  | 5 => some LSimplPairs1
  | 8 => some LSimplPairs2
  | _ => none
theorem length_broadAsk {xs : List Item} {x : Box} : (broadAsk xs x).length ≤ 24 := by
  unfold broadAsk
  cases c : itemsOk xs
  · simp
  · cases boxOk x
    · simp
    · have := itemsOk_len c
      have := length_askF x xs
      simp only [Bool.and_true, cond_true]
      omega
theorem length_broadPairs {xs : List Item} : (broadPairs xs).length ≤ 576 := by
  unfold broadPairs
  cases c : itemsOk xs
  · simp
  · have := length_sq (itemsOk_len c)
    have := length_pairsF xs
    simp only [cond_true]
    omega
end Go.Proofs.Ytmflfpedmbfhkaa.Sym
