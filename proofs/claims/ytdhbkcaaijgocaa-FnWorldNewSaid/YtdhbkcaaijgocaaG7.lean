/-
  Worlds: what is at a place, what is in a box.
  No condition.
-/
import Derived.Test.YtdhbkcaaijgocaaG6
namespace Go.Proofs.Ytdhbkcaaijgocaa.Sym
open Go
set_option linter.unusedVariables false
set_option linter.unusedSimpArgs false
set_option maxRecDepth 100000

def idsF (f : Body → Bool) (xs : List Body) : List Int := (xs.filter f).map (·.Id)
theorem length_idsF (f : Body → Bool) (xs : List Body) : (idsF f xs).length ≤ xs.length := by
  simp only [idsF, List.length_map]
  exact List.length_filter_le _ _
theorem idsF_drop {f : Body → Bool} {xs : List Body} {i : Nat} (h : i < xs.length) : idsF f (xs.drop i) = (bif f (Ty.ix .body xs i) then [(Ty.ix .body xs i).Id] else []) ++ idsF f (xs.drop (i + 1)) := by
  rw [drop_ix (T := .body) h]
  cases c : f (Ty.ix .body xs i) <;> simp [idsF, c]
theorem idsF_congr {f g : Body → Bool} {xs : List Body} (h : ∀ k, k < xs.length → f (Ty.ix .body xs k) = g (Ty.ix .body xs k)) : idsF f xs = idsF g xs := by
  unfold idsF
  congr 1
  refine List.filter_congr fun x hx => ?_
  obtain ⟨i, hi, e⟩ := List.mem_iff_getElem.1 hx
  have := h i hi
  rwa [ix_eq (T := .body) (List.getElem?_eq_getElem hi), e] at this
theorem worldOk_bodies {t p : Int} {xs : List Body} {ps : List Pair} (h : worldOk t p xs ps = true) : bodiesOk xs = true := by
  simp only [worldOk, Bool.and_eq_true] at h
  exact h.1.2
theorem bodyOk_shape {b : Body} (h : bodyOk b = true) : shapeOk b.Shape = true ∧ placeOk b.At = true := by
  simp only [bodyOk, Bool.and_eq_true] at h
  simp only [h, and_self]
/-! ### At a place -/
def pointB (q : Vec) (y : Body) : Bool := shapeHas y.Shape y.At q
def pointA (q : Vec) (y : Body) : Bool := shapeOk y.Shape && placeOk y.At && placeOk q && shapeHas y.Shape y.At q
theorem idsAt_same {t p : Int} {xs : List Body} {ps : List Pair} {q : Vec} (h : worldOk t p xs ps = true) (hq : placeOk q = true) : idsF (pointA q) xs = idsF (pointB q) xs :=
  idsF_congr fun k hk => by
    obtain ⟨h1, h2⟩ := bodyOk_shape (bodiesOk_each (worldOk_bodies h) hk)
    simp [pointA, pointB, h1, h2, hq]
def worldAt (t p : Int) (xs : List Body) (ps : List Pair) (q : Vec) : List Int := bif worldOk t p xs ps && placeOk q then idsF (pointB q) xs else []
theorem length_worldAt (t p : Int) (xs : List Body) (ps : List Pair) (q : Vec) : (worldAt t p xs ps q).length ≤ xs.length := by
  unfold worldAt
  have := length_idsF (pointB q) xs
  cases worldOk t p xs ps && placeOk q with
  | true => exact this
  | false => simp
def LSspecAt  : LS where
  S := List Body × List Pair × (Int × Int) × Vec × List Int × Int
  live := [(2, [none]), (3, [none]), (5, [some .int]), (6, [none])]
  shape := fun s => ([.ptr 2 0 0, .ptr 3 0 0, .vec 4, .int .i64 s.2.2.2.2.2], [(false, .vec .body s.1), (false, .vec .pair s.2.1), (true, .box [.int .i64 s.2.2.1.1, .int .i64 s.2.2.1.2, .vec 0, .vec 1]), (true, .box [.int .i64 s.2.2.2.1.X, .int .i64 s.2.2.2.1.Y]), (true, .vec .int s.2.2.2.2.1)])
  get := fun v h => match v, h with
    | [.ptr 2 0 0, .ptr 3 0 0, .vec 4, .int .i64 i], [(false, .vec .body xs), (false, .vec .pair ps), (true, .box [.int .i64 w_0, .int .i64 w_1, .vec 0, .vec 1]), (true, .box [.int .i64 qX, .int .i64 qY]), (true, .vec .int out)] => some (xs, ps, (w_0, w_1), (Vec.mk qX qY), out, i)
    | _, _ => none
  inv := fun s0 s => Holds (s.1 = s0.1 ∧ s.2.1 = s0.2.1 ∧ s.2.2.1 = s0.2.2.1 ∧ s.2.2.2.1 = s0.2.2.2.1 ∧ 0 ≤ s.2.2.2.2.2 ∧ s.2.2.2.2.2 ≤ s0.1.length ∧ s.2.2.2.2.1 ++ idsF (pointB s0.2.2.2.1) (s0.1.drop s.2.2.2.2.2.toNat) = idsF (pointB s0.2.2.2.1) s0.1)
  mu := fun s => ((s.1.length : Int) - s.2.2.2.2.2).toNat
  ok := by
    intro v h s hg
    try dsimp only at hg
    split at hg <;> cases hg
    rfl

def L_specAt : Loops := fun n => match n with
  | 5 => some LSspecAt
  | _ => none
/-! ### In a box -/
def inB (b : Box) (y : Body) : Bool := boxMeets (bounds y.Shape y.At) b
theorem idsIn_same {t p : Int} {xs : List Body} {ps : List Pair} {q : Box} (h : worldOk t p xs ps = true) (hq : boxOk q = true) : idsF (inB q) xs = idsF (inB q) xs := rfl
def worldIn (t p : Int) (xs : List Body) (ps : List Pair) (q : Box) : List Int := bif worldOk t p xs ps && boxOk q then idsF (inB q) xs else []
theorem length_worldIn (t p : Int) (xs : List Body) (ps : List Pair) (q : Box) : (worldIn t p xs ps q).length ≤ xs.length := by
  unfold worldIn
  have := length_idsF (inB q) xs
  cases worldOk t p xs ps && boxOk q with
  | true => exact this
  | false => simp
def LSspecIn  : LS where
  S := List Body × List Pair × (Int × Int) × Box × List Int × Int
  live := [(2, [none]), (3, [none]), (5, [some .int]), (6, [none])]
  shape := fun s => ([.ptr 2 0 0, .ptr 3 0 0, .vec 4, .int .i64 s.2.2.2.2.2], [(false, .vec .body s.1), (false, .vec .pair s.2.1), (true, .box [.int .i64 s.2.2.1.1, .int .i64 s.2.2.1.2, .vec 0, .vec 1]), (true, .box [.int .i64 s.2.2.2.1.Low.X, .int .i64 s.2.2.2.1.Low.Y, .int .i64 s.2.2.2.1.High.X, .int .i64 s.2.2.2.1.High.Y]), (true, .vec .int s.2.2.2.2.1)])
  get := fun v h => match v, h with
    | [.ptr 2 0 0, .ptr 3 0 0, .vec 4, .int .i64 i], [(false, .vec .body xs), (false, .vec .pair ps), (true, .box [.int .i64 w_0, .int .i64 w_1, .vec 0, .vec 1]), (true, .box [.int .i64 qLX, .int .i64 qLY, .int .i64 qHX, .int .i64 qHY]), (true, .vec .int out)] => some (xs, ps, (w_0, w_1), (Box.mk (Vec.mk qLX qLY) (Vec.mk qHX qHY)), out, i)
    | _, _ => none
  inv := fun s0 s => Holds (s.1 = s0.1 ∧ s.2.1 = s0.2.1 ∧ s.2.2.1 = s0.2.2.1 ∧ s.2.2.2.1 = s0.2.2.2.1 ∧ 0 ≤ s.2.2.2.2.2 ∧ s.2.2.2.2.2 ≤ s0.1.length ∧ s.2.2.2.2.1 ++ idsF (inB s0.2.2.2.1) (s0.1.drop s.2.2.2.2.2.toNat) = idsF (inB s0.2.2.2.1) s0.1)
  mu := fun s => ((s.1.length : Int) - s.2.2.2.2.2).toNat
  ok := by
    intro v h s hg
    try dsimp only at hg
    split at hg <;> cases hg
    rfl

def L_specIn : Loops := fun n => match n with
  | 5 => some LSspecIn
  | _ => none
end Go.Proofs.Ytdhbkcaaijgocaa.Sym
