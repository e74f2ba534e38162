/-
  Lengths and how two shapes touch.
  No condition.
-/
import Derived.Test.YtdhbkcaaijgocaaG3
namespace Go.Proofs.Ytdhbkcaaijgocaa.Sym
open Go
set_option linter.unusedVariables false
set_option linter.unusedSimpArgs false
set_option maxRecDepth 100000

theorem sq_le {x y : Int} (h0 : 0 ≤ x) (h : x ≤ y) : x * x ≤ y * y := Int.mul_le_mul h h h0 (by omega)
theorem tdiv256 (n : Int) : (0 ≤ n → n.tdiv 256 = n / 256) ∧ (n ≤ 0 → n.tdiv 256 = -(-n / 256)) := by
  refine ⟨fun h => Int.tdiv_eq_ediv_of_nonneg h, fun h => ?_⟩
  have := Int.tdiv_eq_ediv_of_nonneg (b := 256) (show 0 ≤ -n by omega)
  rw [Int.neg_tdiv] at this
  omega
def IsRoot (n r : Int) : Prop := 0 ≤ r ∧ r * r ≤ n ∧ n < (r + 1) * (r + 1)
theorem isRoot_one {n r s : Int} (h : IsRoot n r) (k : IsRoot n s) : r = s := by
  obtain ⟨a1, a2, a3⟩ := h
  obtain ⟨b1, b2, b3⟩ := k
  rcases Int.lt_trichotomy r s with c | c | c
  · have := sq_le (x := r + 1) (y := s) (by omega) (by omega)
    omega
  · exact c
  · have := sq_le (x := s + 1) (y := r) (by omega) (by omega)
    omega
open Classical in
noncomputable def rootI (n : Int) : Int := if h : ∃ r, IsRoot n r then Classical.choose h else 0
theorem rootI_eq {n r : Int} (h : IsRoot n r) : rootI n = r := by
  unfold rootI
  have hx : ∃ r, IsRoot n r := ⟨r, h⟩
  rw [dif_pos hx]
  exact isRoot_one (Classical.choose_spec hx) h
def LSl1Root1  : LS where
  S := Int × Int × Int
  live := [(0, [none]), (3, [none]), (4, [none])]
  shape := fun s => ([.int .i64 s.1, .int .i64 s.2.1, .int .i64 s.2.2], [])
  get := fun v h => match v, h with
    | [.int .i64 n, .int .i64 low, .int .i64 high], [] => some (n, low, high)
    | _, _ => none
  inv := fun s0 s => Holds (s.1 = s0.1 ∧ s.2.1 = 0 ∧ 1 ≤ s.2.2 ∧ s.2.2 ≤ 2828427124)
  mu := fun s => (2828427130 - s.2.2).toNat
  ok := by
    intro v h s hg
    try dsimp only at hg
    split at hg <;> cases hg
    rfl

def LSl1Root2  : LS where
  S := Int × Int × Int
  live := [(0, [none]), (3, [none]), (4, [none])]
  shape := fun s => ([.int .i64 s.1, .int .i64 s.2.1, .int .i64 s.2.2], [])
  get := fun v h => match v, h with
    | [.int .i64 n, .int .i64 low, .int .i64 high], [] => some (n, low, high)
    | _, _ => none
  inv := fun s0 s => Holds (s.1 = s0.1 ∧ 0 ≤ s.2.1 ∧ s.2.1 < s.2.2 ∧ s.2.2 ≤ 2828427124 ∧ s.2.1 * s.2.1 ≤ s0.1 ∧ s0.1 < s.2.2 * s.2.2)
  mu := fun s => (s.2.2 - s.2.1).toNat
  ok := by
    intro v h s hg
    try dsimp only at hg
    split at hg <;> cases hg
    rfl

def L_l1Root : Loops := fun n => match n with
  | 3 => some LSl1Root1
  | 5 => some LSl1Root2
  | _ => none
theorem clampV_le (v : Vec) : (-1000000000 ≤ (clampV 1000000000 v).X ∧ (clampV 1000000000 v).X ≤ 1000000000) ∧ (-1000000000 ≤ (clampV 1000000000 v).Y ∧ (clampV 1000000000 v).Y ≤ 1000000000) := by
  simp only [clampV, clampTo]
  omega
theorem sq_abs {x m : Int} (h0 : -m ≤ x) (h1 : x ≤ m) : 0 ≤ x * x ∧ x * x ≤ m * m := by
  rcases Int.le_total 0 x with h | h
  · exact ⟨Int.mul_nonneg h h, sq_le h h1⟩
  · have := sq_le (x := -x) (y := m) (by omega) (by omega)
    rw [Int.neg_mul_neg] at this
    have h2 := Int.mul_nonneg (show 0 ≤ -x by omega) (show 0 ≤ -x by omega)
    rw [Int.neg_mul_neg] at h2
    exact ⟨h2, this⟩
theorem square_clamp (v : Vec) : square (clampV 1000000000 v) = (clampV 1000000000 v).X * (clampV 1000000000 v).X + (clampV 1000000000 v).Y * (clampV 1000000000 v).Y ∧ 0 ≤ square (clampV 1000000000 v) ∧ square (clampV 1000000000 v) ≤ 2000000000000000000 := by
  obtain ⟨⟨a1, a2⟩, b1, b2⟩ := clampV_le v
  have h1 := sq_abs a1 a2
  have h2 := sq_abs b1 b2
  unfold square
  rw [show W ((clampV 1000000000 v).X * (clampV 1000000000 v).X) = _ from wrap_small (by omega) (by omega), show W ((clampV 1000000000 v).Y * (clampV 1000000000 v).Y) = _ from wrap_small (by omega) (by omega), show W (_ + _) = _ from wrap_small (by omega) (by omega)]
  omega
noncomputable def vecLen (a : Vec) : Int := clampTo 1000000000 (rootI (square (clampV 1000000000 a)))
noncomputable def vecUnit (a : Vec) : Vec :=
  if vecLen (clampV 1000000000 a) = 0 then ⟨0, 256⟩
  else ⟨W ((W ((clampV 1000000000 a).X * 256)).tdiv (vecLen (clampV 1000000000 a))), W ((W ((clampV 1000000000 a).Y * 256)).tdiv (vecLen (clampV 1000000000 a)))⟩

/-! ### Touching -/
noncomputable def roundsF (d : Vec) (both : Int) : Hit × Bool :=
  if square d > W (both * both) then (⟨⟨0, 0⟩, 0⟩, false) else (⟨vecUnit d, W (both - vecLen d)⟩, true)
def less2 (best h : Hit) : Hit := bif decide (h.Deep < best.Deep) then h else best
def boxesF (a b : Box) : Hit × Bool :=
  bif boxMeets a b then (less2 (less2 (less2 ⟨⟨256, 0⟩, W (a.High.X - b.Low.X)⟩ ⟨⟨-256, 0⟩, W (b.High.X - a.Low.X)⟩) ⟨⟨0, 256⟩, W (a.High.Y - b.Low.Y)⟩) ⟨⟨0, -256⟩, W (b.High.Y - a.Low.Y)⟩, true)
  else (⟨⟨0, 0⟩, 0⟩, false)
def nearV (b : Box) (p : Vec) : Vec := ⟨max b.Low.X (min p.X b.High.X), max b.Low.Y (min p.Y b.High.Y)⟩
noncomputable def mixedF (b : Box) (p : Vec) (w : Int) : Hit × Bool :=
  bif hasPoint b p then (⟨(boxesF b ⟨p, p⟩).1.Way, W ((boxesF b ⟨p, p⟩).1.Deep + w)⟩, (boxesF b ⟨p, p⟩).2) else roundsF (minus p (nearV b p)) w
def turnH (h : Hit) : Hit := ⟨⟨W (0 - h.Way.X), W (0 - h.Way.Y)⟩, h.Deep⟩
noncomputable def touchF (a : Shape) (p : Vec) (b : Shape) (q : Vec) : Hit × Bool :=
  bif a.Kind == 1 && b.Kind == 1 then roundsF (minus q p) (W (a.Wide + b.Wide))
  else bif a.Kind == 2 && b.Kind == 2 then boxesF (bounds a p) (bounds b q)
  else bif a.Kind == 2 then mixedF (bounds a p) q b.Wide
  else bif (mixedF (bounds b q) p a.Wide).2 then (turnH (mixedF (bounds b q) p a.Wide).1, true) else (⟨⟨0, 0⟩, 0⟩, false)
theorem shapeOk_le {s : Shape} (h : shapeOk s = true) : 1 ≤ s.Wide ∧ s.Wide ≤ 25600 ∧ (s.Kind = 1 ∨ s.Kind = 2) ∧ (s.Kind = 2 → 1 ≤ s.High ∧ s.High ≤ 25600) := by
  unfold shapeOk at h
  split at h
  · rename_i k
    simp only [isIn, Bool.and_eq_true, decide_eq_true_eq] at h
    exact ⟨h.1.1, h.1.2, .inl k, fun e => by omega⟩
  · split at h
    · rename_i k
      simp only [isIn, Bool.and_eq_true, decide_eq_true_eq] at h
      exact ⟨h.1.1, h.1.2, .inr k, fun _ => h.2⟩
    · cases h
theorem placeOk_le {p : Vec} (h : placeOk p = true) : -2560000 ≤ p.X ∧ p.X ≤ 2560000 ∧ -2560000 ≤ p.Y ∧ p.Y ≤ 2560000 := by
  simp only [placeOk, isIn, Bool.and_eq_true, decide_eq_true_eq] at h
  omega
/-- How high a shape is on each side of its middle. -/
def highOf (s : Shape) : Int := bif s.Kind == 1 then s.Wide else s.High
theorem bounds_eq {s : Shape} {p : Vec} (h : shapeOk s = true) (hp : placeOk p = true) : bounds s p = ⟨⟨p.X - s.Wide, p.Y - highOf s⟩, ⟨p.X + s.Wide, p.Y + highOf s⟩⟩ ∧ 1 ≤ highOf s ∧ highOf s ≤ 25600 := by
  obtain ⟨h1, h2, h3, h4⟩ := shapeOk_le h
  obtain ⟨p1, p2, p3, p4⟩ := placeOk_le hp
  unfold bounds highOf
  rcases h3 with k | k
  · simp only [k, beq_self_eq_true, cond_true]
    refine ⟨?_, by omega, by omega⟩
    rw [show W (p.X - s.Wide) = _ from wrap_small (by omega) (by omega), show W (p.Y - s.Wide) = _ from wrap_small (by omega) (by omega), show W (p.X + s.Wide) = _ from wrap_small (by omega) (by omega), show W (p.Y + s.Wide) = _ from wrap_small (by omega) (by omega)]
  · have h4 := h4 k
    have e : ((2 : Int) == 1) = false := rfl
    simp only [k, e, cond_false]
    refine ⟨?_, by omega, by omega⟩
    rw [show W (p.X - s.Wide) = _ from wrap_small (by omega) (by omega), show W (p.Y - s.High) = _ from wrap_small (by omega) (by omega), show W (p.X + s.Wide) = _ from wrap_small (by omega) (by omega), show W (p.Y + s.High) = _ from wrap_small (by omega) (by omega)]
theorem bounds_le {s : Shape} {p : Vec} (h : shapeOk s = true) (hp : placeOk p = true) : (bounds s p).Low.X ≤ (bounds s p).High.X ∧ (bounds s p).Low.Y ≤ (bounds s p).High.Y := by
  obtain ⟨e, h1, h2⟩ := bounds_eq h hp
  have := shapeOk_le h
  rw [e]
  simp only
  omega
noncomputable def touchAll (a : Shape) (p : Vec) (b : Shape) (q : Vec) : Hit × Bool :=
  bif shapeOk a && shapeOk b && placeOk p && placeOk q then touchF a p b q else (⟨⟨0, 0⟩, 0⟩, false)

/-! ### Ways are whole numbers of the machine -/
def inR (n : Int) : Prop := -9223372036854775808 ≤ n ∧ n ≤ 9223372036854775807
def wayR (v : Vec) : Prop := inR v.X ∧ inR v.Y
theorem W_R (n : Int) : inR (W n) := by
  simp only [inR, W, IntKind.wrap_i64]
  omega
theorem zero_R : wayR ⟨0, 0⟩ := by simp [wayR, inR]
theorem vecUnit_R (v : Vec) : wayR (vecUnit v) := by
  unfold vecUnit
  split
  · simp [wayR, inR]
  · exact ⟨W_R _, W_R _⟩
theorem rounds_R (d : Vec) (m : Int) : wayR (roundsF d m).1.Way := by
  unfold roundsF
  split
  · exact zero_R
  · exact vecUnit_R _
theorem less2_R {a b : Hit} (ha : wayR a.Way) (hb : wayR b.Way) : wayR (less2 a b).Way := by
  unfold less2
  cases decide (b.Deep < a.Deep) with
  | true => exact hb
  | false => exact ha
theorem boxes_R (a b : Box) : wayR (boxesF a b).1.Way := by
  unfold boxesF
  cases boxMeets a b with
  | true => exact less2_R (less2_R (less2_R (by simp [wayR, inR]) (by simp [wayR, inR])) (by simp [wayR, inR])) (by simp [wayR, inR])
  | false => exact zero_R
theorem mixed_R (b : Box) (p : Vec) (w : Int) : wayR (mixedF b p w).1.Way := by
  unfold mixedF
  cases hasPoint b p with
  | true => exact boxes_R _ _
  | false => exact rounds_R _ _
theorem touch_R (a : Shape) (p : Vec) (b : Shape) (q : Vec) : wayR (touchAll a p b q).1.Way := by
  unfold touchAll
  cases shapeOk a && shapeOk b && placeOk p && placeOk q with
  | false => exact zero_R
  | true =>
    simp only [cond_true]
    unfold touchF
    cases a.Kind == 1 && b.Kind == 1 with
    | true => exact rounds_R _ _
    | false =>
      simp only [cond_false]
      cases a.Kind == 2 && b.Kind == 2 with
      | true => exact boxes_R _ _
      | false =>
        simp only [cond_false]
        cases a.Kind == 2 with
        | true => exact mixed_R _ _ _
        | false =>
          simp only [cond_false]
          cases (mixedF (bounds b q) p a.Wide).2 with
          | true => exact ⟨W_R _, W_R _⟩
          | false => exact zero_R
end Go.Proofs.Ytdhbkcaaijgocaa.Sym
