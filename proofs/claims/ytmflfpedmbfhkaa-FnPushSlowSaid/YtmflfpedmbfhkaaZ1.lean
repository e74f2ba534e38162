/-
  The numbers of a push: how little is left of the closing.
  No condition.
-/
import Derived.Test.YtmflfpedmbfhkaaSymA
namespace Go.Proofs.Ytmflfpedmbfhkaa.Sym
set_option linter.unusedVariables false
theorem ps_comp (ma mb S ra ra' rb rb' a b q u v u' v' : Int) (hS : S = ma + mb)
    (h1 : ma * u = a - ra) (h3 : mb * v = b - rb) (k1 : ma * u' = a - q - ra') (k3 : mb * v' = b + q - rb') :
    ma * mb * (u' - v') = ma * mb * (u - v) - S * q + mb * (ra - ra') - ma * (rb - rb') := by
  grind (splits := 0)
/-- What two bodies that were pushed close with, times what they weigh. -/
theorem ps_key (M S p c ep s wx wy ex ey qx qy A B dx dy dx' dy' T T' rho : Int)
    (hs : s = wx * wx + wy * wy) (hp : S * p = c * M - ep)
    (hx : 256 * qx = p * wx - ex) (hy : 256 * qy = p * wy - ey)
    (cx : M * dx' = M * dx - S * qx + A) (cy : M * dy' = M * dy - S * qy + B)
    (hT : T = dx * wx + dy * wy) (hT' : T' = dx' * wx + dy' * wy) (hr : T = 256 * c + rho) :
    256 * (M * T') = M * (c * (65536 - s) + 256 * rho) + ep * s + S * (ex * wx + ey * wy) + 256 * (A * wx + B * wy) := by
  have a1 : M * T' = M * T - S * (qx * wx + qy * wy) + (A * wx + B * wy) := by
    have h : M * T' = (M * dx') * wx + (M * dy') * wy := by rw [hT']; grind (splits := 0)
    have g : M * T = (M * dx) * wx + (M * dy) * wy := by rw [hT]; grind (splits := 0)
    rw [h, cx, cy, g]
    grind (splits := 0)
  have a2 : 256 * (qx * wx + qy * wy) = p * s - (ex * wx + ey * wy) := by
    have h : 256 * (qx * wx + qy * wy) = (256 * qx) * wx + (256 * qy) * wy := by grind (splits := 0)
    rw [h, hx, hy, hs]
    grind (splits := 0)
  have a3 : S * (p * s) = (c * M - ep) * s := by rw [← Int.mul_assoc, hp]
  have a4 : 256 * (S * (qx * wx + qy * wy)) = S * (p * s) - S * (ex * wx + ey * wy) := by
    rw [← Int.mul_sub, ← a2]
    grind (splits := 0)
  rw [a1, Int.mul_add, Int.mul_sub, a4, a3, hr]
  grind (splits := 0)
theorem mul_pm {x y X Y : Int} (h1 : -X ≤ x) (h2 : x ≤ X) (h3 : -Y ≤ y) (h4 : y ≤ Y) : -(X * Y) ≤ x * y ∧ x * y ≤ X * Y := by
  have a := Int.mul_nonneg (show 0 ≤ X - x by omega) (show 0 ≤ Y + y by omega)
  have b := Int.mul_nonneg (show 0 ≤ X + x by omega) (show 0 ≤ Y - y by omega)
  have c := Int.mul_nonneg (show 0 ≤ X - x by omega) (show 0 ≤ Y - y by omega)
  have d := Int.mul_nonneg (show 0 ≤ X + x by omega) (show 0 ≤ Y + y by omega)
  constructor <;> grind (splits := 0)
theorem ps_rest {ma mb ra ra' rb rb' : Int} (hma : 1 ≤ ma) (hmb : 1 ≤ mb) (a1 : -(ma - 1) ≤ ra) (a2 : ra ≤ ma - 1) (b1 : -(ma - 1) ≤ ra') (b2 : ra' ≤ ma - 1)
    (c1 : -(mb - 1) ≤ rb) (c2 : rb ≤ mb - 1) (d1 : -(mb - 1) ≤ rb') (d2 : rb' ≤ mb - 1) :
    -(4 * (ma * mb) - 2 * (ma + mb)) ≤ mb * (ra - ra') - ma * (rb - rb') ∧ mb * (ra - ra') - ma * (rb - rb') ≤ 4 * (ma * mb) - 2 * (ma + mb) := by
  have x := mul_pm (x := mb) (X := mb) (y := ra - ra') (Y := 2 * (ma - 1)) (by omega) (by omega) (by omega) (by omega)
  have y := mul_pm (x := ma) (X := ma) (y := rb - rb') (Y := 2 * (mb - 1)) (by omega) (by omega) (by omega) (by omega)
  constructor <;> grind (splits := 0)
/-- What is left of the closing behind a push. -/
theorem ps_bound {M S c ep s wx wy Lx Ly ex ey A B T' rho : Int} (hM : 1 ≤ M) (hS : 1 ≤ S) (hc : 0 ≤ c)
    (k : 256 * (M * T') = M * (c * (65536 - s) + 256 * rho) + ep * s + S * (ex * wx + ey * wy) + 256 * (A * wx + B * wy))
    (s0 : 62500 ≤ s) (s1 : s ≤ 66564) (r0 : 0 ≤ rho) (r1 : rho ≤ 255) (p0 : 0 ≤ ep) (p1 : ep ≤ S)
    (x0 : -Lx ≤ wx) (x1 : wx ≤ Lx) (y0 : -Ly ≤ wy) (y1 : wy ≤ Ly) (hL : Lx + Ly ≤ 364) (sL : s ≤ 256 * (Lx + Ly))
    (ex0 : -255 ≤ ex) (ex1 : ex ≤ 255) (ey0 : -255 ≤ ey) (ey1 : ey ≤ 255)
    (A0 : -(4 * M - 2 * S) ≤ A) (A1 : A ≤ 4 * M - 2 * S) (B0 : -(4 * M - 2 * S) ≤ B) (B1 : B ≤ 4 * M - 2 * S) :
    256 * T' ≤ 3036 * c + 438016 ∧ -(3036 * c + 438016) ≤ 256 * T' := by
  have e1 := mul_pm ex0 ex1 x0 x1
  have e2 := mul_pm ey0 ey1 y0 y1
  have a1 := mul_pm A0 A1 x0 x1
  have a2 := mul_pm B0 B1 y0 y1
  have q1 : c * (65536 - s) ≤ 3036 * c := by
    have := Int.mul_le_mul_of_nonneg_left (show 65536 - s ≤ 3036 by omega) hc
    omega
  have q2 : -(3036 * c) ≤ c * (65536 - s) := by
    have := Int.mul_le_mul_of_nonneg_left (show -3036 ≤ 65536 - s by omega) hc
    omega
  have w1 := Int.mul_le_mul_of_nonneg_left (show c * (65536 - s) + 256 * rho ≤ 3036 * c + 65280 by omega) (show 0 ≤ M by omega)
  have w2 := Int.mul_le_mul_of_nonneg_left (show -(3036 * c) ≤ c * (65536 - s) + 256 * rho by omega) (show 0 ≤ M by omega)
  have t1 : ep * s ≤ S * (256 * (Lx + Ly)) := Int.mul_le_mul p1 sL (by omega) (by omega)
  have t2 : 0 ≤ ep * s := Int.mul_nonneg p0 (by omega)
  have u1 := Int.mul_le_mul_of_nonneg_left (show ex * wx + ey * wy ≤ 255 * (Lx + Ly) by omega) (show 0 ≤ S by omega)
  have u2 := Int.mul_le_mul_of_nonneg_left (show -(255 * (Lx + Ly)) ≤ ex * wx + ey * wy by omega) (show 0 ≤ S by omega)
  have v1 : M * (Lx + Ly) ≤ M * 364 := Int.mul_le_mul_of_nonneg_left hL (by omega)
  have v2 : 0 ≤ S * (Lx + Ly) := Int.mul_nonneg (by omega) (by omega)
  have up : M * (256 * T') ≤ M * (3036 * c + 438016) := by grind (splits := 0)
  have lo : M * (-(3036 * c + 438016)) ≤ M * (256 * T') := by grind (splits := 0)
  exact ⟨Int.le_of_mul_le_mul_left up (by omega), Int.le_of_mul_le_mul_left lo (by omega)⟩
/-- The same where the push was cut at its limit: the way is all but straight, and the closing great. -/
theorem ps_bound2 {M S c ep s wx wy ex ey A B T' rho : Int} (hM : 1 ≤ M) (hS : 1 ≤ S) (hc : 0 ≤ c)
    (k : 256 * (M * T') = M * (c * (65536 - s) + 256 * rho) + ep * s + S * (ex * wx + ey * wy) + 256 * (A * wx + B * wy))
    (s0 : 65536 ≤ s) (s1 : s ≤ 66564) (r0 : 0 ≤ rho) (r1 : rho ≤ 255) (p0 : 0 ≤ ep) (p1 : ep ≤ S) (big : 20000000 * S ≤ M * c)
    (x0 : -256 ≤ wx) (x1 : wx ≤ 256) (y0 : -32 ≤ wy) (y1 : wy ≤ 32)
    (ex0 : -25600255 ≤ ex) (ex1 : ex ≤ 25600255) (ey0 : -255 ≤ ey) (ey1 : ey ≤ 255)
    (A0 : -(4 * M - 2 * S) ≤ A) (A1 : A ≤ 4 * M - 2 * S) (B0 : -(4 * M - 2 * S) ≤ B) (B1 : B ≤ 4 * M - 2 * S) :
    256 * T' ≤ 3036 * c + 438016 ∧ -(3036 * c + 438016) ≤ 256 * T' := by
  have e1 := mul_pm ex0 ex1 x0 x1
  have e2 := mul_pm ey0 ey1 y0 y1
  have a1 := mul_pm A0 A1 x0 x1
  have a2 := mul_pm B0 B1 y0 y1
  have q1 : c * (65536 - s) ≤ 0 := by
    have := Int.mul_le_mul_of_nonneg_left (show 65536 - s ≤ 0 by omega) hc
    omega
  have q2 : -(1028 * c) ≤ c * (65536 - s) := by
    have := Int.mul_le_mul_of_nonneg_left (show -1028 ≤ 65536 - s by omega) hc
    omega
  have w1 := Int.mul_le_mul_of_nonneg_left (show c * (65536 - s) + 256 * rho ≤ 65280 by omega) (show 0 ≤ M by omega)
  have w2 := Int.mul_le_mul_of_nonneg_left (show -(1028 * c) ≤ c * (65536 - s) + 256 * rho by omega) (show 0 ≤ M by omega)
  have t1 : ep * s ≤ S * 66564 := Int.mul_le_mul p1 s1 (by omega) (by omega)
  have t2 : 0 ≤ ep * s := Int.mul_nonneg p0 (by omega)
  have u1 := Int.mul_le_mul_of_nonneg_left (show ex * wx + ey * wy ≤ 6553673440 by omega) (show 0 ≤ S by omega)
  have u2 := Int.mul_le_mul_of_nonneg_left (show -6553673440 ≤ ex * wx + ey * wy by omega) (show 0 ≤ S by omega)
  have up : M * (256 * T') ≤ M * (3036 * c + 438016) := by grind (splits := 0)
  have lo : M * (-(3036 * c + 438016)) ≤ M * (256 * T') := by grind (splits := 0)
  exact ⟨Int.le_of_mul_le_mul_left up (by omega), Int.le_of_mul_le_mul_left lo (by omega)⟩
/-- Where the push is cut: along one number alone. -/
theorem ps_cut {p Lx Ly : Int} (p0 : 0 ≤ p) (l0 : 0 ≤ Lx) (l1 : Lx ≤ 256) (m0 : 0 ≤ Ly) (m1 : Ly ≤ 256) (hs : Lx * Lx + Ly * Ly ≤ 66564) (hp : 256 * p ≤ 20000000 * Lx + 800000 * Ly) (h : 256 * 20000000 < p * Lx) : Lx = 256 ∧ Ly ≤ 32 := by
  have a1 : 256 * (p * Lx) ≤ (20000000 * Lx + 800000 * Ly) * Lx := by
    have := Int.mul_le_mul_of_nonneg_right hp l0
    grind (splits := 0)
  have a2 : 25 * 65536 ≤ 25 * (Lx * Lx) + Lx * Ly := by grind (splits := 0)
  have hx : Lx = 256 := by
    refine Int.le_antisymm l1 (Int.not_lt.1 fun hlt => ?_)
    have b1 : Lx * Lx ≤ 255 * 255 := Int.mul_le_mul (by omega) (by omega) l0 (by omega)
    have b2 : Lx * Ly ≤ 255 * Ly := Int.mul_le_mul_of_nonneg_right (by omega) m0
    have b3 : 25 * (65536 - Lx * Lx) ≤ 255 * Ly := by omega
    have b4 := Int.mul_le_mul b3 b3 (by omega) (by omega)
    have b5 : Ly * Ly ≤ 1028 + (65536 - Lx * Lx) := by omega
    generalize hz : 65536 - Lx * Lx = z at *
    have b6 : 511 * z ≤ z * z := Int.mul_le_mul_of_nonneg_right (by omega) (by omega)
    grind (splits := 0)
  refine ⟨hx, Int.not_lt.1 fun hlt => ?_⟩
  have b1 : 33 * 33 ≤ Ly * Ly := Int.mul_le_mul (by omega) (by omega) (by omega) (by omega)
  rw [hx] at hs
  omega
theorem sq_nonneg1 (x : Int) : 0 ≤ x * x := by
  by_cases h : 0 ≤ x
  · exact Int.mul_nonneg h h
  · have := Int.mul_nonneg (show 0 ≤ -x by omega) (show 0 ≤ -x by omega)
    rwa [Int.neg_mul_neg] at this
theorem ps_uncut {p Lx Ly : Int} (p0 : 0 ≤ p) (l0 : 0 ≤ Lx) (l1 : Lx ≤ 256) (m0 : 0 ≤ Ly) (m1 : Ly ≤ 256) (hs : Lx * Lx + Ly * Ly ≤ 66564) (hp : 256 * p ≤ 20000000 * Lx + 800000 * Ly) : p * Ly ≤ 256 * 20000000 := by
  refine Int.not_lt.1 fun h => ?_
  have a1 : 256 * (p * Ly) ≤ (20000000 * Lx + 800000 * Ly) * Ly := by
    have := Int.mul_le_mul_of_nonneg_right hp m0
    grind (splits := 0)
  have d := sq_nonneg1 (Lx - Ly)
  have e : Ly * Ly ≤ 256 * 256 := Int.mul_le_mul m1 m1 m0 (by omega)
  grind (splits := 0)
end Go.Proofs.Ytmflfpedmbfhkaa.Sym
