/-
  A push between two bodies that do not rub: the law.
  No condition.
-/
import Derived.Test.YtmflfpedmbfhkaaZ2
namespace Go.Proofs.Ytmflfpedmbfhkaa.Sym
open Go
set_option linter.unusedVariables false
set_option linter.unusedSimpArgs false
set_option maxRecDepth 100000
theorem size_of (x : Int) (h0 : -256 ≤ x) (h1 : x ≤ 256) : ∃ L, 0 ≤ L ∧ L ≤ 256 ∧ -L ≤ x ∧ x ≤ L ∧ L * L = x * x ∧ (x = L ∨ x = -L) := by
  by_cases h : 0 ≤ x
  · exact ⟨x, by omega, by omega, by omega, by omega, rfl, .inl rfl⟩
  · exact ⟨-x, by omega, by omega, by omega, by omega, Int.neg_mul_neg .., .inr (by omega)⟩
/-- One number of a push: what it is but for a rest, cut at its limit. -/
theorem push_num {p x L : Int} (p0 : 0 ≤ p) (l0 : 0 ≤ L) (hx : x = L ∨ x = -L) (small : p * L ≤ 256 * 20000000) :
    ∃ e, 256 * clampTo 20000000 ((p * x).tdiv 256) = p * x - e ∧ -255 ≤ e ∧ e ≤ 255 := by
  obtain ⟨r, h1, h2, h3⟩ := tdiv_rem (p * x) (show (1 : Int) ≤ 256 by omega)
  have hp : p * x = p * L ∨ p * x = -(p * L) := by
    rcases hx with h | h
    · rw [h]; exact .inl rfl
    · rw [h, Int.mul_neg]; exact .inr rfl
  have h0 : 0 ≤ p * L := Int.mul_nonneg p0 l0
  have t := tdiv_in (D := p * x) (m := 256) (B := 256 * 20000000) (by omega) (by omega) (by omega)
  rw [clampTo_in (by omega) (by omega)]
  exact ⟨r, h1, by omega, by omega⟩
theorem push_num2 {p x : Int} (hx : x = 256 ∨ x = -256) (p0 : 0 ≤ p) (hp : 256 * p ≤ 20000000 * 256 + 800000 * 32) :
    ∃ e, 256 * clampTo 20000000 ((p * x).tdiv 256) = p * x - e ∧ -25600255 ≤ e ∧ e ≤ 25600255 := by
  obtain ⟨r, h1, h2, h3⟩ := tdiv_rem (p * x) (show (1 : Int) ≤ 256 by omega)
  have hp : p * x = 256 * p ∨ p * x = -(256 * p) := by
    rcases hx with h | h
    · rw [h]; exact .inl (by omega)
    · rw [h]; exact .inr (by omega)
  refine ⟨p * x - 256 * clampTo 20000000 ((p * x).tdiv 256), by omega, ?_, ?_⟩ <;> unfold clampTo <;> omega
/-- All of it, in numbers: the closing behind a push is small. -/
theorem ps_all {M S p c ep s wx wy A B dx dy dx' dy' T T' rho : Int} (hM : 1 ≤ M) (hS : 1 ≤ S) (hc : 1 ≤ c) (p0 : 0 ≤ p)
    (x0 : -256 ≤ wx) (x1 : wx ≤ 256) (y0 : -256 ≤ wy) (y1 : wy ≤ 256)
    (hs : s = wx * wx + wy * wy) (s0 : 62500 ≤ s) (s1 : s ≤ 66564) (hp : S * p = c * M - ep) (e0 : 0 ≤ ep) (e1 : ep ≤ S)
    (cx : M * dx' = M * dx - S * clampTo 20000000 ((p * wx).tdiv 256) + A) (cy : M * dy' = M * dy - S * clampTo 20000000 ((p * wy).tdiv 256) + B)
    (dx0 : -(S * 20000000) ≤ M * dx) (dx1 : M * dx ≤ S * 20000000) (dy0 : -(S * 800000) ≤ M * dy) (dy1 : M * dy ≤ S * 800000)
    (hT : T = dx * wx + dy * wy) (hT' : T' = dx' * wx + dy' * wy) (hr : T = 256 * c + rho) (r0 : 0 ≤ rho) (r1 : rho ≤ 255)
    (A0 : -(4 * M - 2 * S) ≤ A) (A1 : A ≤ 4 * M - 2 * S) (B0 : -(4 * M - 2 * S) ≤ B) (B1 : B ≤ 4 * M - 2 * S) :
    -(8 + c / 16) ≤ T'.tdiv 256 ∧ T'.tdiv 256 ≤ 8 + c / 16 := by
  obtain ⟨Lx, lx0, lx1, lx2, lx3, lx4, lx5⟩ := size_of wx x0 x1
  obtain ⟨Ly, ly0, ly1, ly2, ly3, ly4, ly5⟩ := size_of wy y0 y1
  have hs2 : Lx * Lx + Ly * Ly = s := by omega
  have sL : s ≤ 256 * (Lx + Ly) := by
    have a := Int.mul_le_mul_of_nonneg_right lx1 lx0
    have b := Int.mul_le_mul_of_nonneg_right ly1 ly0
    omega
  have hL : Lx + Ly ≤ 364 := by
    refine Int.not_lt.1 fun h => ?_
    have a := Int.mul_le_mul (show (365 : Int) ≤ Lx + Ly by omega) (show (365 : Int) ≤ Lx + Ly by omega) (by omega) (by omega)
    have d := sq_nonneg1 (Lx - Ly)
    grind (splits := 0)
  -- how great a push can be
  have hMT : M * T ≤ S * (20000000 * Lx + 800000 * Ly) := by
    have a := mul_pm dx0 dx1 lx2 lx3
    have b := mul_pm dy0 dy1 ly2 ly3
    have e : M * T = (M * dx) * wx + (M * dy) * wy := by rw [hT]; grind (splits := 0)
    rw [e]
    grind (splits := 0)
  have hbig : 256 * p ≤ 20000000 * Lx + 800000 * Ly := by
    have a : S * (256 * p) ≤ S * (20000000 * Lx + 800000 * Ly) := by
      have b : 0 ≤ M * rho := Int.mul_nonneg (by omega) r0
      rw [hr] at hMT
      grind (splits := 0)
    exact Int.le_of_mul_le_mul_left a (by omega)
  have hy : p * Ly ≤ 256 * 20000000 := ps_uncut p0 lx0 lx1 ly0 ly1 (by omega) hbig
  obtain ⟨ey, fy, ey0, ey1⟩ := push_num p0 ly0 ly5 hy
  by_cases hx : p * Lx ≤ 256 * 20000000
  · obtain ⟨ex, fx, ex0, ex1⟩ := push_num p0 lx0 lx5 hx
    have k := ps_key M S p c ep s wx wy ex ey _ _ A B dx dy dx' dy' T T' rho hs hp fx fy cx cy hT hT' hr
    obtain ⟨u, v⟩ := ps_bound hM hS (by omega) k s0 s1 r0 r1 e0 e1 lx2 lx3 ly2 ly3 hL sL ex0 ex1 ey0 ey1 A0 A1 B0 B1
    exact ps_end (by omega) u v
  · obtain ⟨q1, q2⟩ := ps_cut p0 lx0 lx1 ly0 ly1 (by omega) hbig (by omega)
    subst q1
    obtain ⟨ex, fx, ex0, ex1⟩ := push_num2 lx5 p0 (by omega)
    have k := ps_key M S p c ep s wx wy ex ey _ _ A B dx dy dx' dy' T T' rho hs hp fx fy cx cy hT hT' hr
    have big : 20000000 * S ≤ M * c := by
      have a := Int.mul_le_mul_of_nonneg_left (show 20000000 ≤ p by omega) (show 0 ≤ S by omega)
      grind (splits := 0)
    have sq := sq_nonneg1 Ly
    obtain ⟨u, v⟩ := ps_bound2 hM hS (by omega) k (by omega) s1 r0 r1 e0 e1 big x0 x1 (by omega) (by omega) ex0 ex1 ey0 ey1 A0 A1 B0 B1
    exact ps_end (by omega) u v
end Go.Proofs.Ytmflfpedmbfhkaa.Sym
