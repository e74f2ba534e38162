/-
  A push between two bodies that do not rub: how little is left of the closing.
  No condition.
-/
import Derived.Test.YtmflfpedmbfhkaaZ1
import Derived.Test.YtmflfpedmbfhkaaG3
namespace Go.Proofs.Ytmflfpedmbfhkaa.Sym
open Go
set_option linter.unusedVariables false
set_option linter.unusedSimpArgs false
set_option maxRecDepth 100000
theorem tdiv_rem (D : Int) {m : Int} (hm : 1 ≤ m) : ∃ r, m * D.tdiv m = D - r ∧ -(m - 1) ≤ r ∧ r ≤ m - 1 := by
  refine ⟨D.tmod m, ?_, ?_, ?_⟩
  · have := Int.mul_tdiv_add_tmod D m
    omega
  · have := Int.lt_tmod_of_pos D (show 0 < m by omega)
    omega
  · have := Int.tmod_lt_of_pos D (show 0 < m by omega)
    omega
theorem tdiv_in {D m B : Int} (hm : 1 ≤ m) (h1 : -B ≤ D) (h2 : D ≤ B) : -B ≤ D.tdiv m ∧ D.tdiv m ≤ B := by
  have h := Int.natAbs_tdiv_le_natAbs D m
  omega
/-- A speed, but for the rest of a division. -/
theorem speed_rem {b : Body} (hm : 1 ≤ b.Mass) (d1 : -20000000 ≤ b.Drive.X) (d2 : b.Drive.X ≤ 20000000) (d3 : -20000000 ≤ b.Drive.Y) (d4 : b.Drive.Y ≤ 20000000) :
    (∃ r, b.Mass * (speed b).X = b.Drive.X - r ∧ -(b.Mass - 1) ≤ r ∧ r ≤ b.Mass - 1) ∧ (∃ r, b.Mass * (speed b).Y = b.Drive.Y - r ∧ -(b.Mass - 1) ≤ r ∧ r ≤ b.Mass - 1) ∧
    (-20000000 ≤ (speed b).X ∧ (speed b).X ≤ 20000000) ∧ -20000000 ≤ (speed b).Y ∧ (speed b).Y ≤ 20000000 := by
  have hx := tdiv_in hm d1 d2
  have hy := tdiv_in hm d3 d4
  have e : speed b = ⟨b.Drive.X.tdiv b.Mass, b.Drive.Y.tdiv b.Mass⟩ := by
    unfold speed
    rw [if_neg (by omega), W_small (by omega) (by omega), W_small (by omega) (by omega)]
  rw [e]
  exact ⟨tdiv_rem _ hm, tdiv_rem _ hm, hx, hy⟩
theorem clampTo_in {m n : Int} (h1 : -m ≤ n) (h2 : n ≤ m) : clampTo m n = n := by
  unfold clampTo
  omega
/-- How fast two close: nothing is cut off. -/
theorem closing_at {a b : Body} {w : Vec} (a1 : -20000000 ≤ (speed a).X ∧ (speed a).X ≤ 20000000) (a2 : -20000000 ≤ (speed a).Y ∧ (speed a).Y ≤ 20000000) (b1 : -20000000 ≤ (speed b).X ∧ (speed b).X ≤ 20000000) (b2 : -20000000 ≤ (speed b).Y ∧ (speed b).Y ≤ 20000000)
    (wx : -256 ≤ w.X ∧ w.X ≤ 256) (wy : -256 ≤ w.Y ∧ w.Y ≤ 256) :
    closing a b w = (((speed a).X - (speed b).X) * w.X + ((speed a).Y - (speed b).Y) * w.Y).tdiv 256 := by
  have m1 := mul_pm (x := (speed a).X - (speed b).X) (X := 40000000) (y := w.X) (Y := 256) (by omega) (by omega) wx.1 wx.2
  have m2 := mul_pm (x := (speed a).Y - (speed b).Y) (X := 40000000) (y := w.Y) (Y := 256) (by omega) (by omega) wy.1 wy.2
  have s : vecSub (speed a) (speed b) = ⟨(speed a).X - (speed b).X, (speed a).Y - (speed b).Y⟩ := by
    unfold vecSub clampV minus
    dsimp only
    rw [clampTo_in (n := (speed a).X) (by omega) (by omega), clampTo_in (n := (speed a).Y) (by omega) (by omega), clampTo_in (n := (speed b).X) (by omega) (by omega), clampTo_in (n := (speed b).Y) (by omega) (by omega),
      W_small (n := (speed a).X - (speed b).X) (by omega) (by omega), W_small (n := (speed a).Y - (speed b).Y) (by omega) (by omega), clampTo_in (by omega) (by omega), clampTo_in (by omega) (by omega)]
  have t := tdiv_in (D := ((speed a).X - (speed b).X) * w.X + ((speed a).Y - (speed b).Y) * w.Y) (m := 256) (B := 20480000000) (by omega) (by omega) (by omega)
  have t2 : -(80000000 : Int) ≤ (((speed a).X - (speed b).X) * w.X + ((speed a).Y - (speed b).Y) * w.Y).tdiv 256 ∧ (((speed a).X - (speed b).X) * w.X + ((speed a).Y - (speed b).Y) * w.Y).tdiv 256 ≤ 80000000 := by
    obtain ⟨r, h1, h2, h3⟩ := tdiv_rem (((speed a).X - (speed b).X) * w.X + ((speed a).Y - (speed b).Y) * w.Y) (show (1 : Int) ≤ 256 by omega)
    omega
  unfold closing dot dotC
  rw [s]
  unfold clampV
  dsimp only
  rw [clampTo_in (n := (speed a).X - (speed b).X) (by omega) (by omega), clampTo_in (n := (speed a).Y - (speed b).Y) (by omega) (by omega), clampTo_in (n := w.X) (by omega) (by omega), clampTo_in (n := w.Y) (by omega) (by omega),
    W_small (n := ((speed a).X - (speed b).X) * w.X) (by omega) (by omega), W_small (n := ((speed a).Y - (speed b).Y) * w.Y) (by omega) (by omega), W_small (n := ((speed a).X - (speed b).X) * w.X + ((speed a).Y - (speed b).Y) * w.Y) (by omega) (by omega), W_small (by omega) (by omega), clampTo_in (by omega) (by omega)]
/-- The end of the count: a closing so small is small enough. -/
theorem ps_end {c T' : Int} (hc : 0 ≤ c) (h1 : 256 * T' ≤ 3036 * c + 438016) (h2 : -(3036 * c + 438016) ≤ 256 * T') : -(8 + c / 16) ≤ T'.tdiv 256 ∧ T'.tdiv 256 ≤ 8 + c / 16 := by
  obtain ⟨r, k1, k2, k3⟩ := tdiv_rem T' (show (1 : Int) ≤ 256 by omega)
  omega
end Go.Proofs.Ytmflfpedmbfhkaa.Sym
