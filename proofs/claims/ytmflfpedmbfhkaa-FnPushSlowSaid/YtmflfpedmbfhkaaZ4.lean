/-
  The law of a push without a bounce, on bodies.
  No condition.
-/
import Derived.Test.YtmflfpedmbfhkaaZ3
namespace Go.Proofs.Ytmflfpedmbfhkaa.Sym
open Go
set_option linter.unusedVariables false
set_option linter.unusedSimpArgs false
set_option maxRecDepth 100000
/-- A drive within its limits. -/
def drv (v : Vec) : Prop := -20000000 ≤ v.X ∧ v.X ≤ 20000000 ∧ -20000000 ≤ v.Y ∧ v.Y ≤ 20000000
def pushN (p x : Int) : Int := clampTo 20000000 ((p * x).tdiv 256)
theorem rem_in {D m r u B : Int} (hm : 1 ≤ m) (h : m * u = D - r) (hu : u = D.tdiv m) (d0 : -B ≤ D) (d1 : D ≤ B) : -B ≤ m * u ∧ m * u ≤ B := by
  have a := Int.mul_tdiv_add_tmod D m
  have b := Int.tmod_lt_of_pos D (show 0 < m by omega)
  rw [← hu] at a
  by_cases c : 0 ≤ D
  · have e := Int.tmod_nonneg m c
    have f : 0 ≤ m * u := by
      rw [hu]
      exact Int.mul_nonneg (by omega) (Int.tdiv_nonneg c (by omega))
    omega
  · have e := Int.tmod_nonneg m (show 0 ≤ -D by omega)
    rw [Int.neg_tmod] at e
    have f : 0 ≤ m * (-D).tdiv m := Int.mul_nonneg (by omega) (Int.tdiv_nonneg (by omega) (by omega))
    rw [Int.neg_tdiv, ← hu, Int.mul_neg] at f
    omega
theorem speed_mul {b : Body} (hm : 1 ≤ b.Mass) (hd : drv b.Drive) : (-20000000 ≤ b.Mass * (speed b).X ∧ b.Mass * (speed b).X ≤ 20000000) ∧ ∀ B, -B ≤ b.Drive.Y → b.Drive.Y ≤ B → -B ≤ b.Mass * (speed b).Y ∧ b.Mass * (speed b).Y ≤ B := by
  obtain ⟨d1, d2, d3, d4⟩ := hd
  have hx := tdiv_in hm d1 d2
  have hy := tdiv_in hm d3 d4
  have e : speed b = ⟨b.Drive.X.tdiv b.Mass, b.Drive.Y.tdiv b.Mass⟩ := by
    unfold speed
    rw [if_neg (by omega), W_small (by omega) (by omega), W_small (by omega) (by omega)]
  obtain ⟨r, k, _⟩ := tdiv_rem b.Drive.X hm
  obtain ⟨r2, k2, _⟩ := tdiv_rem b.Drive.Y hm
  rw [e]
  exact ⟨rem_in hm k rfl d1 d2, fun B h1 h2 => rem_in hm k2 rfl h1 h2⟩
/-- The rest of a closing. -/
theorem close_rem {T c : Int} (h : c = T.tdiv 256) (hc : 1 ≤ c) : ∃ rho, T = 256 * c + rho ∧ 0 ≤ rho ∧ rho ≤ 255 := by
  obtain ⟨r, k1, k2, k3⟩ := tdiv_rem T (show (1 : Int) ≤ 256 by omega)
  have a := Int.mul_tdiv_add_tmod T 256
  have b := Int.tmod_nonneg 256 (show 0 ≤ T by omega)
  exact ⟨r, by omega, by omega, by omega⟩
/-- Both free. -/
theorem slow_free {a b x y : Body} {w : Vec} {c p : Int} (ma : 1 ≤ a.Mass) (mb : 1 ≤ b.Mass) (da : drv a.Drive) (db : drv b.Drive) (dx : drv x.Drive) (dy : drv y.Drive)
    (xm : x.Mass = a.Mass) (ym : y.Mass = b.Mass) (hp : p = (c * (a.Mass * b.Mass)).tdiv (a.Mass + b.Mass))
    (x1 : x.Drive.X = a.Drive.X - pushN p w.X) (x2 : x.Drive.Y = a.Drive.Y - pushN p w.Y) (y1 : y.Drive.X = b.Drive.X + pushN p w.X) (y2 : y.Drive.Y = b.Drive.Y + pushN p w.Y)
    (sa : -800000 ≤ a.Drive.Y ∧ a.Drive.Y ≤ 800000) (sb : -800000 ≤ b.Drive.Y ∧ b.Drive.Y ≤ 800000)
    (wx : -256 ≤ w.X ∧ w.X ≤ 256) (wy : -256 ≤ w.Y ∧ w.Y ≤ 256) (s0 : 62500 ≤ w.X * w.X + w.Y * w.Y) (s1 : w.X * w.X + w.Y * w.Y ≤ 66564) (hc : c = closing a b w) (c1 : 1 ≤ c) :
    -(8 + c / 16) ≤ closing x y w ∧ closing x y w ≤ 8 + c / 16 := by
  obtain ⟨⟨rax, a1, a2, a3⟩, ⟨ray, a4, a5, a6⟩, a7, a8⟩ := speed_rem ma da.1 da.2.1 da.2.2.1 da.2.2.2
  obtain ⟨⟨rbx, b1, b2, b3⟩, ⟨rby, b4, b5, b6⟩, b7, b8⟩ := speed_rem mb db.1 db.2.1 db.2.2.1 db.2.2.2
  obtain ⟨⟨rxx, f1, f2, f3⟩, ⟨rxy, f4, f5, f6⟩, f7, f8⟩ := speed_rem (b := x) (by omega) dx.1 dx.2.1 dx.2.2.1 dx.2.2.2
  obtain ⟨⟨ryx, g1, g2, g3⟩, ⟨ryy, g4, g5, g6⟩, g7, g8⟩ := speed_rem (b := y) (by omega) dy.1 dy.2.1 dy.2.2.1 dy.2.2.2
  have mula := speed_mul ma da
  have mulb := speed_mul mb db
  rw [closing_at a7 a8 b7 b8 wx wy] at hc
  rw [closing_at f7 f8 g7 g8 wx wy]
  rw [xm] at f1 f2 f3 f4 f5 f6
  rw [ym] at g1 g2 g3 g4 g5 g6
  obtain ⟨rho, r1, r2, r3⟩ := close_rem hc c1
  have may := mula.2 _ sa.1 sa.2
  have mby := mulb.2 _ sb.1 sb.2
  have max := mula.1
  have mbx := mulb.1
  generalize (speed a).X = uax at *
  generalize (speed a).Y = uay at *
  generalize (speed b).X = ubx at *
  generalize (speed b).Y = uby at *
  generalize (speed x).X = vax at *
  generalize (speed x).Y = vay at *
  generalize (speed y).X = vbx at *
  generalize (speed y).Y = vby at *
  generalize a.Mass = m at *
  generalize b.Mass = n at *
  rw [x1] at f1
  rw [x2] at f4
  rw [y1] at g1
  rw [y2] at g4
  have hMc : 0 ≤ c * (m * n) := Int.mul_nonneg (by omega) (Int.mul_nonneg (by omega) (by omega))
  have hM : 1 ≤ m * n := by
    have := Int.mul_le_mul ma mb (by omega) (by omega)
    omega
  have ep : (m + n) * p = c * (m * n) - (c * (m * n)).tmod (m + n) := by
    have := Int.mul_tdiv_add_tmod (c * (m * n)) (m + n)
    rw [hp]
    omega
  have ep0 := Int.tmod_nonneg (m + n) hMc
  have ep1 := Int.tmod_lt_of_pos (c * (m * n)) (show 0 < m + n by omega)
  have p0 : 0 ≤ p := by
    rw [hp]
    exact Int.tdiv_nonneg hMc (by omega)
  have cx := ps_comp m n (m + n) rax rxx rbx ryx _ _ _ uax ubx vax vbx rfl a1 b1 f1 g1
  have cy := ps_comp m n (m + n) ray rxy rby ryy _ _ _ uay uby vay vby rfl a4 b4 f4 g4
  have A := ps_rest ma mb a2 a3 f2 f3 b2 b3 g2 g3
  have B := ps_rest ma mb a5 a6 f5 f6 b5 b6 g5 g6
  have dd : ∀ {u v X : Int}, 0 ≤ X → -X ≤ m * u → m * u ≤ X → -X ≤ n * v → n * v ≤ X → -((m + n) * X) ≤ m * n * (u - v) ∧ m * n * (u - v) ≤ (m + n) * X := by
    intro u v X hX h1 h2 h3 h4
    have i1 := Int.mul_le_mul_of_nonneg_left h1 (show 0 ≤ n by omega)
    have i2 := Int.mul_le_mul_of_nonneg_left h2 (show 0 ≤ n by omega)
    have i3 := Int.mul_le_mul_of_nonneg_left h3 (show 0 ≤ m by omega)
    have i4 := Int.mul_le_mul_of_nonneg_left h4 (show 0 ≤ m by omega)
    constructor <;> grind (splits := 0)
  have d1 := dd (X := 20000000) (by omega) max.1 max.2 mbx.1 mbx.2
  have d2 := dd (X := 800000) (by omega) may.1 may.2 mby.1 mby.2
  refine ps_all (M := m * n) (S := m + n) (p := p) (ep := (c * (m * n)).tmod (m + n)) (A := n * (rax - rxx) - m * (rbx - ryx)) (B := n * (ray - rxy) - m * (rby - ryy)) hM (by omega) c1 p0 wx.1 wx.2 wy.1 wy.2 rfl s0 s1 ep ep0 (by omega) ?_ ?_ d1.1 d1.2 d2.1 d2.2 rfl rfl r1 r2 r3 A.1 A.2 B.1 B.2
  · unfold pushN at cx
    omega
  · unfold pushN at cy
    omega
theorem speed_fix {b : Body} (h : b.Mass = 0) : speed b = ⟨0, 0⟩ := by
  unfold speed
  rw [if_pos h]
/-- The first one fixed. -/
theorem slow_left {a b x y : Body} {w : Vec} {c p : Int} (ma : a.Mass = 0) (mb : 1 ≤ b.Mass) (db : drv b.Drive) (dy : drv y.Drive)
    (xm : x.Mass = 0) (ym : y.Mass = b.Mass) (hp : p = c * b.Mass) (y1 : y.Drive.X = b.Drive.X + pushN p w.X) (y2 : y.Drive.Y = b.Drive.Y + pushN p w.Y)
    (sb : -800000 ≤ b.Drive.Y ∧ b.Drive.Y ≤ 800000)
    (wx : -256 ≤ w.X ∧ w.X ≤ 256) (wy : -256 ≤ w.Y ∧ w.Y ≤ 256) (s0 : 62500 ≤ w.X * w.X + w.Y * w.Y) (s1 : w.X * w.X + w.Y * w.Y ≤ 66564) (hc : c = closing a b w) (c1 : 1 ≤ c) :
    -(8 + c / 16) ≤ closing x y w ∧ closing x y w ≤ 8 + c / 16 := by
  obtain ⟨⟨rbx, b1, b2, b3⟩, ⟨rby, b4, b5, b6⟩, b7, b8⟩ := speed_rem mb db.1 db.2.1 db.2.2.1 db.2.2.2
  obtain ⟨⟨ryx, g1, g2, g3⟩, ⟨ryy, g4, g5, g6⟩, g7, g8⟩ := speed_rem (b := y) (by omega) dy.1 dy.2.1 dy.2.2.1 dy.2.2.2
  have mulb := speed_mul mb db
  have ea := speed_fix ma
  have ex := speed_fix xm
  rw [closing_at (by rw [ea]; dsimp only; omega) (by rw [ea]; dsimp only; omega) b7 b8 wx wy, ea] at hc
  rw [closing_at (by rw [ex]; dsimp only; omega) (by rw [ex]; dsimp only; omega) g7 g8 wx wy, ex]
  rw [ym] at g1 g2 g3 g4 g5 g6
  obtain ⟨rho, r1, r2, r3⟩ := close_rem hc c1
  have mby := mulb.2 _ sb.1 sb.2
  have mbx := mulb.1
  dsimp only at r1 ⊢
  generalize (speed b).X = ubx at *
  generalize (speed b).Y = uby at *
  generalize (speed y).X = vbx at *
  generalize (speed y).Y = vby at *
  generalize b.Mass = n at *
  rw [y1] at g1
  rw [y2] at g4
  have p0 : 0 ≤ p := by
    rw [hp]
    exact Int.mul_nonneg (by omega) (by omega)
  have z : ∀ u : Int, n * (0 - u) = -(n * u) := fun u => by rw [Int.zero_sub, Int.mul_neg]
  refine ps_all (M := n) (S := 1) (p := p) (ep := 0) (A := ryx - rbx) (B := ryy - rby) (by omega) (by omega) c1 p0 wx.1 wx.2 wy.1 wy.2 rfl s0 s1 (by omega) (by omega) (by omega) ?_ ?_ (by rw [z]; omega) (by rw [z]; omega) (by rw [z]; omega) (by rw [z]; omega) rfl rfl r1 r2 r3 (by omega) (by omega) (by omega) (by omega)
  · unfold pushN at g1
    rw [z, z]
    omega
  · unfold pushN at g4
    rw [z, z]
    omega
/-- The second one fixed. -/
theorem slow_right {a b x y : Body} {w : Vec} {c p : Int} (ma : 1 ≤ a.Mass) (mb : b.Mass = 0) (da : drv a.Drive) (dx : drv x.Drive)
    (xm : x.Mass = a.Mass) (ym : y.Mass = 0) (hp : p = c * a.Mass) (x1 : x.Drive.X = a.Drive.X - pushN p w.X) (x2 : x.Drive.Y = a.Drive.Y - pushN p w.Y)
    (sa : -800000 ≤ a.Drive.Y ∧ a.Drive.Y ≤ 800000)
    (wx : -256 ≤ w.X ∧ w.X ≤ 256) (wy : -256 ≤ w.Y ∧ w.Y ≤ 256) (s0 : 62500 ≤ w.X * w.X + w.Y * w.Y) (s1 : w.X * w.X + w.Y * w.Y ≤ 66564) (hc : c = closing a b w) (c1 : 1 ≤ c) :
    -(8 + c / 16) ≤ closing x y w ∧ closing x y w ≤ 8 + c / 16 := by
  obtain ⟨⟨rax, a1, a2, a3⟩, ⟨ray, a4, a5, a6⟩, a7, a8⟩ := speed_rem ma da.1 da.2.1 da.2.2.1 da.2.2.2
  obtain ⟨⟨rxx, f1, f2, f3⟩, ⟨rxy, f4, f5, f6⟩, f7, f8⟩ := speed_rem (b := x) (by omega) dx.1 dx.2.1 dx.2.2.1 dx.2.2.2
  have mula := speed_mul ma da
  have eb := speed_fix mb
  have ey := speed_fix ym
  rw [closing_at a7 a8 (by rw [eb]; dsimp only; omega) (by rw [eb]; dsimp only; omega) wx wy, eb] at hc
  rw [closing_at f7 f8 (by rw [ey]; dsimp only; omega) (by rw [ey]; dsimp only; omega) wx wy, ey]
  rw [xm] at f1 f2 f3 f4 f5 f6
  obtain ⟨rho, r1, r2, r3⟩ := close_rem hc c1
  have may := mula.2 _ sa.1 sa.2
  have max := mula.1
  dsimp only at r1 ⊢
  generalize (speed a).X = uax at *
  generalize (speed a).Y = uay at *
  generalize (speed x).X = vax at *
  generalize (speed x).Y = vay at *
  generalize a.Mass = m at *
  rw [x1] at f1
  rw [x2] at f4
  have p0 : 0 ≤ p := by
    rw [hp]
    exact Int.mul_nonneg (by omega) (by omega)
  have z : ∀ u : Int, m * (u - 0) = m * u := fun u => by rw [Int.sub_zero]
  refine ps_all (M := m) (S := 1) (p := p) (ep := 0) (A := rax - rxx) (B := ray - rxy) (by omega) (by omega) c1 p0 wx.1 wx.2 wy.1 wy.2 rfl s0 s1 (by omega) (by omega) (by omega) ?_ ?_ (by rw [z]; omega) (by rw [z]; omega) (by rw [z]; omega) (by rw [z]; omega) rfl rfl r1 r2 r3 (by omega) (by omega) (by omega) (by omega)
  · unfold pushN at f1
    rw [z, z]
    omega
  · unfold pushN at f4
    rw [z, z]
    omega
end Go.Proofs.Ytmflfpedmbfhkaa.Sym
