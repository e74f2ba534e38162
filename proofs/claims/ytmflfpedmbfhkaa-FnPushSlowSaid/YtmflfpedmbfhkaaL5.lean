/-
  The laws of two bodies: how fast they close, how they push each other.
  No condition.
-/
import Derived.Test.YtmflfpedmbfhkaaD3
import Derived.Test.YtmflfpedmbfhkaaG4
namespace Go.Proofs.Ytmflfpedmbfhkaa.Sym
open Go
set_option linter.unusedVariables false
set_option linter.unusedSimpArgs false
set_option maxRecDepth 100000

def negV (v : Vec) : Vec := ⟨-v.X, -v.Y⟩
theorem clampTo_neg {m n : Int} (h : 0 ≤ m) : clampTo m (-n) = -clampTo m n := by
  unfold clampTo
  omega
theorem clampV_neg (m : Int) (v : Vec) (h : 0 ≤ m) : clampV m (negV v) = negV (clampV m v) := by
  simp only [clampV, negV, clampTo_neg h]
theorem dot_neg (a b : Vec) : dot (negV a) (negV b) = dot a b := by
  unfold dot
  rw [clampV_neg _ _ (by omega), clampV_neg _ _ (by omega)]
  simp only [dotC, negV, Int.neg_mul_neg]
theorem vecSub_neg (a b : Vec) : vecSub b a = negV (vecSub a b) := by
  obtain ⟨⟨a1, a2⟩, a3, a4⟩ := clampV_le a
  obtain ⟨⟨b1, b2⟩, b3, b4⟩ := clampV_le b
  unfold vecSub
  rw [← clampV_neg _ _ (by omega)]
  congr 1
  simp only [minus, negV]
  rw [show W ((clampV 1000000000 b).X - (clampV 1000000000 a).X) = _ from wrap_small (by omega) (by omega), show W ((clampV 1000000000 b).Y - (clampV 1000000000 a).Y) = _ from wrap_small (by omega) (by omega),
    show W ((clampV 1000000000 a).X - (clampV 1000000000 b).X) = _ from wrap_small (by omega) (by omega), show W ((clampV 1000000000 a).Y - (clampV 1000000000 b).Y) = _ from wrap_small (by omega) (by omega)]
  congr 1 <;> omega
theorem closing_neg (a b : Body) (w : Vec) : closing b a (negV w) = closing a b w := by
  unfold closing
  rw [vecSub_neg (speed a) (speed b), dot_neg]
theorem W_neg_in {x : Int} (h : inR x) : isIn (W (0 - x)) (-256) 256 = isIn x (-256) 256 ∧ (isIn x (-256) 256 = true → W (0 - x) = -x) := by
  unfold inR at h
  have e : W (0 - x) = -x ∨ x = -9223372036854775808 := by
    by_cases q : x = -9223372036854775808
    · exact .inr q
    · left
      rw [W_small (by omega) (by omega)]
      omega
  rcases e with e | e
  · rw [e]
    refine ⟨?_, fun _ => rfl⟩
    rw [Bool.eq_iff_iff]
    simp only [isIn, Bool.and_eq_true, decide_eq_true_eq]
    omega
  · subst e
    exact ⟨by decide, fun h => absurd h (by decide)⟩
theorem closing_turn {a b : Body} {h : Hit} (hr : wayR h.Way) : closingAll b a ⟨⟨W (0 - h.Way.X), W (0 - h.Way.Y)⟩, h.Deep⟩ = closingAll a b h := by
  obtain ⟨x1, x2⟩ := W_neg_in hr.1
  obtain ⟨y1, y2⟩ := W_neg_in hr.2
  have e : hitOk ⟨⟨W (0 - h.Way.X), W (0 - h.Way.Y)⟩, h.Deep⟩ = hitOk h := by simp only [hitOk, x1, y1]
  unfold closingAll
  rw [e]
  cases hh : hitOk h with
  | false => simp
  | true =>
    simp only [hitOk, Bool.and_eq_true] at hh
    have e2 : (⟨W (0 - h.Way.X), W (0 - h.Way.Y)⟩ : Vec) = negV h.Way := by rw [x2 hh.1.1, y2 hh.1.2]; rfl
    simp only [e2, closing_neg, Bool.and_true]
    cases bodyOk a <;> cases bodyOk b <;> rfl
theorem closing_still (a b : Body) (h : Hit) : closingAll { a with Drive := ⟨0, 0⟩ } { b with Drive := ⟨0, 0⟩ } h = 0 := by
  have hs : ∀ x : Body, speed { x with Drive := ⟨0, 0⟩ } = ⟨0, 0⟩ := fun x => by
    unfold speed
    split
    · rfl
    · simp [W, IntKind.wrap_i64]
  unfold closingAll closing
  rw [hs a, hs b]
  have e : vecSub ⟨0, 0⟩ ⟨0, 0⟩ = ⟨0, 0⟩ := rfl
  rw [e]
  have e2 : dot ⟨0, 0⟩ h.Way = 0 := by
    unfold dot
    have : clampV 1000000000 ⟨0, 0⟩ = ⟨0, 0⟩ := rfl
    rw [this]
    simp only [dotC, Int.zero_mul, W, IntKind.wrap_i64, clampTo]
    decide
  rw [e2]
  split <;> rfl
theorem together_mono {a b : Body} (pa : POk a) (pb : POk b) (hm : ¬ (a.Mass = 0 ∧ b.Mass = 0)) {n m : Int} (h0 : 0 ≤ n) (hnm : n ≤ m) (h1 : m ≤ 2000000000) : together a b n ≤ together a b m := by
  have m0 : 0 ≤ m := by omega
  have n1 : n ≤ 2000000000 := by omega
  have ha := mul_le_mul0 h0 n1 pa.m0 pa.m1
  have hb := mul_le_mul0 h0 n1 pb.m0 pb.m1
  have ga := mul_le_mul0 m0 h1 pa.m0 pa.m1
  have gb := mul_le_mul0 m0 h1 pb.m0 pb.m1
  have ka : n * a.Mass ≤ m * a.Mass := Int.mul_le_mul_of_nonneg_right hnm pa.m0
  have kb : n * b.Mass ≤ m * b.Mass := Int.mul_le_mul_of_nonneg_right hnm pb.m0
  unfold together
  cases ca : a.Mass == 0 with
  | true =>
    simp only [cond_true]
    rw [W_small (n := n * b.Mass) (by omega) (by omega), W_small (n := m * b.Mass) (by omega) (by omega)]
    exact kb
  | false =>
    simp only [cond_false]
    cases cb : b.Mass == 0 with
    | true =>
      simp only [cond_true]
      rw [W_small (n := n * a.Mass) (by omega) (by omega), W_small (n := m * a.Mass) (by omega) (by omega)]
      exact ka
    | false =>
      simp only [cond_false]
      have ca : a.Mass ≠ 0 := by simpa using ca
      have a0 := pa.m0
      have a1 := pa.m1
      have b0 := pb.m0
      have b1 := pb.m1
      have hab := mul_le_mul0 ha.1 ha.2 b0 b1
      have gab := mul_le_mul0 ga.1 ga.2 b0 b1
      have kab : n * a.Mass * b.Mass ≤ m * a.Mass * b.Mass := Int.mul_le_mul_of_nonneg_right ka b0
      rw [W_small (n := n * a.Mass) (by omega) (by omega), W_small (n := m * a.Mass) (by omega) (by omega), W_small (n := n * a.Mass * b.Mass) (by omega) (by omega), W_small (n := m * a.Mass * b.Mass) (by omega) (by omega),
        W_small (n := a.Mass + b.Mass) (by omega) (by omega), Int.tdiv_eq_ediv_of_nonneg hab.1, Int.tdiv_eq_ediv_of_nonneg gab.1]
      have h2 := Int.ediv_le_ediv (c := a.Mass + b.Mass) (by omega) kab
      have h3 := Int.ediv_nonneg (b := a.Mass + b.Mass) hab.1 (by omega)
      have h4 := Int.ediv_le_self (a := m * a.Mass * b.Mass) (a.Mass + b.Mass) gab.1
      rw [W_small (by omega) (by omega), W_small (by omega) (by omega)]
      exact h2
/-- One number of a push that does not rub. -/
def pushX (p x : Int) : Int := clampTo 20000000 ((p * x).tdiv 256)
theorem pushX_le (p x : Int) : -20000000 ≤ pushX p x ∧ pushX p x ≤ 20000000 := clampTo_le (by omega)
theorem pushX_sign {p x : Int} (hp : 0 ≤ p) : (0 ≤ x → 0 ≤ pushX p x) ∧ (x ≤ 0 → pushX p x ≤ 0) := by
  unfold pushX clampTo
  refine ⟨fun h => ?_, fun h => ?_⟩
  · have := Int.mul_nonneg hp h
    have := (tdiv256 (p * x)).1 this
    omega
  · have h2 := Int.mul_nonneg hp (show 0 ≤ -x by omega)
    rw [Int.mul_neg] at h2
    have := (tdiv256 (p * x)).2 (by omega)
    omega
theorem pushX_mono {p q x : Int} (hp : 0 ≤ p) (hpq : p ≤ q) : (0 ≤ x → pushX p x ≤ pushX q x) ∧ (x ≤ 0 → pushX q x ≤ pushX p x) := by
  unfold pushX clampTo
  refine ⟨fun h => ?_, fun h => ?_⟩
  · have h1 := Int.mul_nonneg hp h
    have h2 := Int.mul_le_mul_of_nonneg_right hpq h
    have h3 := (tdiv256 (p * x)).1 h1
    have h4 := (tdiv256 (q * x)).1 (by omega)
    omega
  · have h1 := Int.mul_nonneg hp (show 0 ≤ -x by omega)
    have h2 := Int.mul_le_mul_of_nonneg_right hpq (show 0 ≤ -x by omega)
    rw [Int.mul_neg] at h1
    rw [Int.mul_neg, Int.mul_neg] at h2
    have h3 := (tdiv256 (p * x)).2 (by omega)
    have h4 := (tdiv256 (q * x)).2 (by omega)
    omega
theorem pushW_norub {a b : Body} {h : Hit} {p : Int} (hr : a.Rub = 0) (hb : 0 ≤ b.Rub) (hh : hitOk h = true) (p0 : 0 ≤ p) (p1 : p ≤ 2000000000000) : pushW a b h p = ⟨pushX p h.Way.X, pushX p h.Way.Y⟩ := by
  have hs : pushS a b h p = 0 := by
    unfold pushS
    rw [hr, show min 0 b.Rub = 0 by omega, Int.mul_zero, show W 0 = 0 from rfl, show (0 : Int).tdiv 256 = 0 from rfl, show W 0 = 0 from rfl]
    unfold withinI
    rw [show W (0 - 0) = 0 from rfl]
    omega
  have he : ∀ x y, -256 ≤ x → x ≤ 256 → pushE p 0 x y = (p * x).tdiv 256 := fun x y h1 h2 => by
    have hpx : -512000000000000 ≤ p * x ∧ p * x ≤ 512000000000000 := by
      rcases Int.le_total 0 x with q | q
      · have := mul_le_mul0 p0 p1 q h2
        omega
      · have := mul_le_mul0 p0 p1 (show 0 ≤ -x by omega) (show -x ≤ 256 by omega)
        rw [Int.mul_neg] at this
        omega
    unfold pushE
    have h3 := tdiv256 (p * x)
    rw [Int.zero_mul, show W 0 = 0 from rfl, Int.add_zero, W_small (n := p * x) (by omega) (by omega), W_small (n := p * x) (by omega) (by omega)]
    rcases Int.le_total 0 (p * x) with q | q
    · have := h3.1 q
      rw [W_small (by omega) (by omega)]
    · have := h3.2 q
      rw [W_small (by omega) (by omega)]
  simp only [hitOk, isIn, Bool.and_eq_true, decide_eq_true_eq] at hh
  unfold pushW pushX
  rw [hs, he _ _ hh.1.1.1 hh.1.1.2, he _ _ hh.1.2.1 hh.1.2.2, withinI_drive, withinI_drive]
theorem bodyOk_norub {a : Body} (h : bodyOk a = true) : bodyOk { a with Rub := 0 } = true := by
  simp only [bodyOk, Bool.and_eq_true] at h ⊢
  exact ⟨⟨⟨h.1.1.1, rfl⟩, h.1.2⟩, h.2⟩
theorem closing_norub (a b : Body) (w : Vec) : closing { a with Rub := 0 } b w = closing a b w := rfl
theorem pushOf_norub {a b : Body} {h : Hit} (ha : bodyOk a = true) (hb : bodyOk b = true) (hc : ¬ closingAll a b h ≤ 0) (hm : ¬ (a.Mass = 0 ∧ b.Mass = 0)) (z : Bool) :
    hitOk h = true ∧ closing a b h.Way > 0 ∧ pushOfV { a with Rub := 0 } b h z = ⟨pushX (pushP a b (closing a b h.Way) z) h.Way.X, pushX (pushP a b (closing a b h.Way) z) h.Way.Y⟩ ∧
      0 ≤ pushP a b (closing a b h.Way) z ∧ pushP a b (closing a b h.Way) z ≤ 2000000000000 := by
  have hh : hitOk h = true := by
    cases q : hitOk h with
    | true => rfl
    | false =>
      exfalso
      apply hc
      simp [closingAll, q]
  have e : closingAll a b h = closing a b h.Way := by simp [closingAll, ha, hb, hh]
  rw [e] at hc
  have cl := closing_le a b h.Way
  have pa := pok_of ha
  have pb := pok_of hb
  have hp := pushP_le pa pb hm (show 0 ≤ closing a b h.Way by omega) cl.2 z
  refine ⟨hh, by omega, ?_, hp⟩
  unfold pushOfV
  rw [bodyOk_norub ha, hb, hh]
  simp only [Bool.and_self, cond_true]
  have hm2 : (a.Mass == 0 && b.Mass == 0) = false := by
    cases q : a.Mass == 0 && b.Mass == 0 with
    | false => rfl
    | true =>
      simp only [Bool.and_eq_true, beq_iff_eq] at q
      exact absurd q hm
  rw [pushV_some (a := { a with Rub := 0 }) (by rw [closing_norub]; exact hc) hm2, closing_norub]
  exact pushW_norub (a := { a with Rub := 0 }) rfl pb.r0 hh hp.1 hp.2
theorem pushP_mono {a b : Body} (ha : bodyOk a = true) (hb : bodyOk b = true) (hm : ¬ (a.Mass = 0 ∧ b.Mass = 0)) {c : Int} (h0 : 0 ≤ c) (h1 : c ≤ 1000000000) : pushP a b c false ≤ pushP a b c true := by
  have pa := pok_of ha
  have pb := pok_of hb
  have b0 := pa.b0
  have b1 := pa.b1
  have b2 := pb.b0
  have b3 := pb.b1
  have hx := mul_le_mul0 h0 h1 (show 0 ≤ max a.Bounce b.Bounce by omega) (show max a.Bounce b.Bounce ≤ 256 by omega)
  have hc : c * max a.Bounce b.Bounce ≤ c * 256 := Int.mul_le_mul_of_nonneg_left (by omega) h0
  have hd := Int.tdiv_eq_ediv_of_nonneg (b := 256) hx.1
  unfold pushP
  simp only [cond_true, cond_false]
  rw [W_small (n := c * max a.Bounce b.Bounce) (by omega) (by omega), hd, W_small (n := c * max a.Bounce b.Bounce / 256) (by omega) (by omega), W_small (n := c + c * max a.Bounce b.Bounce / 256) (by omega) (by omega)]
  exact together_mono pa pb hm h0 (by omega) (by omega)
theorem signs {u x : Int} (h0 : 0 ≤ x → 0 ≤ u) (h1 : x ≤ 0 → u ≤ 0) (u0 : -20000000 ≤ u) (u1 : u ≤ 20000000) (x0 : -256 ≤ x) (x1 : x ≤ 256) : W (u * x) ≥ 0 := by
  have : 0 ≤ u * x ∧ u * x ≤ 20000000 * 256 := by
    rcases Int.le_total 0 x with q | q
    · exact mul_le_mul0 (h0 q) u1 q x1
    · have := mul_le_mul0 (show 0 ≤ -u by have := h1 q; omega) (show -u ≤ 20000000 by omega) (show 0 ≤ -x by omega) (show -x ≤ 256 by omega)
      rwa [Int.neg_mul_neg] at this
  rw [W_small (by omega) (by omega)]
  omega
theorem absW_le {u v : Int} (u0 : -20000000 ≤ u) (u1 : u ≤ 20000000) (v0 : -20000000 ≤ v) (v1 : v ≤ 20000000) (h : 0 ≤ u ∧ u ≤ v ∨ u ≤ 0 ∧ v ≤ u) : absW v ≥ absW u := by
  have e : ∀ n : Int, -20000000 ≤ n → n ≤ 20000000 → absW n = if n < 0 then -n else n := fun n h1 h2 => by
    unfold absW
    by_cases q : n < 0
    · rw [if_pos q, decide_eq_true q, cond_true, W_small (by omega) (by omega)]
      omega
    · rw [if_neg q, decide_eq_false q, cond_false]
  rw [e u u0 u1, e v v0 v1]
  split <;> split <;> omega
theorem push_law {a b : Body} {h : Hit} (ha : bodyOk a = true) (hb : bodyOk b = true) (hc : ¬ closingAll a b h ≤ 0) (hm : ¬ (a.Mass = 0 ∧ b.Mass = 0)) :
    W ((pushOfV { a with Rub := 0 } b h false).X * h.Way.X) ≥ 0 ∧ W ((pushOfV { a with Rub := 0 } b h false).Y * h.Way.Y) ≥ 0 ∧
      absW (pushOfV { a with Rub := 0 } b h true).X ≥ absW (pushOfV { a with Rub := 0 } b h false).X ∧ absW (pushOfV { a with Rub := 0 } b h true).Y ≥ absW (pushOfV { a with Rub := 0 } b h false).Y := by
  obtain ⟨hh, hcl, e0, p0, p1⟩ := pushOf_norub ha hb hc hm false
  obtain ⟨_, _, e1, q0, q1⟩ := pushOf_norub ha hb hc hm true
  rw [e0, e1]
  have cl := closing_le a b h.Way
  have hmono := pushP_mono ha hb hm (show 0 ≤ closing a b h.Way by omega) cl.2
  simp only [hitOk, isIn, Bool.and_eq_true, decide_eq_true_eq] at hh
  have key : ∀ x, absW (pushX (pushP a b (closing a b h.Way) true) x) ≥ absW (pushX (pushP a b (closing a b h.Way) false) x) := fun x => by
    have s := pushX_sign (x := x) p0
    have m := pushX_mono (x := x) p0 hmono
    refine absW_le (pushX_le _ _).1 (pushX_le _ _).2 (pushX_le _ _).1 (pushX_le _ _).2 ?_
    rcases Int.le_total 0 x with q | q
    · exact .inl ⟨s.1 q, m.1 q⟩
    · exact .inr ⟨s.2 q, m.2 q⟩
  have k2 : ∀ x, -256 ≤ x → x ≤ 256 → W (pushX (pushP a b (closing a b h.Way) false) x * x) ≥ 0 := fun x h1 h2 =>
    signs (pushX_sign p0).1 (pushX_sign p0).2 (pushX_le _ _).1 (pushX_le _ _).2 h1 h2
  exact ⟨k2 _ hh.1.1.1 hh.1.1.2, k2 _ hh.1.2.1 hh.1.2.2, key _, key _⟩
theorem pushOf_zero {a b : Body} {h : Hit} {z : Bool} (hc : closingAll a b h ≤ 0 ∨ (a.Mass = 0 ∧ b.Mass = 0)) : pushOfV a b h z = ⟨0, 0⟩ := by
  unfold pushOfV
  cases q : bodyOk a && bodyOk b && hitOk h with
  | false => rfl
  | true =>
    simp only [cond_true]
    refine pushV_zero ?_
    rcases hc with hc | ⟨h1, h2⟩
    · left
      simpa [closingAll, q] using hc
    · right
      simp [h1, h2]
end Go.Proofs.Ytmflfpedmbfhkaa.Sym
