/-
  Rays drawn, and the laws of rays.
  No condition.
-/
import Derived.Test.YtgdpaijphaeimaaD1
namespace Go.Proofs.Ytgdpaijphaeimaa.Sym
open Go
set_option linter.unusedVariables false
set_option linter.unusedSimpArgs false
set_option maxRecDepth 100000

theorem roundFrom_spec {r : Ray} {p : Vec} {wide t : Int} : ∀ {n : Nat}, n ≤ 257 → roundFrom r p wide n = (t, true) → 257 - (n : Int) ≤ t ∧ t ≤ 256 ∧ roundAt r p wide t = true ∧ ∀ k : Int, 257 - (n : Int) ≤ k → k < t → roundAt r p wide k = false
  | 0, _, h => by simp [roundFrom] at h
  | n + 1, hn, h => by
    rw [roundFrom] at h
    cases c : roundAt r p wide (257 - ((n : Int) + 1)) with
    | true =>
      rw [c] at h
      simp only [cond_true, Prod.mk.injEq, and_true] at h
      subst h
      exact ⟨by omega, by omega, c, fun k h1 h2 => by omega⟩
    | false =>
      rw [c] at h
      simp only [cond_false] at h
      obtain ⟨h1, h2, h3, h4⟩ := roundFrom_spec (by omega) h
      refine ⟨by omega, h2, h3, fun k h5 h6 => ?_⟩
      by_cases e : k = 257 - ((n : Int) + 1)
      · rw [e]; exact c
      · exact h4 k (by omega) h6
theorem rayRound_spec {r : Ray} {p : Vec} {wide t : Int} (h : rayRound r p wide = (t, true)) : 0 ≤ t ∧ t ≤ 256 ∧ roundAt r p wide t = true ∧ ∀ k : Int, 0 ≤ k → k < t → roundAt r p wide k = false := by
  unfold rayRound at h
  cases c : (rayOk r && placeOk p && isIn wide 1 25600) with
  | false => rw [c] at h; simp at h
  | true =>
    rw [c] at h
    obtain ⟨h1, h2, h3, h4⟩ := roundFrom_spec (by omega) h
    exact ⟨by omega, h2, h3, fun k h5 h6 => h4 k (by omega) h6⟩
def LSlawRayRound (b0 : List Int) (r : Ray) (a : Vec) (w : Int) (t : Int) : LS where
  S := List Int × Ray × Vec × Int × Int × Int
  live := [(3, [none]), (4, [none]), (5, [none]), (6, [none]), (10, [none])]
  shape := fun s => ([.ptr 1 0 0, .ptr 2 0 0, .int .i64 s.2.2.2.1, .int .i64 s.2.2.2.2.1, .int .i64 s.2.2.2.2.2], [(false, .vec .byte s.1), (true, .box [.int .i64 s.2.1.From.X, .int .i64 s.2.1.From.Y, .int .i64 s.2.1.Way.X, .int .i64 s.2.1.Way.Y]), (true, .box [.int .i64 s.2.2.1.X, .int .i64 s.2.2.1.Y])])
  get := fun v h => match v, h with
    | [.ptr 1 0 0, .ptr 2 0 0, .int .i64 w', .int .i64 t', .int .i64 k], [(false, .vec .byte b), (true, .box [.int .i64 r'FX, .int .i64 r'FY, .int .i64 r'WX, .int .i64 r'WY]), (true, .box [.int .i64 a'X, .int .i64 a'Y])] => some (b, (Ray.mk (Vec.mk r'FX r'FY) (Vec.mk r'WX r'WY)), (Vec.mk a'X a'Y), w', t', k)
    | _, _ => none
  inv := fun s0 s => Holds (s.1 = b0 ∧ s.2.1 = r ∧ s.2.2.1 = a ∧ s.2.2.2.1 = w ∧ s.2.2.2.2.1 = t ∧ 0 ≤ s.2.2.2.2.2 ∧ s.2.2.2.2.2 ≤ t + 1)
  mu := fun s => (t + 1 - s.2.2.2.2.2).toNat
  ok := by
    intro v h s hg
    try dsimp only at hg
    split at hg <;> cases hg
    rfl

noncomputable def L_lawRayRound (b : List Int) (z : Ray × Vec × Int) : Loops := fun n => match n with
  | 9 => some (LSlawRayRound b z.1 z.2.1 z.2.2 (rayRound z.1 z.2.1 z.2.2).1)
  | _ => none
def rayBoxP (z : Ray × Box) : Prop := wayP z.1
instance : Nonempty {x : Ray × Box // rayBoxP x} := ⟨⟨(⟨⟨0, 0⟩, ⟨0, 0⟩⟩, ⟨⟨0, 0⟩, ⟨0, 0⟩⟩), by simp [rayBoxP, wayP, placeA]⟩⟩
theorem down_le {a w k : Int} (hw : w ≠ 0) (h1 : -2000000000000 ≤ a) (h2 : a ≤ 2000000000000) (hp : 0 < w → a ≤ w * k) (hn : w < 0 → w * k ≤ a) : down a w ≤ k := by
  have hd : w * a.tdiv w + a.tmod w = a := Int.mul_tdiv_add_tmod a w
  have hlt : a.tdiv w ≤ a.natAbs ∧ -(a.natAbs : Int) ≤ a.tdiv w := by
    have h3 := Int.natAbs_tdiv_le_natAbs a w
    omega
  have hab : (a.natAbs : Int) ≤ 2000000000000 := by omega
  have e1 : W (a.tdiv w) = a.tdiv w := wrap_small (by omega) (by omega)
  have e2 : W (a.tdiv w - 1) = a.tdiv w - 1 := wrap_small (by omega) (by omega)
  unfold down
  rw [e1, e2]
  generalize hq : a.tdiv w = q at hd
  have hr0 : 0 ≤ a → 0 ≤ a.tmod w := fun h => Int.tmod_nonneg w h
  have hr1 : a ≤ 0 → a.tmod w ≤ 0 := fun h => by
    have h4 := Int.tmod_nonneg w (show 0 ≤ -a by omega)
    rw [Int.neg_tmod] at h4
    omega
  have hlow : ∀ t : Int, w * q + t = a → (0 < w → 0 ≤ t) → (w < 0 → t ≤ 0) → q ≤ k := by
    intro t ht t1 t2
    rcases Int.lt_or_gt_of_ne hw with h | h
    · have h5 : w * k ≤ w * q := by have := hn h; have := t2 h; omega
      exact Int.le_of_mul_le_mul_left (a := -w) (by rw [Int.neg_mul, Int.neg_mul]; omega) (by omega)
    · have h5 : w * q ≤ w * k := by have := hp h; have := t1 h; omega
      exact Int.le_of_mul_le_mul_left h5 h
  split
  · rename_i hc
    have : q - 1 + 1 ≤ k + 1 := by
      have habs : (a.tmod w).natAbs < w.natAbs := by
        rw [Int.natAbs_tmod]
        exact Nat.mod_lt _ (by omega)
      rcases Int.lt_or_gt_of_ne hw with h | h
      · have h5 := hn h
        have h6 : w * (k + 1) = w * k + w := by rw [Int.mul_add, Int.mul_one]
        have h7 : w * (k + 1) < w * q := by omega
        have h8 : q < k + 1 := Int.lt_of_mul_lt_mul_left (a := -w) (by rw [Int.neg_mul, Int.neg_mul]; omega) (by omega)
        omega
      · have h5 := hp h
        have h6 : w * (k + 1) = w * k + w := by rw [Int.mul_add, Int.mul_one]
        have h7 : w * q < w * (k + 1) := by omega
        have h8 : q < k + 1 := Int.lt_of_mul_lt_mul_left h7 (by omega)
        omega
    omega
  · rename_i hc
    by_cases hz : a.tmod w = 0
    · exact hlow 0 (by omega) (fun _ => by omega) (fun _ => by omega)
    · have hs : (a < 0) ↔ (w < 0) := by
        rcases Classical.em ((a < 0) ↔ (w < 0)) with h | h
        · exact h
        · exact absurd ⟨hz, h⟩ hc
      refine hlow _ hd (fun h => hr0 (by omega)) (fun h => hr1 ?_)
      have := hs.2 h
      omega
theorem down_ge {a w : Int} (hw : w ≠ 0) (h1 : -2000000000000 ≤ a) (h2 : a ≤ 2000000000000) : -2000000000001 ≤ down a w ∧ down a w ≤ 2000000000000 := by
  have h3 := Int.natAbs_tdiv_le_natAbs a w
  have e1 : W (a.tdiv w) = a.tdiv w := wrap_small (by omega) (by omega)
  have e2 : W (a.tdiv w - 1) = a.tdiv w - 1 := wrap_small (by omega) (by omega)
  unfold down
  rw [e1, e2]
  split <;> omega
theorem slab_k {f w lo hi A B k d : Int} (f1 : -2560000 ≤ f) (f2 : f ≤ 2560000) (l1 : -2560000 ≤ lo) (l2 : lo ≤ 2560000) (g1 : -2560000 ≤ hi) (g2 : hi ≤ 2560000)
    (hA : A ≤ k) (hB : k ≤ B) (hd : 256 * d = w * k) (h1 : lo ≤ f + d) (h2 : f + d ≤ hi) : (slab f w lo hi A B).2.2 = true ∧ (slab f w lo hi A B).1 ≤ k ∧ k ≤ (slab f w lo hi A B).2.1 := by
  unfold slab
  by_cases hw : w = 0
  · rw [if_pos hw]
    subst hw
    have : d = 0 := by omega
    subst this
    refine ⟨?_, hA, hB⟩
    simp only [isIn, Bool.and_eq_true, decide_eq_true_eq]
    omega
  · rw [if_neg hw]
    have hneg : w * (-k) = -(w * k) := Int.mul_neg w k
    by_cases hn : w < 0
    · rw [if_pos hn]
      have e1 : W (hi - f) = hi - f := wrap_small (by omega) (by omega)
      have e2 : W ((hi - f) * 256) = (hi - f) * 256 := wrap_small (by omega) (by omega)
      have e3 : W (f - lo) = f - lo := wrap_small (by omega) (by omega)
      have e4 : W ((f - lo) * 256) = (f - lo) * 256 := wrap_small (by omega) (by omega)
      have k1 := down_le (a := (hi - f) * 256) hw (by omega) (by omega) (fun h => by omega) (fun _ => by omega : w < 0 → w * k ≤ (hi - f) * 256)
      have k2 := down_le (a := (f - lo) * 256) (k := -k) hw (by omega) (by omega) (fun h => by omega) (fun _ => by rw [hneg]; omega)
      have k3 := down_ge (a := (f - lo) * 256) hw (by omega) (by omega)
      simp only [e1, e2, e3, e4]
      have e5 : W (0 - down ((f - lo) * 256) w) = 0 - down ((f - lo) * 256) w := wrap_small (by omega) (by omega)
      rw [e5]
      refine ⟨?_, by omega, by omega⟩
      simp only [decide_eq_true_eq]
      omega
    · rw [if_neg hn]
      have hpos : 0 < w := by omega
      have e1 : W (lo - f) = lo - f := wrap_small (by omega) (by omega)
      have e2 : W ((lo - f) * 256) = (lo - f) * 256 := wrap_small (by omega) (by omega)
      have e3 : W (f - hi) = f - hi := wrap_small (by omega) (by omega)
      have e4 : W ((f - hi) * 256) = (f - hi) * 256 := wrap_small (by omega) (by omega)
      have k1 := down_le (a := (lo - f) * 256) (k := k) hw (by omega) (by omega) (fun _ => by omega) (fun h => by omega)
      have k2 := down_le (a := (f - hi) * 256) (k := -k) hw (by omega) (by omega) (fun _ => by rw [hneg]; omega) (fun h => by omega)
      have k3 := down_ge (a := (f - hi) * 256) hw (by omega) (by omega)
      simp only [e1, e2, e3, e4]
      have e5 : W (0 - down ((f - hi) * 256) w) = 0 - down ((f - hi) * 256) w := wrap_small (by omega) (by omega)
      rw [e5]
      refine ⟨?_, by omega, by omega⟩
      simp only [decide_eq_true_eq]
      omega
theorem slab_in {f w lo hi A B : Int} (hAB : A ≤ B) (h : (slab f w lo hi A B).2.2 = true) : A ≤ (slab f w lo hi A B).1 ∧ (slab f w lo hi A B).1 ≤ (slab f w lo hi A B).2.1 ∧ (slab f w lo hi A B).2.1 ≤ B := by
  unfold slab at h ⊢
  split at h
  · rename_i c
    rw [if_pos c]
    exact ⟨Int.le_refl _, hAB, Int.le_refl _⟩
  · rename_i c
    rw [if_neg c]
    split at h
    · rename_i c2
      rw [if_pos c2]
      have h := of_decide_eq_true h
      simp only at h ⊢
      omega
    · rename_i c2
      rw [if_neg c2]
      have h := of_decide_eq_true h
      simp only at h ⊢
      omega
theorem rayBox_t {r : Ray} {b : Box} (h : (rayBox r b).2 = true) : 0 ≤ (rayBox r b).1 ∧ (rayBox r b).1 ≤ 256 := by
  unfold rayBox at h ⊢
  simp only at h ⊢
  split at h
  · rename_i c1
    rw [if_pos c1]
    obtain ⟨p1, p2, p3⟩ := slab_in (by omega) c1
    split at h
    · rename_i c2
      rw [if_pos c2]
      obtain ⟨q1, q2, q3⟩ := slab_in p2 c2
      simp only
      omega
    · cases h
  · cases h
theorem rayBox_k {r : Ray} {b : Box} {k dx dy : Int} (hf : placeOk r.From = true) (hl : placeOk b.Low = true) (hh : placeOk b.High = true) (k0 : 0 ≤ k) (k1 : k ≤ 256)
    (hx : 256 * dx = r.Way.X * k) (hy : 256 * dy = r.Way.Y * k) (hp : hasPoint b ⟨r.From.X + dx, r.From.Y + dy⟩ = true) : (rayBox r b).2 = true ∧ (rayBox r b).1 ≤ k := by
  simp only [placeOk, isIn, hasPoint, Bool.and_eq_true, decide_eq_true_eq] at hf hl hh hp
  unfold rayBox
  simp only
  obtain ⟨c1, c2, c3⟩ := slab_k (f := r.From.X) (w := r.Way.X) (lo := b.Low.X) (hi := b.High.X) (A := 0) (B := 256) (k := k) (d := dx) (by omega) (by omega) (by omega) (by omega) (by omega) (by omega) k0 k1 hx (by omega) (by omega)
  rw [if_pos c1]
  obtain ⟨d1, d2, d3⟩ := slab_k (f := r.From.Y) (w := r.Way.Y) (lo := b.Low.Y) (hi := b.High.Y) (k := k) (d := dy) (by omega) (by omega) (by omega) (by omega) (by omega) (by omega) c2 c3 hy (by omega) (by omega)
  rw [if_pos d1]
  exact ⟨rfl, d2⟩

def boxHas (a b : Box) : Bool := boxOk a && boxOk b && hasPoint a b.Low && hasPoint a b.High
def LSlawRayBox  : LS where
  S := List Int × Ray × Box × Int × Bool × Bool × Int
  live := [(3, [none]), (4, [none]), (5, [none]), (6, [none]), (9, [none]), (10, [none])]
  shape := fun s => ([.ptr 1 0 0, .ptr 2 0 0, .int .i64 s.2.2.2.1, .bool s.2.2.2.2.1, .bool s.2.2.2.2.2.1, .int .i64 s.2.2.2.2.2.2], [(false, .vec .byte s.1), (true, .box [.int .i64 s.2.1.From.X, .int .i64 s.2.1.From.Y, .int .i64 s.2.1.Way.X, .int .i64 s.2.1.Way.Y]), (true, .box [.int .i64 s.2.2.1.Low.X, .int .i64 s.2.2.1.Low.Y, .int .i64 s.2.2.1.High.X, .int .i64 s.2.2.1.High.Y])])
  get := fun v h => match v, h with
    | [.ptr 1 0 0, .ptr 2 0 0, .int .i64 t, .bool o, .bool f, .int .i64 k], [(false, .vec .byte b), (true, .box [.int .i64 rFX, .int .i64 rFY, .int .i64 rWX, .int .i64 rWY]), (true, .box [.int .i64 xLX, .int .i64 xLY, .int .i64 xHX, .int .i64 xHY])] => some (b, (Ray.mk (Vec.mk rFX rFY) (Vec.mk rWX rWY)), (Box.mk (Vec.mk xLX xLY) (Vec.mk xHX xHY)), t, o, f, k)
    | _, _ => none
  inv := fun s0 s => Holds (s.1 = s0.1 ∧ s.2.1 = s0.2.1 ∧ s.2.2.1 = s0.2.2.1 ∧ s.2.2.2.1 = s0.2.2.2.1 ∧ s.2.2.2.2.1 = s0.2.2.2.2.1 ∧ s.2.2.2.2.2.1 = s0.2.2.2.2.2.1 ∧ 0 ≤ s.2.2.2.2.2.2 ∧ s.2.2.2.2.2.2 ≤ 257)
  mu := fun s => (257 - s.2.2.2.2.2.2).toNat
  ok := by
    intro v h s hg
    try dsimp only at hg
    split at hg <;> cases hg
    rfl

def L_lawRayBox : Loops := fun n => match n with
  | 10 => some LSlawRayBox
  | _ => none
theorem absW_le {n : Int} (h1 : -9000000000000000000 ≤ n) (h2 : n ≤ 9000000000000000000) (h : absW n ≤ 2560000) : -2560000 ≤ n ∧ n ≤ 2560000 := by
  unfold absW at h
  by_cases c : n < 0
  · simp only [c, decide_true, cond_true] at h
    rw [show W (0 - n) = 0 - n from wrap_small (by omega) (by omega)] at h
    omega
  · simp only [c, decide_false, cond_false] at h
    omega
theorem box_bounds {x : Box} (h : boxOk x = true) : -1000000000 ≤ x.Low.X ∧ x.Low.X ≤ 1000000000 ∧ -1000000000 ≤ x.Low.Y ∧ x.Low.Y ≤ 1000000000 ∧ -1000000000 ≤ x.High.X ∧ x.High.X ≤ 1000000000 ∧ -1000000000 ≤ x.High.Y ∧ x.High.Y ≤ 1000000000 := by
  simp only [boxOk, vecOk, isIn, Bool.and_eq_true, decide_eq_true_eq] at h
  omega
theorem rayBoxAll_t {r : Ray} {x : Box} {t : Int} (h : rayBoxAll r x = (t, true)) : 0 ≤ t ∧ t ≤ 256 := by
  unfold rayBoxAll at h
  split at h
  · have := rayBox_t (r := r) (b := x) (by rw [h])
    rw [h] at this
    exact this
  · cases h
/-- What the law asks at a part of the way. -/
theorem rayBox_at {r : Ray} {x : Box} {k : Int} (hr : wayP r) (hb : boxOk x = true) (hw : (r.Way.X == 0 && r.Way.Y == 0) = false)
    (a1 : absW x.Low.X ≤ 2560000) (a2 : absW x.Low.Y ≤ 2560000) (a3 : absW x.High.X ≤ 2560000) (a4 : absW x.High.Y ≤ 2560000) (a5 : absW r.From.X ≤ 2560000) (a6 : absW r.From.Y ≤ 2560000)
    (k0 : 0 ≤ k) (k1 : k ≤ 256) (hx : ((W (r.Way.X * k)).tmod 256 == 0) = true) (hy : ((W (r.Way.Y * k)).tmod 256 == 0) = true)
    (hh : boxHas x ⟨⟨W (r.From.X + W ((W (r.Way.X * k)).tdiv 256)), W (r.From.Y + W ((W (r.Way.Y * k)).tdiv 256))⟩, ⟨W (r.From.X + W ((W (r.Way.X * k)).tdiv 256)), W (r.From.Y + W ((W (r.Way.Y * k)).tdiv 256))⟩⟩ = true) :
    (rayBoxAll r x).2 = true ∧ (rayBoxAll r x).1 ≤ k := by
  obtain ⟨b1, b2, b3, b4, b5, b6, b7, b8⟩ := box_bounds hb
  obtain ⟨⟨f1, f2, f3, f4⟩, w1, w2, w3, w4⟩ := hr
  have c1 := absW_le (by omega) (by omega) a1
  have c2 := absW_le (by omega) (by omega) a2
  have c3 := absW_le (by omega) (by omega) a3
  have c4 := absW_le (by omega) (by omega) a4
  have c5 := absW_le (by omega) (by omega) a5
  have c6 := absW_le (by omega) (by omega) a6
  have m1 : r.Way.X * k ≤ 2560000 * 256 ∧ -(2560000 * 256) ≤ r.Way.X * k := by
    rcases Int.le_total 0 r.Way.X with h | h
    · have := mul_le_mul0 h w2 k0 k1
      omega
    · have := mul_le_mul0 (x := -r.Way.X) (X := 2560000) (by omega) (by omega) k0 k1
      rw [Int.neg_mul] at this
      omega
  have m2 : r.Way.Y * k ≤ 2560000 * 256 ∧ -(2560000 * 256) ≤ r.Way.Y * k := by
    rcases Int.le_total 0 r.Way.Y with h | h
    · have := mul_le_mul0 h w4 k0 k1
      omega
    · have := mul_le_mul0 (x := -r.Way.Y) (X := 2560000) (by omega) (by omega) k0 k1
      rw [Int.neg_mul] at this
      omega
  rw [show W (r.Way.X * k) = r.Way.X * k from wrap_small (by omega) (by omega)] at hx hh
  rw [show W (r.Way.Y * k) = r.Way.Y * k from wrap_small (by omega) (by omega)] at hy hh
  have hx : (r.Way.X * k).tmod 256 = 0 := by simpa using hx
  have hy : (r.Way.Y * k).tmod 256 = 0 := by simpa using hy
  have dx := Int.mul_tdiv_add_tmod (r.Way.X * k) 256
  have dy := Int.mul_tdiv_add_tmod (r.Way.Y * k) 256
  generalize hqx : (r.Way.X * k).tdiv 256 = qx at *
  generalize hqy : (r.Way.Y * k).tdiv 256 = qy at *
  rw [show W qx = qx from wrap_small (by omega) (by omega), show W qy = qy from wrap_small (by omega) (by omega),
    show W (r.From.X + qx) = r.From.X + qx from wrap_small (by omega) (by omega), show W (r.From.Y + qy) = r.From.Y + qy from wrap_small (by omega) (by omega)] at hh
  simp only [boxHas, Bool.and_eq_true] at hh
  have pf : placeOk r.From = true := by simp only [placeOk, isIn, Bool.and_eq_true, decide_eq_true_eq]; omega
  have pl : placeOk x.Low = true := by simp only [placeOk, isIn, Bool.and_eq_true, decide_eq_true_eq]; omega
  have ph : placeOk x.High = true := by simp only [placeOk, isIn, Bool.and_eq_true, decide_eq_true_eq]; omega
  have pw : placeOk r.Way = true := by simp only [placeOk, isIn, Bool.and_eq_true, decide_eq_true_eq]; omega
  have hrk : rayOk r = true := by simp only [rayOk, pf, pw, hw, Bool.not_false, Bool.and_true]
  have e : rayBoxAll r x = rayBox r x := by simp [rayBoxAll, hrk, hb, pl, ph]
  rw [e]
  exact rayBox_k pf pl ph k0 k1 (dx := qx) (dy := qy) (by omega) (by omega) hh.2
end Go.Proofs.Ytgdpaijphaeimaa.Sym
