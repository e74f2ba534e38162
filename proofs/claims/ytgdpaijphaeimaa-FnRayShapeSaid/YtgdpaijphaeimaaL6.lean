/-
  The law of rays and shapes.
  No condition.
-/
import Derived.Test.YtgdpaijphaeimaaD3
import Derived.Test.YtgdpaijphaeimaaL1
namespace Go.Proofs.Ytgdpaijphaeimaa.Sym
open Go
set_option linter.unusedVariables false
set_option linter.unusedSimpArgs false
set_option maxRecDepth 100000

theorem down_spec {a w : Int} (hw : w ≠ 0) (h1 : -2000000000000 ≤ a) (h2 : a ≤ 2000000000000) :
    (0 < w → w * down a w ≤ a ∧ a < w * down a w + w) ∧ (w < 0 → a ≤ w * down a w ∧ w * down a w + w < a) := by
  have hd := Int.mul_tdiv_add_tmod a w
  have h3 := Int.natAbs_tdiv_le_natAbs a w
  have e1 : W (a.tdiv w) = a.tdiv w := wrap_small (by omega) (by omega)
  have e2 : W (a.tdiv w - 1) = a.tdiv w - 1 := wrap_small (by omega) (by omega)
  have hr0 : 0 ≤ a → 0 ≤ a.tmod w := fun h => Int.tmod_nonneg w h
  have hr1 : a ≤ 0 → a.tmod w ≤ 0 := fun h => by
    have h4 := Int.tmod_nonneg w (show 0 ≤ -a by omega)
    rw [Int.neg_tmod] at h4
    omega
  have habs : (a.tmod w).natAbs < w.natAbs := by
    rw [Int.natAbs_tmod]
    exact Nat.mod_lt _ (by omega)
  unfold down
  rw [e1, e2]
  generalize a.tdiv w = q at *
  generalize a.tmod w = r at *
  have hm : w * (q - 1) = w * q - w := by rw [Int.mul_sub, Int.mul_one]
  split
  · rename_i hc
    obtain ⟨c1, c2⟩ := hc
    rw [hm]
    refine ⟨fun h => ?_, fun h => ?_⟩
    · have : a < 0 := by
        rcases Int.lt_or_le a 0 with q | q
        · exact q
        · exact absurd ⟨fun h => by omega, fun h => by omega⟩ c2
      have := hr1 (by omega)
      omega
    · have : 0 ≤ a := by
        rcases Int.lt_or_le a 0 with q | q
        · exact absurd ⟨fun _ => h, fun _ => q⟩ c2
        · exact q
      have := hr0 this
      omega
  · rename_i hc
    refine ⟨fun h => ?_, fun h => ?_⟩
    · have : 0 ≤ r := by
        by_cases hz : r = 0
        · omega
        · rcases Int.lt_or_le a 0 with q | q
          · exact absurd ⟨hz, fun e => by have := e.1 q; omega⟩ hc
          · exact hr0 q
      omega
    · have : r ≤ 0 := by
        by_cases hz : r = 0
        · omega
        · rcases Int.lt_or_le a 0 with q | q
          · exact hr1 (by omega)
          · exact absurd ⟨hz, fun e => by have := e.2 h; omega⟩ hc
      omega
theorem down_mono {a c w : Int} (hw : 0 < w) (a1 : -2000000000000 ≤ a) (a2 : a ≤ 2000000000000) (c1 : -2000000000000 ≤ c) (c2 : c ≤ 2000000000000) (h : a ≤ c) : down a w ≤ down c w := by
  have s := (down_spec (show w ≠ 0 by omega) a1 a2).1 hw
  have t := (down_spec (show w ≠ 0 by omega) c1 c2).1 hw
  have e : w * (down c w + 1) = w * down c w + w := by rw [Int.mul_add, Int.mul_one]
  have : w * down a w < w * (down c w + 1) := by omega
  have := Int.lt_of_mul_lt_mul_left this (by omega)
  omega
theorem down_anti {a c w : Int} (hw : w < 0) (a1 : -2000000000000 ≤ a) (a2 : a ≤ 2000000000000) (c1 : -2000000000000 ≤ c) (c2 : c ≤ 2000000000000) (h : a ≤ c) : down c w ≤ down a w := by
  have s := (down_spec (show w ≠ 0 by omega) a1 a2).2 hw
  have t := (down_spec (show w ≠ 0 by omega) c1 c2).2 hw
  have e : w * (down a w + 1) = w * down a w + w := by rw [Int.mul_add, Int.mul_one]
  have : -w * down c w < -w * (down a w + 1) := by
    rw [Int.neg_mul, Int.neg_mul, e]
    omega
  have := Int.lt_of_mul_lt_mul_left this (by omega)
  omega
theorem slab_k2 {f w lo hi A B k : Int} (f1 : -2560000 ≤ f) (f2 : f ≤ 2560000) (l1 : -2560000 ≤ lo) (l2 : lo ≤ 2560000) (g1 : -2560000 ≤ hi) (g2 : hi ≤ 2560000)
    (hA : A ≤ k) (hB : k ≤ B) (h1 : (lo - f) * 256 ≤ w * k) (h2 : w * k ≤ (hi - f) * 256) : (slab f w lo hi A B).2.2 = true ∧ (slab f w lo hi A B).1 ≤ k ∧ k ≤ (slab f w lo hi A B).2.1 := by
  unfold slab
  by_cases hw : w = 0
  · rw [if_pos hw]
    subst hw
    rw [Int.zero_mul] at h1 h2
    refine ⟨?_, hA, hB⟩
    simp only [isIn, Bool.and_eq_true, decide_eq_true_eq]
    omega
  · rw [if_neg hw]
    have hneg : w * (-k) = -(w * k) := Int.mul_neg w k
    by_cases hn : w < 0
    · rw [if_pos hn]
      have e1 : W (hi - f) = hi - f := wrap_small (by omega) (by omega)
      have e2 : W ((hi - f) * 256) = (hi - f) * 256 := wrap_small (by omega) (by omega)
      have e3 : W (f - lo) = f - lo := wrap_small (by omega) (by omega)
      have e4 : W ((f - lo) * 256) = (f - lo) * 256 := wrap_small (by omega) (by omega)
      have k1 := down_le (a := (hi - f) * 256) hw (by omega) (by omega) (fun h => by omega) (fun _ => by omega : w < 0 → w * k ≤ (hi - f) * 256)
      have k2 := down_le (a := (f - lo) * 256) (k := -k) hw (by omega) (by omega) (fun h => by omega) (fun _ => by rw [hneg]; omega)
      have k3 := down_ge (a := (f - lo) * 256) hw (by omega) (by omega)
      simp only [e1, e2, e3, e4]
      have e5 : W (0 - down ((f - lo) * 256) w) = 0 - down ((f - lo) * 256) w := wrap_small (by omega) (by omega)
      rw [e5]
      refine ⟨?_, by omega, by omega⟩
      simp only [decide_eq_true_eq]
      omega
    · rw [if_neg hn]
      have hpos : 0 < w := by omega
      have e1 : W (lo - f) = lo - f := wrap_small (by omega) (by omega)
      have e2 : W ((lo - f) * 256) = (lo - f) * 256 := wrap_small (by omega) (by omega)
      have e3 : W (f - hi) = f - hi := wrap_small (by omega) (by omega)
      have e4 : W ((f - hi) * 256) = (f - hi) * 256 := wrap_small (by omega) (by omega)
      have k1 := down_le (a := (lo - f) * 256) (k := k) hw (by omega) (by omega) (fun _ => by omega) (fun h => by omega)
      have k2 := down_le (a := (f - hi) * 256) (k := -k) hw (by omega) (by omega) (fun _ => by rw [hneg]; omega) (fun h => by omega)
      have k3 := down_ge (a := (f - hi) * 256) hw (by omega) (by omega)
      simp only [e1, e2, e3, e4]
      have e5 : W (0 - down ((f - hi) * 256) w) = 0 - down ((f - hi) * 256) w := wrap_small (by omega) (by omega)
      rw [e5]
      refine ⟨?_, by omega, by omega⟩
      simp only [decide_eq_true_eq]
      omega
theorem slab_mono {f w lo hi lo' hi' A B A' B' : Int} (f1 : -2560000 ≤ f) (f2 : f ≤ 2560000) (l1 : -2560000 ≤ lo') (l2 : hi' ≤ 2560000) (hlo : lo' ≤ lo) (hhi : hi ≤ hi') (hlh : lo ≤ hi)
    (hA : A' ≤ A) (hB : B ≤ B') (h : (slab f w lo hi A B).2.2 = true) : (slab f w lo' hi' A' B').2.2 = true ∧ (slab f w lo' hi' A' B').1 ≤ (slab f w lo hi A B).1 ∧ (slab f w lo hi A B).2.1 ≤ (slab f w lo' hi' A' B').2.1 := by
  unfold slab at h ⊢
  by_cases hw : w = 0
  · simp only [if_pos hw] at h ⊢
    refine ⟨?_, hA, hB⟩
    simp only [isIn, Bool.and_eq_true, decide_eq_true_eq] at h ⊢
    omega
  · simp only [if_neg hw] at h ⊢
    have w1 : ∀ x y : Int, -2560000 ≤ x → x ≤ 2560000 → -2560000 ≤ y → y ≤ 2560000 → W (W (x - y) * 256) = (x - y) * 256 := fun x y a b c d => by
      rw [W_small (n := x - y) (by omega) (by omega), W_small (by omega) (by omega)]
    have w2 : ∀ x, -2000000000000 ≤ x → x ≤ 2000000000000 → W (0 - down x w) = 0 - down x w := fun x a b => by
      have := down_ge hw a b
      exact W_small (by omega) (by omega)
    by_cases hn : w < 0
    · simp only [if_pos hn] at h ⊢
      rw [w1 hi f (by omega) (by omega) f1 f2, w1 f lo f1 f2 (by omega) (by omega), w2 _ (by omega) (by omega)] at h
      rw [w1 hi f (by omega) (by omega) f1 f2, w1 f lo f1 f2 (by omega) (by omega), w1 hi' f (by omega) (by omega) f1 f2, w1 f lo' f1 f2 (by omega) (by omega), w2 ((f - lo) * 256) (by omega) (by omega), w2 ((f - lo') * 256) (by omega) (by omega)]
      have m1 := down_anti hn (a := (hi - f) * 256) (c := (hi' - f) * 256) (by omega) (by omega) (by omega) (by omega) (by omega)
      have m2 := down_anti hn (a := (f - lo) * 256) (c := (f - lo') * 256) (by omega) (by omega) (by omega) (by omega) (by omega)
      have h := of_decide_eq_true h
      refine ⟨decide_eq_true ?_, ?_, ?_⟩ <;> omega
    · simp only [if_neg hn] at h ⊢
      have hp : 0 < w := by omega
      rw [w1 lo f (by omega) (by omega) f1 f2, w1 f hi f1 f2 (by omega) (by omega), w2 _ (by omega) (by omega)] at h
      rw [w1 lo f (by omega) (by omega) f1 f2, w1 f hi f1 f2 (by omega) (by omega), w1 lo' f (by omega) (by omega) f1 f2, w1 f hi' f1 f2 (by omega) (by omega), w2 ((f - hi) * 256) (by omega) (by omega), w2 ((f - hi') * 256) (by omega) (by omega)]
      have m1 := down_mono hp (a := (lo' - f) * 256) (c := (lo - f) * 256) (by omega) (by omega) (by omega) (by omega) (by omega)
      have m2 := down_mono hp (a := (f - hi') * 256) (c := (f - hi) * 256) (by omega) (by omega) (by omega) (by omega) (by omega)
      have h := of_decide_eq_true h
      refine ⟨decide_eq_true ?_, ?_, ?_⟩ <;> omega
theorem rayBox_mono {r : Ray} {a b : Box} (hf : placeOk r.From = true) (hl : placeOk b.Low = true) (hh : placeOk b.High = true) (x0 : b.Low.X ≤ a.Low.X) (y0 : b.Low.Y ≤ a.Low.Y) (x1 : a.High.X ≤ b.High.X) (y1 : a.High.Y ≤ b.High.Y)
    (x2 : a.Low.X ≤ a.High.X) (y2 : a.Low.Y ≤ a.High.Y) (h : (rayBox r a).2 = true) : (rayBox r b).2 = true := by
  simp only [placeOk, isIn, Bool.and_eq_true, decide_eq_true_eq] at hf hl hh
  unfold rayBox at h ⊢
  simp only at h ⊢
  split at h
  · rename_i c1
    obtain ⟨d1, d2, d3⟩ := slab_mono (A' := 0) (B' := 256) hf.1.1 hf.1.2 hl.1.1 hh.1.2 x0 x1 x2 (Int.le_refl _) (Int.le_refl _) c1
    rw [if_pos d1]
    split at h
    · rename_i c2
      obtain ⟨e1, _⟩ := slab_mono hf.2.1 hf.2.2 hl.2.1 hh.2.2 y0 y1 y2 d2 d3 c2
      rw [if_pos e1]
    · cases h
  · cases h
theorem roundFrom_some {r : Ray} {p : Vec} {wide : Int} : ∀ {k : Nat}, k ≤ 257 → (roundFrom r p wide k).2 = true → ∃ t : Int, 0 ≤ t ∧ t ≤ 256 ∧ roundAt r p wide t = true
  | 0, _, h => by cases h
  | k + 1, hk, h => by
    rw [roundFrom] at h
    cases c : roundAt r p wide (257 - ((k : Int) + 1)) with
    | true => exact ⟨_, by omega, by omega, c⟩
    | false =>
      rw [c] at h
      exact roundFrom_some (by omega) h
theorem sq_in {x m : Int} (h0 : 0 ≤ m) (h : x * x ≤ m * m) : -m ≤ x ∧ x ≤ m := by
  refine ⟨?_, ?_⟩
  · rcases Int.lt_or_le x (-m) with q | q
    · have := sq_le (x := m + 1) (y := -x) (by omega) (by omega)
      rw [Int.neg_mul_neg] at this
      have e : (m + 1) * (m + 1) = m * m + (2 * m + 1) := by rw [Int.add_mul, Int.mul_add]; omega
      omega
    · exact q
  · rcases Int.lt_or_le m x with q | q
    · have := sq_le (x := m + 1) (y := x) (by omega) (by omega)
      have e : (m + 1) * (m + 1) = m * m + (2 * m + 1) := by rw [Int.add_mul, Int.mul_add]; omega
      omega
    · exact q
theorem mul_abs {x y X Y : Int} (x0 : -X ≤ x) (x1 : x ≤ X) (y0 : 0 ≤ y) (y1 : y ≤ Y) : -(X * Y) ≤ x * y ∧ x * y ≤ X * Y := by
  rcases Int.le_total 0 x with h | h
  · have := mul_le_mul0 h x1 y0 y1
    omega
  · have := mul_le_mul0 (x := -x) (X := X) (by omega) (by omega) y0 y1
    rw [Int.neg_mul] at this
    omega
/-- Where a ray is in something round, its bounds, one wider, have it. -/
theorem round_near {r : Ray} {p : Vec} {wide t : Int} (hr : rayOk r = true) (hp : placeOk p = true) (w0 : 1 ≤ wide) (w1 : wide ≤ 25600) (t0 : 0 ≤ t) (t1 : t ≤ 256) (h : roundAt r p wide t = true) :
    (p.X - wide - 1 - r.From.X) * 256 ≤ r.Way.X * t ∧ r.Way.X * t ≤ (p.X + wide + 1 - r.From.X) * 256 ∧ (p.Y - wide - 1 - r.From.Y) * 256 ≤ r.Way.Y * t ∧ r.Way.Y * t ≤ (p.Y + wide + 1 - r.From.Y) * 256 := by
  simp only [rayOk, placeOk, isIn, Bool.and_eq_true, decide_eq_true_eq] at hr hp
  obtain ⟨⟨⟨⟨f1, f2⟩, f3, f4⟩, ⟨g1, g2⟩, g3, g4⟩, _⟩ := hr
  obtain ⟨⟨p1, p2⟩, p3, p4⟩ := hp
  have mx := mul_abs g1 g2 t0 t1
  have my := mul_abs g3 g4 t0 t1
  have h := of_decide_eq_true h
  have tx := tdiv256 (r.Way.X * t)
  have ty := tdiv256 (r.Way.Y * t)
  have bx : -2560000 ≤ (r.Way.X * t).tdiv 256 ∧ (r.Way.X * t).tdiv 256 ≤ 2560000 ∧ 256 * (r.Way.X * t).tdiv 256 - 256 < r.Way.X * t ∧ r.Way.X * t < 256 * (r.Way.X * t).tdiv 256 + 256 := by
    rcases Int.le_total 0 (r.Way.X * t) with q | q
    · have := tx.1 q
      omega
    · have := tx.2 q
      omega
  have by' : -2560000 ≤ (r.Way.Y * t).tdiv 256 ∧ (r.Way.Y * t).tdiv 256 ≤ 2560000 ∧ 256 * (r.Way.Y * t).tdiv 256 - 256 < r.Way.Y * t ∧ r.Way.Y * t < 256 * (r.Way.Y * t).tdiv 256 + 256 := by
    rcases Int.le_total 0 (r.Way.Y * t) with q | q
    · have := ty.1 q
      omega
    · have := ty.2 q
      omega
  simp only [minus, rayAt, plus, scaled] at h
  rw [W_small (n := r.Way.X * t) (by omega) (by omega), W_small (n := r.Way.Y * t) (by omega) (by omega)] at h
  generalize (r.Way.X * t).tdiv 256 = qx at *
  generalize (r.Way.Y * t).tdiv 256 = qy at *
  rw [W_small (n := qx) (by omega) (by omega), W_small (n := qy) (by omega) (by omega), W_small (n := r.From.X + qx) (by omega) (by omega), W_small (n := r.From.Y + qy) (by omega) (by omega),
    W_small (n := r.From.X + qx - p.X) (by omega) (by omega), W_small (n := r.From.Y + qy - p.Y) (by omega) (by omega)] at h
  have s1 := sq_abs (x := r.From.X + qx - p.X) (m := 10000000) (by omega) (by omega)
  have s2 := sq_abs (x := r.From.Y + qy - p.Y) (m := 10000000) (by omega) (by omega)
  have s3 := sq_abs (x := wide) (m := 25600) (by omega) (by omega)
  unfold square at h
  simp only at h
  rw [W_small (n := (r.From.X + qx - p.X) * (r.From.X + qx - p.X)) (by omega) (by omega), W_small (n := (r.From.Y + qy - p.Y) * (r.From.Y + qy - p.Y)) (by omega) (by omega), W_small (by omega) (by omega), W_small (n := wide * wide) (by omega) (by omega)] at h
  have i1 := sq_in (x := r.From.X + qx - p.X) (m := wide) (by omega) (by omega)
  have i2 := sq_in (x := r.From.Y + qy - p.Y) (m := wide) (by omega) (by omega)
  omega
def vecAdd (a b : Vec) : Vec := clampV 1000000000 (plus (clampV 1000000000 a) (clampV 1000000000 b))
def shapeBounds (s : Shape) (p : Vec) : Box := bif shapeOk s && placeOk p then bounds s p else ⟨⟨0, 0⟩, ⟨0, 0⟩⟩
noncomputable def fs_implVecAdd : Fs := ⟨[], fun args H => match args, H with
  | [.agg [.int .i64 aX, .int .i64 aY], .agg [.int .i64 bX, .int .i64 bY]], [] => some (none, .agg [.int .i64 (vecAdd (Vec.mk aX aY) (Vec.mk bX bY)).X, .int .i64 (vecAdd (Vec.mk aX aY) (Vec.mk bX bY)).Y], [])
  | _, _ => none⟩

theorem vc_implVecAdd (aX : Int) (aY : Int) (bX : Int) (bY : Int) (Q : SV → List Ent → Prop) :
    fnVC tt (look [(102, fs_vecClamped), (104, fs_vecPlus)]) L0 Try.f34 [.agg [.int .i64 aX, .int .i64 aY], .agg [.int .i64 bX, .int .i64 bY]] [] Q =
    (Q (SV.agg [SV.int IntKind.i64 (withinI (Vec.X (plus (Vec.mk (withinI aX (1000000000 : Int)) (withinI aY (1000000000 : Int))) (Vec.mk (withinI bX (1000000000 : Int)) (withinI bY (1000000000 : Int))))) (1000000000 : Int)), SV.int IntKind.i64 (withinI (Vec.Y (plus (Vec.mk (withinI aX (1000000000 : Int)) (withinI aY (1000000000 : Int))) (Vec.mk (withinI bX (1000000000 : Int)) (withinI bY (1000000000 : Int))))) (1000000000 : Int))]) []) := by kernel_rfl

theorem ok_implVecAdd : FsOk Try.prog 34 fs_implVecAdd := fsOk_of tt_ok (tabFs_cons ok_vecClamped (tabFs_cons ok_vecPlus tabFs_nil)) mixed Try.func34 (by kernel_rfl) (by kernel_rfl) (by
    intro args LL p r HH h hp
    unfold fs_implVecAdd at h
    dsimp only at h
    split at h
    case h_2 => cases h
    rename_i aX aY bX bY
    simp only [Option.some.injEq, Prod.mk.injEq] at h
    obtain ⟨rfl, rfl, rfl⟩ := h
    refine ⟨by simp [Form, stays], L0, ?_⟩
    rw [vc_implVecAdd]
    try dsimp only
    simp only [withinI_big, vecAdd, clampV, and_self])

noncomputable def fs_implShapeBounds : Fs := ⟨[], fun args H => match args, H with
  | [.agg [.int .i64 sK, .int .i64 sW, .int .i64 sH], .agg [.int .i64 pX, .int .i64 pY]], [] => some (none, .agg [.int .i64 (shapeBounds (Shape.mk sK sW sH) (Vec.mk pX pY)).Low.X, .int .i64 (shapeBounds (Shape.mk sK sW sH) (Vec.mk pX pY)).Low.Y, .int .i64 (shapeBounds (Shape.mk sK sW sH) (Vec.mk pX pY)).High.X, .int .i64 (shapeBounds (Shape.mk sK sW sH) (Vec.mk pX pY)).High.Y], [])
  | _, _ => none⟩

theorem vc_implShapeBounds (sK : Int) (sW : Int) (sH : Int) (pX : Int) (pY : Int) (Q : SV → List Ent → Prop) :
    fnVC tt (look [(92, fs_implShapeOk), (93, fs_isPlace), (96, fs_implBounds)]) L0 Try.f32 [.agg [.int .i64 sK, .int .i64 sW, .int .i64 sH], .agg [.int .i64 pX, .int .i64 pY]] [] Q =
    (ifB (!shapeOk (Shape.mk sK sW sH)) (Q (SV.agg [SV.int IntKind.i64 (0 : Int), SV.int IntKind.i64 (0 : Int), SV.int IntKind.i64 (0 : Int), SV.int IntKind.i64 (0 : Int)]) []) (ifB (!placeOk (Vec.mk pX pY)) (Q (SV.agg [SV.int IntKind.i64 (0 : Int), SV.int IntKind.i64 (0 : Int), SV.int IntKind.i64 (0 : Int), SV.int IntKind.i64 (0 : Int)]) []) (Q (SV.agg [SV.int IntKind.i64 (Vec.X (Box.Low (bounds (Shape.mk sK sW sH) (Vec.mk pX pY)))), SV.int IntKind.i64 (Vec.Y (Box.Low (bounds (Shape.mk sK sW sH) (Vec.mk pX pY)))), SV.int IntKind.i64 (Vec.X (Box.High (bounds (Shape.mk sK sW sH) (Vec.mk pX pY)))), SV.int IntKind.i64 (Vec.Y (Box.High (bounds (Shape.mk sK sW sH) (Vec.mk pX pY))))]) []))) := by kernel_rfl

theorem ok_implShapeBounds : FsOk Try.prog 32 fs_implShapeBounds := fsOk_of tt_ok (tabFs_cons ok_implShapeOk (tabFs_cons ok_isPlace (tabFs_cons ok_implBounds tabFs_nil))) mixed Try.func32 (by kernel_rfl) (by kernel_rfl) (by
    intro args LL p r HH h hp
    unfold fs_implShapeBounds at h
    dsimp only at h
    split at h
    case h_2 => cases h
    rename_i sK sW sH pX pY
    simp only [Option.some.injEq, Prod.mk.injEq] at h
    obtain ⟨rfl, rfl, rfl⟩ := h
    refine ⟨by simp [Form, stays], L0, ?_⟩
    rw [vc_implShapeBounds]
    try dsimp only
    refine ifB_of (fun c => ?_) (fun c => ifB_of (fun c2 => ?_) (fun c2 => ?_))
    · simp [shapeBounds, not_true c]
    · simp [shapeBounds, not_true c2]
    · simp [shapeBounds, not_false c, not_false c2])

/-- Far from the end of the world. -/
def wellIn (s : Shape) (p : Vec) : Prop := p.X + s.Wide < 2560000 ∧ s.Wide - p.X < 2560000 ∧ p.Y + s.Wide + s.High < 2560000 ∧ s.Wide + s.High - p.Y < 2560000
theorem ray_from {s : Shape} {p : Vec} (hs : shapeOk s = true) (hw : wellIn s p) (hp : placeOk p = true) : rayShape ⟨p, ⟨300, -7⟩⟩ s p = (0, true) := by
  have hr : rayOk ⟨p, ⟨300, -7⟩⟩ = true := by
    show (placeOk p && placeOk ⟨300, -7⟩ && !((300 : Int) == 0 && (-7 : Int) == 0)) = true
    rw [hp]
    rfl
  obtain ⟨h1, h2, h3, h4⟩ := shapeOk_le hs
  obtain ⟨e, k1, k2⟩ := bounds_eq hs hp
  obtain ⟨p1, p2, p3, p4⟩ := placeOk_le hp
  unfold rayShape
  rw [hr, hs, hp]
  simp only [Bool.and_self, if_true]
  split
  · have hwd : isIn s.Wide 1 25600 = true := by simp [isIn]; omega
    unfold rayRound
    rw [hr, hp, hwd]
    simp only [Bool.and_self, cond_true]
    have hs := roundFrom_step (r := ⟨p, ⟨300, -7⟩⟩) (p := p) (wide := s.Wide) (t := 0) (by omega) (by omega)
    rw [show (257 - (0 : Int)).toNat = 257 from rfl] at hs
    have ha : roundAt ⟨p, ⟨300, -7⟩⟩ p s.Wide 0 = true := by
      have s3 := sq_abs (x := s.Wide) (m := 25600) (by omega) (by omega)
      unfold roundAt square minus rayAt plus scaled
      simp only [Int.mul_zero]
      refine decide_eq_true ?_
      rw [show W 0 = 0 from rfl, show (0 : Int).tdiv 256 = 0 from rfl, show W 0 = 0 from rfl, Int.add_zero, Int.add_zero, W_small (n := p.X) (by omega) (by omega), W_small (n := p.Y) (by omega) (by omega), Int.sub_self, Int.sub_self,
        show W 0 = 0 from rfl, show (0 : Int) * 0 = 0 from rfl, show W 0 = 0 from rfl, show (0 : Int) + 0 = 0 from rfl, show W 0 = 0 from rfl, W_small (n := s.Wide * s.Wide) (by omega) (by omega)]
      exact s3.1
    rw [hs, ha]
    rfl
  · rename_i hk
    have hk2 : s.Kind = 2 := by omega
    have hh : highOf s = s.High := by simp [highOf, hk2]
    unfold wellIn at hw
    have hl : placeOk (bounds s p).Low = true := by rw [e]; simp only [placeOk, isIn, Bool.and_eq_true, decide_eq_true_eq]; omega
    have hh2 : placeOk (bounds s p).High = true := by rw [e]; simp only [placeOk, isIn, Bool.and_eq_true, decide_eq_true_eq]; omega
    have hpt : hasPoint (bounds s p) ⟨p.X + 0, p.Y + 0⟩ = true := by rw [e]; simp only [hasPoint, isIn, Bool.and_eq_true, decide_eq_true_eq]; omega
    obtain ⟨q1, q2⟩ := rayBox_k (r := ⟨p, ⟨300, -7⟩⟩) (b := bounds s p) (k := 0) (dx := 0) (dy := 0) hp hl hh2 (by omega) (by omega) (by simp) (by simp) hpt
    have q3 := rayBox_t q1
    have q4 : (rayBox ⟨p, ⟨300, -7⟩⟩ (bounds s p)).1 = 0 := by omega
    rw [← q4, ← q1]
theorem ray_near {r : Ray} {s : Shape} {p : Vec} (hs : shapeOk s = true) (hw : wellIn s p) (hp : placeOk p = true) (h : (rayShape r s p).2 = true) :
    (rayBoxAll r ⟨vecSub (shapeBounds s p).Low ⟨1, 1⟩, vecAdd (shapeBounds s p).High ⟨1, 1⟩⟩).2 = true := by
  obtain ⟨h1, h2, h3, h4⟩ := shapeOk_le hs
  obtain ⟨e, k1, k2⟩ := bounds_eq hs hp
  obtain ⟨p1, p2, p3, p4⟩ := placeOk_le hp
  unfold wellIn at hw
  have hr : rayOk r = true := by
    unfold rayShape at h
    cases q : rayOk r with
    | true => rfl
    | false => rw [q] at h; cases h
  have hb : shapeBounds s p = bounds s p := by simp [shapeBounds, hs, hp]
  have hH : highOf s + 1 ≤ s.Wide + s.High ∨ highOf s = s.Wide := by
    unfold highOf
    rcases h3 with k | k
    · right; simp [k]
    · left
      have := h4 k
      simp [k]
      omega
  have hsh : 0 ≤ s.High := by
    unfold shapeOk at hs
    split at hs
    · simp only [Bool.and_eq_true, beq_iff_eq] at hs
      omega
    · rename_i q
      have := h4 (by omega)
      omega
  have eb : (⟨vecSub (shapeBounds s p).Low ⟨1, 1⟩, vecAdd (shapeBounds s p).High ⟨1, 1⟩⟩ : Box) = ⟨⟨p.X - s.Wide - 1, p.Y - highOf s - 1⟩, ⟨p.X + s.Wide + 1, p.Y + highOf s + 1⟩⟩ := by
    rw [hb, e]
    have cl : ∀ n, -10000000 ≤ n → n ≤ 10000000 → clampTo 1000000000 n = n := fun n a b => by unfold clampTo; omega
    simp only [vecSub, vecAdd, clampV, minus, plus]
    rw [cl (p.X - s.Wide) (by omega) (by omega), cl (p.Y - highOf s) (by omega) (by omega), cl (p.X + s.Wide) (by omega) (by omega), cl (p.Y + highOf s) (by omega) (by omega), cl 1 (by omega) (by omega),
      W_small (n := p.X - s.Wide - 1) (by omega) (by omega), W_small (n := p.Y - highOf s - 1) (by omega) (by omega), W_small (n := p.X + s.Wide + 1) (by omega) (by omega), W_small (n := p.Y + highOf s + 1) (by omega) (by omega),
      cl _ (by omega) (by omega), cl _ (by omega) (by omega), cl _ (by omega) (by omega), cl _ (by omega) (by omega)]
  rw [eb]
  have hl : placeOk ⟨p.X - s.Wide - 1, p.Y - highOf s - 1⟩ = true := by simp only [placeOk, isIn, Bool.and_eq_true, decide_eq_true_eq]; omega
  have hh : placeOk ⟨p.X + s.Wide + 1, p.Y + highOf s + 1⟩ = true := by simp only [placeOk, isIn, Bool.and_eq_true, decide_eq_true_eq]; omega
  have ho : boxOk ⟨⟨p.X - s.Wide - 1, p.Y - highOf s - 1⟩, ⟨p.X + s.Wide + 1, p.Y + highOf s + 1⟩⟩ = true := by
    simp only [boxOk, vecOk, isIn, Bool.and_eq_true, decide_eq_true_eq]
    omega
  unfold rayBoxAll
  rw [hr, ho, hl, hh]
  simp only [Bool.and_self, if_true]
  have hf : placeOk r.From = true := by
    simp only [rayOk, Bool.and_eq_true] at hr
    exact hr.1.1
  unfold rayShape at h
  rw [hr, hs, hp] at h
  simp only [Bool.and_self, if_true] at h
  split at h
  · rename_i hk
    have hwd : isIn s.Wide 1 25600 = true := by simp [isIn]; omega
    unfold rayRound at h
    rw [hr, hp, hwd] at h
    simp only [Bool.and_self, cond_true] at h
    obtain ⟨t, t0, t1, ht⟩ := roundFrom_some (by omega) h
    obtain ⟨n1, n2, n3, n4⟩ := round_near hr hp h1 h2 t0 t1 ht
    have hH2 : highOf s = s.Wide := by simp [highOf, hk]
    rw [hH2] at hl hh ⊢
    simp only [placeOk, isIn, Bool.and_eq_true, decide_eq_true_eq] at hf hl hh
    unfold rayBox
    simp only
    obtain ⟨c1, c2, c3⟩ := slab_k2 (f := r.From.X) (w := r.Way.X) (lo := p.X - s.Wide - 1) (hi := p.X + s.Wide + 1) (A := 0) (B := 256) (k := t) (by omega) (by omega) (by omega) (by omega) (by omega) (by omega) t0 t1 n1 n2
    rw [if_pos c1]
    obtain ⟨d1, d2, d3⟩ := slab_k2 (f := r.From.Y) (w := r.Way.Y) (lo := p.Y - s.Wide - 1) (hi := p.Y + s.Wide + 1) (k := t) (by omega) (by omega) (by omega) (by omega) (by omega) (by omega) c2 c3 n3 n4
    rw [if_pos d1]
  · refine rayBox_mono (a := bounds s p) hf hl hh ?_ ?_ ?_ ?_ ?_ ?_ h <;> rw [e] <;> simp only <;> omega
theorem shapeOk_high {s : Shape} (hs : shapeOk s = true) : 0 ≤ s.High ∧ s.High ≤ 25600 := by
  obtain ⟨h1, h2, h3, h4⟩ := shapeOk_le hs
  unfold shapeOk at hs
  split at hs
  · simp only [Bool.and_eq_true, beq_iff_eq] at hs
    omega
  · rename_i q
    have := h4 (by omega)
    omega
theorem absW_eq {n : Int} (h1 : -1000000000000 ≤ n) (h2 : n ≤ 1000000000000) : absW n = if n < 0 then -n else n := by
  unfold absW
  by_cases q : n < 0
  · rw [if_pos q, decide_eq_true q, cond_true, W_small (by omega) (by omega)]
    omega
  · rw [if_neg q, decide_eq_false q, cond_false]
noncomputable def fs_lawRayShape : Fs := ⟨[], fun args H => match args, H with
  | [.vec 0], [(false, .vec .byte b)] => some ((some (LOk .byte b)), .bool (true), [(false, .vec .byte b)])
  | _, _ => none⟩

theorem vc_lawRayShape (b : List Int) (Q : SV → List Ent → Prop) :
    fnVC tt (look [(28, fs_DrawRayShape), (29, fs_implRayShape), (30, fs_specRayShape), (31, fs_specShapeOk), (32, fs_implShapeBounds), (33, fs_implVecSub), (34, fs_implVecAdd), (35, fs_implRayBox), (36, fs_pqAbs)]) L0 Try.f5 [.vec 0] [(false, .vec .byte b)] Q =
    (let A3_ := (false, Blk.vec Ty.byte b); let A2_ := (Prod.snd (Subtype.val (g_DrawRayShape b))); let A5_ := (Prod.snd (rayBoxAll (Prod.fst (Subtype.val (g_DrawRayShape b))) (Box.mk (vecSub (Box.Low (shapeBounds (Prod.fst A2_) (Prod.snd A2_))) (Vec.mk (1 : Int) (1 : Int))) (vecAdd (Box.High (shapeBounds (Prod.fst A2_) (Prod.snd A2_))) (Vec.mk (1 : Int) (1 : Int)))))); let A4_ := (decide (IntKind.wrap IntKind.i64 (IntKind.wrap IntKind.i64 (absW (Vec.Y (Prod.snd A2_)) + Shape.Wide (Prod.fst A2_)) + Shape.High (Prod.fst A2_)) ≥ (2560000 : Int))); let A1_ := (rayShape (Prod.fst (Subtype.val (g_DrawRayShape b))) (Prod.fst A2_) (Prod.snd A2_)); ifB (decide ((↑(List.length b) : Int) > (1048576 : Int))) (Q (SV.bool true) [A3_]) (BytesOk b ∧ ifB (!Prod.snd A1_ == Prod.snd A1_) (ifB (Prod.snd A1_ == Prod.snd A1_) (Q (SV.bool (Prod.fst A1_ == Prod.fst A1_)) [A3_]) (Q (SV.bool false) [A3_])) (ifB (Prod.fst A1_ != Prod.fst A1_) (ifB (Prod.snd A1_ == Prod.snd A1_) (Q (SV.bool (Prod.fst A1_ == Prod.fst A1_)) [A3_]) (Q (SV.bool false) [A3_])) (ifB (!shapeOk (Prod.fst A2_)) (ifB (Prod.snd A1_ == Prod.snd A1_) (Q (SV.bool (Prod.fst A1_ == Prod.fst A1_)) [A3_]) (Q (SV.bool false) [A3_])) (ifB (decide (IntKind.wrap IntKind.i64 (absW (Vec.X (Prod.snd A2_)) + Shape.Wide (Prod.fst A2_)) ≥ (2560000 : Int))) (ifB (!Prod.snd A1_) (Q (SV.bool true) [A3_]) (Q (SV.bool true) [A3_])) (ifB A4_ (ifB (!Prod.snd A1_) (Q (SV.bool true) [A3_]) (ifB A4_ (Q (SV.bool true) [A3_]) (Q (SV.bool A5_) [A3_]))) (ifB (Prod.snd (rayShape (Ray.mk (Prod.snd A2_) (Vec.mk (300 : Int) (-7 : Int))) (Prod.fst A2_) (Prod.snd A2_))) (ifB (Prod.fst (rayShape (Ray.mk (Prod.snd A2_) (Vec.mk (300 : Int) (-7 : Int))) (Prod.fst A2_) (Prod.snd A2_)) == (0 : Int)) (ifB (!Prod.snd A1_) (Q (SV.bool true) [A3_]) (ifB A4_ (Q (SV.bool true) [A3_]) (Q (SV.bool A5_) [A3_]))) (Q (SV.bool false) [A3_])) (Q (SV.bool false) [A3_])))))))) := by kernel_rfl

theorem ok_lawRayShape : FsOk Try.prog 5 fs_lawRayShape := fsOk_of tt_ok (tabFs_cons ok_DrawRayShape (tabFs_cons ok_implRayShape (tabFs_cons ok_specRayShape (tabFs_cons ok_specShapeOk (tabFs_cons ok_implShapeBounds (tabFs_cons ok_implVecSub (tabFs_cons ok_implVecAdd (tabFs_cons ok_implRayBox (tabFs_cons ok_pqAbs tabFs_nil))))))))) mixed Try.func5 (by kernel_rfl) (by kernel_rfl) (by
    intro args LL p r HH h hp
    unfold fs_lawRayShape at h
    dsimp only at h
    split at h
    case h_2 => cases h
    rename_i b
    simp only [Option.some.injEq, Prod.mk.injEq] at h
    obtain ⟨rfl, rfl, rfl⟩ := h
    refine ⟨by simp [Form, stays], L0, ?_⟩
    rw [vc_lawRayShape]
    try dsimp only
    have hb := bytesOk_of (hp _ rfl)
    refine ifB_of (fun c => ⟨rfl, rfl⟩) (fun c => ⟨hb, ?_⟩)
    generalize g_DrawRayShape b = z
    obtain ⟨⟨r, s, p⟩, hr⟩ := z
    have hr : placeA p := hr
    unfold placeA at hr
    dsimp only
    simp only [beq_self_eq_true, bne_self_eq_false, Bool.not_true, ifBf, ifBt]
    refine ifB_of (fun c1 => ⟨(by trivial), (by trivial)⟩) (fun c1 => ?_)
    have hs := not_false c1
    obtain ⟨h1, h2, h3, h4⟩ := shapeOk_le hs
    obtain ⟨h5, h6⟩ := shapeOk_high hs
    rw [absW_eq (n := p.X) (by omega) (by omega), absW_eq (n := p.Y) (by omega) (by omega)]
    have eX : IntKind.i64.wrap ((if p.X < 0 then -p.X else p.X) + s.Wide) = (if p.X < 0 then -p.X else p.X) + s.Wide := wrap_small (by split <;> omega) (by split <;> omega)
    have eY : IntKind.i64.wrap ((if p.Y < 0 then -p.Y else p.Y) + s.Wide) = (if p.Y < 0 then -p.Y else p.Y) + s.Wide := wrap_small (by split <;> omega) (by split <;> omega)
    have eZ : IntKind.i64.wrap ((if p.Y < 0 then -p.Y else p.Y) + s.Wide + s.High) = (if p.Y < 0 then -p.Y else p.Y) + s.Wide + s.High := wrap_small (by split <;> omega) (by split <;> omega)
    rw [eX, eY, eZ]
    refine ifB_of (fun c2 => ifB_of (fun _ => ⟨(by trivial), (by trivial)⟩) (fun _ => ⟨(by trivial), (by trivial)⟩)) (fun c2 => ifB_of (fun c3 => ifB_of (fun _ => ⟨(by trivial), (by trivial)⟩) (fun c4 => ?_)) (fun c3 => ?_))
    · rw [ifB_true c3]
      exact ⟨(by trivial), (by trivial)⟩
    have c2v := of_decide_eq_false c2
    have c3v := of_decide_eq_false c3
    have hw : wellIn s p := by
      unfold wellIn
      split at c2v <;> split at c3v <;> omega
    have hp : placeOk p = true := by
      unfold wellIn at hw
      simp only [placeOk, isIn, Bool.and_eq_true, decide_eq_true_eq]
      omega
    rw [ray_from hs hw hp, ifB_false c3]
    simp only [beq_self_eq_true, ifBt]
    refine ifB_of (fun _ => ⟨(by trivial), (by trivial)⟩) (fun c4 => ?_)
    rw [ray_near hs hw hp (not_false c4)]
    exact ⟨(by trivial), (by trivial)⟩)

end Go.Proofs.Ytgdpaijphaeimaa.Sym
