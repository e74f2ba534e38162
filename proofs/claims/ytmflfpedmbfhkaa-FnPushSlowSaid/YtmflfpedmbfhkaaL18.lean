/-
  The law of a push without a bounce.
  No condition.
-/
import Derived.Test.YtmflfpedmbfhkaaL5
import Derived.Test.YtmflfpedmbfhkaaZ4
namespace Go.Proofs.Ytmflfpedmbfhkaa.Sym
open Go
set_option linter.unusedVariables false
set_option linter.unusedSimpArgs false
set_option maxRecDepth 100000
noncomputable section
def pushB (b : Body) (p : Vec) : Body :=
  if b.Mass = 0 then b else { b with Drive := ⟨withinI (W (b.Drive.X + p.X)) 20000000, withinI (W (b.Drive.Y + p.Y)) 20000000⟩, Quiet := 0 }
noncomputable def fs_implPushBox : Fs := ⟨[], fun args H => match args, H with
  | [.ptr 0 0 0, .agg [.int .i64 pX, .int .i64 pY]], [(true, .box [.int .i64 bI, .int .i64 bK, .int .i64 bW, .int .i64 bH, .int .i64 bX, .int .i64 bY, .int .i64 bU, .int .i64 bV, .int .i64 bM, .int .i64 bB, .int .i64 bR, .int .i64 bQ])] => some (none, .tup [], [(true, .box [.int .i64 (pushB (Body.mk bI (Shape.mk bK bW bH) (Vec.mk bX bY) (Vec.mk bU bV) bM bB bR bQ) ⟨pX, pY⟩).Id, .int .i64 (pushB (Body.mk bI (Shape.mk bK bW bH) (Vec.mk bX bY) (Vec.mk bU bV) bM bB bR bQ) ⟨pX, pY⟩).Shape.Kind, .int .i64 (pushB (Body.mk bI (Shape.mk bK bW bH) (Vec.mk bX bY) (Vec.mk bU bV) bM bB bR bQ) ⟨pX, pY⟩).Shape.Wide, .int .i64 (pushB (Body.mk bI (Shape.mk bK bW bH) (Vec.mk bX bY) (Vec.mk bU bV) bM bB bR bQ) ⟨pX, pY⟩).Shape.High, .int .i64 (pushB (Body.mk bI (Shape.mk bK bW bH) (Vec.mk bX bY) (Vec.mk bU bV) bM bB bR bQ) ⟨pX, pY⟩).At.X, .int .i64 (pushB (Body.mk bI (Shape.mk bK bW bH) (Vec.mk bX bY) (Vec.mk bU bV) bM bB bR bQ) ⟨pX, pY⟩).At.Y, .int .i64 (pushB (Body.mk bI (Shape.mk bK bW bH) (Vec.mk bX bY) (Vec.mk bU bV) bM bB bR bQ) ⟨pX, pY⟩).Drive.X, .int .i64 (pushB (Body.mk bI (Shape.mk bK bW bH) (Vec.mk bX bY) (Vec.mk bU bV) bM bB bR bQ) ⟨pX, pY⟩).Drive.Y, .int .i64 (pushB (Body.mk bI (Shape.mk bK bW bH) (Vec.mk bX bY) (Vec.mk bU bV) bM bB bR bQ) ⟨pX, pY⟩).Mass, .int .i64 (pushB (Body.mk bI (Shape.mk bK bW bH) (Vec.mk bX bY) (Vec.mk bU bV) bM bB bR bQ) ⟨pX, pY⟩).Bounce, .int .i64 (pushB (Body.mk bI (Shape.mk bK bW bH) (Vec.mk bX bY) (Vec.mk bU bV) bM bB bR bQ) ⟨pX, pY⟩).Rub, .int .i64 (pushB (Body.mk bI (Shape.mk bK bW bH) (Vec.mk bX bY) (Vec.mk bU bV) bM bB bR bQ) ⟨pX, pY⟩).Quiet])])
  | _, _ => none⟩

theorem vc_implPushBox (bI : Int) (bK : Int) (bW : Int) (bH : Int) (bX : Int) (bY : Int) (bU : Int) (bV : Int) (bM : Int) (bB : Int) (bR : Int) (bQ : Int) (pX : Int) (pY : Int) (Q : SV → List Ent → Prop) :
    fnVC tt (look [(33, fs_bodyFixed), (49, fs_vecPlus), (37, fs_vecClamped)]) L0 Try.f25 [.ptr 0 0 0, .agg [.int .i64 pX, .int .i64 pY]] [(true, .box [.int .i64 bI, .int .i64 bK, .int .i64 bW, .int .i64 bH, .int .i64 bX, .int .i64 bY, .int .i64 bU, .int .i64 bV, .int .i64 bM, .int .i64 bB, .int .i64 bR, .int .i64 bQ])] Q =
    (ifB (!bM == (0 : Int)) (Q (SV.tup []) [(true, Blk.box [SV.int IntKind.i64 bI, SV.int IntKind.i64 bK, SV.int IntKind.i64 bW, SV.int IntKind.i64 bH, SV.int IntKind.i64 bX, SV.int IntKind.i64 bY, SV.int IntKind.i64 (withinI (Vec.X (plus (Vec.mk bU bV) (Vec.mk pX pY))) (20000000 : Int)), SV.int IntKind.i64 (withinI (Vec.Y (plus (Vec.mk bU bV) (Vec.mk pX pY))) (20000000 : Int)), SV.int IntKind.i64 bM, SV.int IntKind.i64 bB, SV.int IntKind.i64 bR, SV.int IntKind.i64 (0 : Int)])]) (Q (SV.tup []) [(true, Blk.box [SV.int IntKind.i64 bI, SV.int IntKind.i64 bK, SV.int IntKind.i64 bW, SV.int IntKind.i64 bH, SV.int IntKind.i64 bX, SV.int IntKind.i64 bY, SV.int IntKind.i64 bU, SV.int IntKind.i64 bV, SV.int IntKind.i64 bM, SV.int IntKind.i64 bB, SV.int IntKind.i64 bR, SV.int IntKind.i64 bQ])])) := by kernel_rfl

theorem ok_implPushBox : FsOk Try.prog 25 fs_implPushBox := fsOk_of tt_ok (tabFs_cons ok_bodyFixed (tabFs_cons ok_vecPlus (tabFs_cons ok_vecClamped tabFs_nil))) mixed Try.func25 (by kernel_rfl) (by kernel_rfl) (by
    intro args LL p r HH h hp
    unfold fs_implPushBox at h
    dsimp only at h
    split at h
    case h_2 => cases h
    rename_i pX pY bI bK bW bH bX bY bU bV bM bB bR bQ
    simp only [Option.some.injEq, Prod.mk.injEq] at h
    obtain ⟨rfl, rfl, rfl⟩ := h
    refine ⟨by simp [Form, stays], L0, ?_⟩
    rw [vc_implPushBox]
    try dsimp only
    unfold pushB
    refine ifB_of (fun c => ?_) (fun c => ?_)
    · have c : ¬ bM = 0 := by simpa using c
      simp only [if_neg c, plus]
      exact ⟨(by trivial), (by trivial)⟩
    · have c : bM = 0 := by simpa using c
      simp only [if_pos c]
      exact ⟨(by trivial), (by trivial)⟩)

def pushAllB1 (b : Body) (p : Vec) : Body := bif bodyOk b && driveOk p then pushB b p else ⟨0, ⟨0, 0, 0⟩, ⟨0, 0⟩, ⟨0, 0⟩, 0, 0, 0, 0⟩
noncomputable def fs_implBodyPush : Fs := ⟨[], fun args H => match args, H with
  | [.agg [.int .i64 bI, .int .i64 bK, .int .i64 bW, .int .i64 bH, .int .i64 bX, .int .i64 bY, .int .i64 bU, .int .i64 bV, .int .i64 bM, .int .i64 bB, .int .i64 bR, .int .i64 bQ], .agg [.int .i64 pX, .int .i64 pY]], [] => some (none, .agg [.int .i64 (pushAllB1 (Body.mk bI (Shape.mk bK bW bH) (Vec.mk bX bY) (Vec.mk bU bV) bM bB bR bQ) (Vec.mk pX pY)).Id, .int .i64 (pushAllB1 (Body.mk bI (Shape.mk bK bW bH) (Vec.mk bX bY) (Vec.mk bU bV) bM bB bR bQ) (Vec.mk pX pY)).Shape.Kind, .int .i64 (pushAllB1 (Body.mk bI (Shape.mk bK bW bH) (Vec.mk bX bY) (Vec.mk bU bV) bM bB bR bQ) (Vec.mk pX pY)).Shape.Wide, .int .i64 (pushAllB1 (Body.mk bI (Shape.mk bK bW bH) (Vec.mk bX bY) (Vec.mk bU bV) bM bB bR bQ) (Vec.mk pX pY)).Shape.High, .int .i64 (pushAllB1 (Body.mk bI (Shape.mk bK bW bH) (Vec.mk bX bY) (Vec.mk bU bV) bM bB bR bQ) (Vec.mk pX pY)).At.X, .int .i64 (pushAllB1 (Body.mk bI (Shape.mk bK bW bH) (Vec.mk bX bY) (Vec.mk bU bV) bM bB bR bQ) (Vec.mk pX pY)).At.Y, .int .i64 (pushAllB1 (Body.mk bI (Shape.mk bK bW bH) (Vec.mk bX bY) (Vec.mk bU bV) bM bB bR bQ) (Vec.mk pX pY)).Drive.X, .int .i64 (pushAllB1 (Body.mk bI (Shape.mk bK bW bH) (Vec.mk bX bY) (Vec.mk bU bV) bM bB bR bQ) (Vec.mk pX pY)).Drive.Y, .int .i64 (pushAllB1 (Body.mk bI (Shape.mk bK bW bH) (Vec.mk bX bY) (Vec.mk bU bV) bM bB bR bQ) (Vec.mk pX pY)).Mass, .int .i64 (pushAllB1 (Body.mk bI (Shape.mk bK bW bH) (Vec.mk bX bY) (Vec.mk bU bV) bM bB bR bQ) (Vec.mk pX pY)).Bounce, .int .i64 (pushAllB1 (Body.mk bI (Shape.mk bK bW bH) (Vec.mk bX bY) (Vec.mk bU bV) bM bB bR bQ) (Vec.mk pX pY)).Rub, .int .i64 (pushAllB1 (Body.mk bI (Shape.mk bK bW bH) (Vec.mk bX bY) (Vec.mk bU bV) bM bB bR bQ) (Vec.mk pX pY)).Quiet], [])
  | _, _ => none⟩

theorem vc_implBodyPush (bI : Int) (bK : Int) (bW : Int) (bH : Int) (bX : Int) (bY : Int) (bU : Int) (bV : Int) (bM : Int) (bB : Int) (bR : Int) (bQ : Int) (pX : Int) (pY : Int) (Q : SV → List Ent → Prop) :
    fnVC tt (look [(14, fs_implBodyOk), (24, fs_isDrive), (25, fs_implPushBox)]) L0 Try.f9 [.agg [.int .i64 bI, .int .i64 bK, .int .i64 bW, .int .i64 bH, .int .i64 bX, .int .i64 bY, .int .i64 bU, .int .i64 bV, .int .i64 bM, .int .i64 bB, .int .i64 bR, .int .i64 bQ], .agg [.int .i64 pX, .int .i64 pY]] [] Q =
    (ifB (!bodyOk (Body.mk bI (Shape.mk bK bW bH) (Vec.mk bX bY) (Vec.mk bU bV) bM bB bR bQ)) (Q (SV.agg [SV.int IntKind.i64 (0 : Int), SV.int IntKind.i64 (0 : Int), SV.int IntKind.i64 (0 : Int), SV.int IntKind.i64 (0 : Int), SV.int IntKind.i64 (0 : Int), SV.int IntKind.i64 (0 : Int), SV.int IntKind.i64 (0 : Int), SV.int IntKind.i64 (0 : Int), SV.int IntKind.i64 (0 : Int), SV.int IntKind.i64 (0 : Int), SV.int IntKind.i64 (0 : Int), SV.int IntKind.i64 (0 : Int)]) []) (ifB (!driveOk (Vec.mk pX pY)) (Q (SV.agg [SV.int IntKind.i64 (0 : Int), SV.int IntKind.i64 (0 : Int), SV.int IntKind.i64 (0 : Int), SV.int IntKind.i64 (0 : Int), SV.int IntKind.i64 (0 : Int), SV.int IntKind.i64 (0 : Int), SV.int IntKind.i64 (0 : Int), SV.int IntKind.i64 (0 : Int), SV.int IntKind.i64 (0 : Int), SV.int IntKind.i64 (0 : Int), SV.int IntKind.i64 (0 : Int), SV.int IntKind.i64 (0 : Int)]) []) (Q (SV.agg [SV.int IntKind.i64 (Body.Id (pushB (Body.mk bI (Shape.mk bK bW bH) (Vec.mk bX bY) (Vec.mk bU bV) bM bB bR bQ) (Vec.mk pX pY))), SV.int IntKind.i64 (Shape.Kind (Body.Shape (pushB (Body.mk bI (Shape.mk bK bW bH) (Vec.mk bX bY) (Vec.mk bU bV) bM bB bR bQ) (Vec.mk pX pY)))), SV.int IntKind.i64 (Shape.Wide (Body.Shape (pushB (Body.mk bI (Shape.mk bK bW bH) (Vec.mk bX bY) (Vec.mk bU bV) bM bB bR bQ) (Vec.mk pX pY)))), SV.int IntKind.i64 (Shape.High (Body.Shape (pushB (Body.mk bI (Shape.mk bK bW bH) (Vec.mk bX bY) (Vec.mk bU bV) bM bB bR bQ) (Vec.mk pX pY)))), SV.int IntKind.i64 (Vec.X (Body.At (pushB (Body.mk bI (Shape.mk bK bW bH) (Vec.mk bX bY) (Vec.mk bU bV) bM bB bR bQ) (Vec.mk pX pY)))), SV.int IntKind.i64 (Vec.Y (Body.At (pushB (Body.mk bI (Shape.mk bK bW bH) (Vec.mk bX bY) (Vec.mk bU bV) bM bB bR bQ) (Vec.mk pX pY)))), SV.int IntKind.i64 (Vec.X (Body.Drive (pushB (Body.mk bI (Shape.mk bK bW bH) (Vec.mk bX bY) (Vec.mk bU bV) bM bB bR bQ) (Vec.mk pX pY)))), SV.int IntKind.i64 (Vec.Y (Body.Drive (pushB (Body.mk bI (Shape.mk bK bW bH) (Vec.mk bX bY) (Vec.mk bU bV) bM bB bR bQ) (Vec.mk pX pY)))), SV.int IntKind.i64 (Body.Mass (pushB (Body.mk bI (Shape.mk bK bW bH) (Vec.mk bX bY) (Vec.mk bU bV) bM bB bR bQ) (Vec.mk pX pY))), SV.int IntKind.i64 (Body.Bounce (pushB (Body.mk bI (Shape.mk bK bW bH) (Vec.mk bX bY) (Vec.mk bU bV) bM bB bR bQ) (Vec.mk pX pY))), SV.int IntKind.i64 (Body.Rub (pushB (Body.mk bI (Shape.mk bK bW bH) (Vec.mk bX bY) (Vec.mk bU bV) bM bB bR bQ) (Vec.mk pX pY))), SV.int IntKind.i64 (Body.Quiet (pushB (Body.mk bI (Shape.mk bK bW bH) (Vec.mk bX bY) (Vec.mk bU bV) bM bB bR bQ) (Vec.mk pX pY)))]) []))) := by kernel_rfl

theorem ok_implBodyPush : FsOk Try.prog 9 fs_implBodyPush := fsOk_of tt_ok (tabFs_cons ok_implBodyOk (tabFs_cons ok_isDrive (tabFs_cons ok_implPushBox tabFs_nil))) mixed Try.func9 (by kernel_rfl) (by kernel_rfl) (by
    intro args LL p r HH h hp
    unfold fs_implBodyPush at h
    dsimp only at h
    split at h
    case h_2 => cases h
    rename_i bI bK bW bH bX bY bU bV bM bB bR bQ pX pY
    simp only [Option.some.injEq, Prod.mk.injEq] at h
    obtain ⟨rfl, rfl, rfl⟩ := h
    refine ⟨by simp [Form, stays], L0, ?_⟩
    rw [vc_implBodyPush]
    try dsimp only
    refine ifB_of (fun c => ?_) (fun c => ifB_of (fun c2 => ?_) (fun c2 => ?_))
    · simp [pushAllB1, not_true c]
    · simp [pushAllB1, not_true c2]
    · simp only [pushAllB1, not_false c, not_false c2, Bool.and_self, cond_true]
      exact ⟨(by trivial), (by trivial)⟩)

theorem bok_iff5 {b : Body} : bodyOk b = true ↔ ((0 ≤ b.Id ∧ b.Id ≤ 999999999) ∧ shapeOk b.Shape = true ∧ (-2560000 ≤ b.At.X ∧ b.At.X ≤ 2560000 ∧ -2560000 ≤ b.At.Y ∧ b.At.Y ≤ 2560000) ∧
    (-20000000 ≤ b.Drive.X ∧ b.Drive.X ≤ 20000000 ∧ -20000000 ≤ b.Drive.Y ∧ b.Drive.Y ≤ 20000000) ∧ (0 ≤ b.Mass ∧ b.Mass ≤ 1000) ∧ (0 ≤ b.Bounce ∧ b.Bounce ≤ 256) ∧ (0 ≤ b.Rub ∧ b.Rub ≤ 256) ∧ (0 ≤ b.Quiet ∧ b.Quiet ≤ 8) ∧
    (b.Mass = 0 → b.Drive.X = 0 ∧ b.Drive.Y = 0 ∧ b.Quiet = 0) ∧ (b.Mass ≠ 0 → b.Quiet < 8 ∨ b.Drive.X = 0 ∧ b.Drive.Y = 0)) := by
  unfold bodyOk
  by_cases h : b.Mass = 0
  · simp only [h, if_true, placeOk, driveOk, zeroV, isIn, Bool.and_eq_true, decide_eq_true_eq, beq_iff_eq, and_assoc, forall_const, ne_eq, not_true_eq_false, false_implies, and_true, Int.le_refl, true_and]
  · simp only [h, if_false, placeOk, driveOk, zeroV, isIn, Bool.and_eq_true, Bool.or_eq_true, decide_eq_true_eq, beq_iff_eq, and_assoc, forall_const, ne_eq, not_false_eq_true, false_implies, true_and, true_implies]
theorem absW_lt {n : Int} (h1 : -4000000000 ≤ n) (h2 : n ≤ 4000000000) (h : ¬ absW n ≥ 20000000) : -20000000 < n ∧ n < 20000000 := by
  unfold absW at h
  cases q : decide (n < 0) with
  | true =>
    rw [q] at h
    have q := of_decide_eq_true q
    simp only [cond_true] at h
    rw [W_small (by omega) (by omega)] at h
    omega
  | false =>
    rw [q] at h
    have q := of_decide_eq_false q
    simp only [cond_false] at h
    omega
theorem within_uncut {D e : Int} (d0 : -20000000 ≤ D) (d1 : D ≤ 20000000) (e0 : -20000000 ≤ e) (e1 : e ≤ 20000000) (h : ¬ absW (withinI (W (D + e)) 20000000) ≥ 20000000) : withinI (W (D + e)) 20000000 = D + e ∧ -20000000 ≤ D + e ∧ D + e ≤ 20000000 := by
  rw [W_small (by omega) (by omega), withinI_drive] at h ⊢
  have := absW_lt (n := clampTo 20000000 (D + e)) (by unfold clampTo; omega) (by unfold clampTo; omega) h
  unfold clampTo at this ⊢
  omega
theorem absW_end {n m : Int} (h0 : -m ≤ n) (h1 : n ≤ m) (hm : m ≤ 4000000000) : absW n ≤ m := by
  unfold absW
  cases q : decide (n < 0) with
  | true =>
    have q := of_decide_eq_true q
    simp only [cond_true]
    rw [W_small (by omega) (by omega)]
    omega
  | false =>
    simp only [cond_false]
    exact h1
theorem slow_law {a b X Y : Body} {h : Hit} {q : Vec} (ha : bodyOk a = true) (hb : bodyOk b = true) (s1 : ¬ W (W (h.Way.X * h.Way.X) + W (h.Way.Y * h.Way.Y)) > 66564) (s0 : ¬ W (W (h.Way.X * h.Way.X) + W (h.Way.Y * h.Way.Y)) < 62500)
    (hc : ¬ closingAll { a with Rub := 0 } b h ≤ 0) (hm : ¬ (a.Mass = 0 ∧ b.Mass = 0)) (ya : -256 ≤ h.Way.Y ∧ h.Way.Y ≤ 256 → slowY a) (yb : slowY b)
    (hq : q = pushOfV { a with Rub := 0 } b h false) (hX : X = pushAllB1 { a with Rub := 0 } ⟨W (0 - q.X), W (0 - q.Y)⟩) (hY : Y = pushAllB1 b q)
    (d1 : ¬ absW X.Drive.X ≥ 20000000) (d2 : ¬ absW X.Drive.Y ≥ 20000000) (d3 : ¬ absW Y.Drive.X ≥ 20000000) (d4 : ¬ absW Y.Drive.Y ≥ 20000000) :
    absW (closingAll X Y h) ≤ W (8 + W ((closingAll { a with Rub := 0 } b h).tdiv 16)) := by
  have hca : closingAll { a with Rub := 0 } b h = closingAll a b h := by simp [closingAll, bodyOk_norub ha, ha, closing_norub]
  rw [hca] at hc ⊢
  obtain ⟨hh, c0, e0, p0, p1⟩ := pushOf_norub ha hb hc hm false
  have hcc : closingAll a b h = closing a b h.Way := by simp [closingAll, ha, hb, hh]
  have cl := closing_le a b h.Way
  rw [hcc]
  have hh2 := hh
  simp only [hitOk, isIn, Bool.and_eq_true, decide_eq_true_eq] at hh2
  obtain ⟨⟨⟨wx0, wx1⟩, wy0, wy1⟩, _⟩ := hh2
  have ya := ya ⟨wy0, wy1⟩
  have m1 := mul_pm wx0 wx1 wx0 wx1
  have m2 := mul_pm wy0 wy1 wy0 wy1
  rw [W_small (n := h.Way.X * h.Way.X) (by omega) (by omega), W_small (n := h.Way.Y * h.Way.Y) (by omega) (by omega), W_small (by omega) (by omega)] at s0 s1
  rw [e0] at hq
  have ga := bok_iff5.1 ha
  have gb := bok_iff5.1 hb
  have ha0 := bodyOk_norub ha
  generalize hcN : closing a b h.Way = c at *
  generalize hpN : pushP a b c false = p at *
  have l1 := pushX_le p h.Way.X
  have l2 := pushX_le p h.Way.Y
  have t16 := Int.tdiv_eq_ediv_of_nonneg (b := 16) (show 0 ≤ c by omega)
  rw [t16, W_small (n := c / 16) (by omega) (by omega), W_small (by omega) (by omega)]
  subst hq
  dsimp only at hX hY
  rw [W_small (n := 0 - pushX p h.Way.X) (by omega) (by omega), W_small (n := 0 - pushX p h.Way.Y) (by omega) (by omega)] at hX
  have dq : driveOk ⟨pushX p h.Way.X, pushX p h.Way.Y⟩ = true := by
    simp only [driveOk, isIn, Bool.and_eq_true, decide_eq_true_eq]
    omega
  have dn : driveOk ⟨0 - pushX p h.Way.X, 0 - pushX p h.Way.Y⟩ = true := by
    simp only [driveOk, isIn, Bool.and_eq_true, decide_eq_true_eq]
    omega
  have eX : X = pushB { a with Rub := 0 } ⟨0 - pushX p h.Way.X, 0 - pushX p h.Way.Y⟩ := by
    rw [hX]
    unfold pushAllB1
    rw [ha0, dn]
    rfl
  have eY : Y = pushB b ⟨pushX p h.Way.X, pushX p h.Way.Y⟩ := by
    rw [hY]
    unfold pushAllB1
    rw [hb, dq]
    rfl
  by_cases hok : (bodyOk X && bodyOk Y && hitOk h) = true
  · have e : closingAll X Y h = closing X Y h.Way := by
      unfold closingAll
      rw [if_pos hok]
    rw [e]
    have key : -(8 + c / 16) ≤ closing X Y h.Way ∧ closing X Y h.Way ≤ 8 + c / 16 := by
      have da : drv a.Drive := ⟨ga.2.2.2.1.1, ga.2.2.2.1.2.1, ga.2.2.2.1.2.2.1, ga.2.2.2.1.2.2.2⟩
      have db : drv b.Drive := ⟨gb.2.2.2.1.1, gb.2.2.2.1.2.1, gb.2.2.2.1.2.2.1, gb.2.2.2.1.2.2.2⟩
      have am := ga.2.2.2.2.1
      have bm := gb.2.2.2.2.1
      by_cases za : a.Mass = 0
      · have zb : b.Mass ≠ 0 := fun z => hm ⟨za, z⟩
        have fX : X = { a with Rub := 0 } := by
          rw [eX]
          unfold pushB
          rw [if_pos za]
        have fY : Y = { b with Drive := ⟨withinI (W (b.Drive.X + pushX p h.Way.X)) 20000000, withinI (W (b.Drive.Y + pushX p h.Way.Y)) 20000000⟩, Quiet := 0 } := by
          rw [eY]
          unfold pushB
          rw [if_neg zb]
        have hp2 : p = c * b.Mass := by
          have cm := mul_pm (x := c) (X := 1000000000) (y := b.Mass) (Y := 1000) (by omega) (by omega) (by omega) (by omega)
          rw [← hpN]
          unfold pushP together
          rw [za]
          simp only [cond_false, beq_self_eq_true, cond_true]
          exact W_small (by omega) (by omega)
        rw [fY] at d3 d4
        obtain ⟨u1, u2, u3⟩ := within_uncut db.1 db.2.1 l1.1 l1.2 d3
        obtain ⟨v1, v2, v3⟩ := within_uncut db.2.2.1 db.2.2.2 l2.1 l2.2 d4
        rw [u1, v1] at fY
        exact slow_left za (by omega) db (by rw [fY]; exact ⟨u2, u3, v2, v3⟩) (by rw [fX]; exact za) (by rw [fY]) hp2 (by rw [fY]; rfl) (by rw [fY]; rfl) yb ⟨wx0, wx1⟩ ⟨wy0, wy1⟩ (by omega) (by omega) hcN.symm (by omega)
      · have fX : X = { a with Rub := 0, Drive := ⟨withinI (W (a.Drive.X + (0 - pushX p h.Way.X))) 20000000, withinI (W (a.Drive.Y + (0 - pushX p h.Way.Y))) 20000000⟩, Quiet := 0 } := by
          rw [eX]
          unfold pushB
          rw [if_neg za]
        rw [fX] at d1 d2
        obtain ⟨u1, u2, u3⟩ := within_uncut da.1 da.2.1 (show -20000000 ≤ 0 - pushX p h.Way.X by omega) (by omega) d1
        obtain ⟨v1, v2, v3⟩ := within_uncut da.2.2.1 da.2.2.2 (show -20000000 ≤ 0 - pushX p h.Way.Y by omega) (by omega) d2
        rw [u1, v1] at fX
        have x1 : X.Drive.X = a.Drive.X - pushN p h.Way.X := by
          rw [fX]
          show a.Drive.X + (0 - pushN p h.Way.X) = _
          omega
        have x2 : X.Drive.Y = a.Drive.Y - pushN p h.Way.Y := by
          rw [fX]
          show a.Drive.Y + (0 - pushN p h.Way.Y) = _
          omega
        have cm := mul_pm (x := c) (X := 1000000000) (y := a.Mass) (Y := 1000) (by omega) (by omega) (by omega) (by omega)
        by_cases zb : b.Mass = 0
        · have fY : Y = b := by
            rw [eY]
            unfold pushB
            rw [if_pos zb]
          have hp2 : p = c * a.Mass := by
            rw [← hpN]
            unfold pushP together
            rw [beq_eq_false_iff_ne.2 za, zb]
            simp only [cond_false, beq_self_eq_true, cond_true]
            exact W_small (by omega) (by omega)
          exact slow_right (by omega) zb da (by rw [fX]; exact ⟨u2, u3, v2, v3⟩) (by rw [fX]) (by rw [fY]; exact zb) hp2 x1 x2 ya ⟨wx0, wx1⟩ ⟨wy0, wy1⟩ (by omega) (by omega) hcN.symm (by omega)
        · have fY : Y = { b with Drive := ⟨withinI (W (b.Drive.X + pushX p h.Way.X)) 20000000, withinI (W (b.Drive.Y + pushX p h.Way.Y)) 20000000⟩, Quiet := 0 } := by
            rw [eY]
            unfold pushB
            rw [if_neg zb]
          rw [fY] at d3 d4
          obtain ⟨i1, i2, i3⟩ := within_uncut db.1 db.2.1 l1.1 l1.2 d3
          obtain ⟨j1, j2, j3⟩ := within_uncut db.2.2.1 db.2.2.2 l2.1 l2.2 d4
          rw [i1, j1] at fY
          have cm2 := mul_pm (x := c * a.Mass) (X := 1000000000000) (y := b.Mass) (Y := 1000) (by omega) (by omega) (by omega) (by omega)
          have hp2 : p = (c * (a.Mass * b.Mass)).tdiv (a.Mass + b.Mass) := by
            rw [← hpN]
            unfold pushP together
            rw [beq_eq_false_iff_ne.2 za, beq_eq_false_iff_ne.2 zb]
            simp only [cond_false]
            have tb := tdiv_in (D := c * a.Mass * b.Mass) (m := a.Mass + b.Mass) (B := 1000000000000000) (by omega) (by omega) (by omega)
            rw [W_small (n := c * a.Mass) (by omega) (by omega), W_small (n := c * a.Mass * b.Mass) (by omega) (by omega), W_small (n := a.Mass + b.Mass) (by omega) (by omega), W_small (by omega) (by omega), Int.mul_assoc]
          exact slow_free (by omega) (by omega) da db (by rw [fX]; exact ⟨u2, u3, v2, v3⟩) (by rw [fY]; exact ⟨i2, i3, j2, j3⟩) (by rw [fX]) (by rw [fY]) hp2 x1 x2 (by rw [fY]; rfl) (by rw [fY]; rfl) ya yb ⟨wx0, wx1⟩ ⟨wy0, wy1⟩ (by omega) (by omega) hcN.symm (by omega)
    exact absW_end key.1 key.2 (by omega)
  · have e : closingAll X Y h = 0 := by
      unfold closingAll
      rw [if_neg hok]
    rw [e]
    exact absW_end (by omega) (by omega) (by omega)
noncomputable def fs_lawPushSlow : Fs := ⟨[], fun args H => match args, H with
  | [.vec 0], [(false, .vec .byte b)] => some ((some (LOk .byte b)), .bool (true), [(false, .vec .byte b)])
  | _, _ => none⟩

theorem vc_lawPushSlow (b : List Int) (Q : SV → List Ent → Prop) :
    fnVC tt (look [(4, fs_DrawPushOf), (5, fs_implPushOf), (6, fs_specPushOf), (7, fs_specBodyOk), (8, fs_implClosing), (10, fs_pqAbs), (9, fs_implBodyPush)]) L0 Try.f3 [.vec 0] [(false, .vec .byte b)] Q =
    (let w_ := IntKind.wrap IntKind.i64; let A7_ := (Prod.fst (Subtype.val (g_DrawPushOf b))); let A6_ := (false, Blk.vec Ty.byte b); let A3_ := (Prod.snd (Subtype.val (g_DrawPushOf b))); let A5_ := (Prod.fst (Prod.snd A3_)); let A2_ := (pushOfV A7_ (Prod.fst A3_) A5_ (Prod.snd (Prod.snd A3_))); let A9_ := (Vec.X A2_ == Vec.X A2_ && Vec.Y A2_ == Vec.Y A2_); let A1_ := (Body.mk (Body.Id A7_) (Body.Shape A7_) (Body.At A7_) (Body.Drive A7_) (Body.Mass A7_) (Body.Bounce A7_) (0 : Int) (Body.Quiet A7_)); let A8_ := (pushAllB1 (Prod.fst A3_) (pushOfV A1_ (Prod.fst A3_) A5_ false)); let A4_ := (pushAllB1 A1_ (Vec.mk (w_ ((0 : Int) - Vec.X (pushOfV A1_ (Prod.fst A3_) A5_ false))) (w_ ((0 : Int) - Vec.Y (pushOfV A1_ (Prod.fst A3_) A5_ false))))); ifB (decide ((↑(List.length b) : Int) > (1048576 : Int))) (Q (SV.bool true) [A6_]) (BytesOk b ∧ ifB (!A9_) (Q (SV.bool A9_) [A6_]) (ifB (!bodyOk A7_) (Q (SV.bool A9_) [A6_]) (ifB (!bodyOk (Prod.fst A3_)) (Q (SV.bool A9_) [A6_]) (ifB (decide (w_ (w_ (Vec.X (Hit.Way A5_) * Vec.X (Hit.Way A5_)) + w_ (Vec.Y (Hit.Way A5_) * Vec.Y (Hit.Way A5_))) > (66564 : Int))) (Q (SV.bool A9_) [A6_]) (ifB (decide (w_ (w_ (Vec.X (Hit.Way A5_) * Vec.X (Hit.Way A5_)) + w_ (Vec.Y (Hit.Way A5_) * Vec.Y (Hit.Way A5_))) < (62500 : Int))) (Q (SV.bool A9_) [A6_]) (ifB (decide (closingAll A1_ (Prod.fst A3_) A5_ ≤ (0 : Int))) (Q (SV.bool true) [A6_]) (ifB (Body.Mass A7_ == (0 : Int)) (ifB (Body.Mass (Prod.fst A3_) == (0 : Int)) (Q (SV.bool true) [A6_]) (ifB (decide (absW (Vec.X (Body.Drive A4_)) ≥ (20000000 : Int))) (Q (SV.bool true) [A6_]) (ifB (decide (absW (Vec.Y (Body.Drive A4_)) ≥ (20000000 : Int))) (Q (SV.bool true) [A6_]) (ifB (decide (absW (Vec.X (Body.Drive A8_)) ≥ (20000000 : Int))) (Q (SV.bool true) [A6_]) (ifB (decide (absW (Vec.Y (Body.Drive A8_)) ≥ (20000000 : Int))) (Q (SV.bool true) [A6_]) (Q (SV.bool (decide (absW (closingAll A4_ A8_ A5_) ≤ w_ ((8 : Int) + w_ (Int.tdiv (closingAll A1_ (Prod.fst A3_) A5_) (16 : Int)))))) [A6_])))))) (ifB (decide (absW (Vec.X (Body.Drive A4_)) ≥ (20000000 : Int))) (Q (SV.bool true) [A6_]) (ifB (decide (absW (Vec.Y (Body.Drive A4_)) ≥ (20000000 : Int))) (Q (SV.bool true) [A6_]) (ifB (decide (absW (Vec.X (Body.Drive A8_)) ≥ (20000000 : Int))) (Q (SV.bool true) [A6_]) (ifB (decide (absW (Vec.Y (Body.Drive A8_)) ≥ (20000000 : Int))) (Q (SV.bool true) [A6_]) (Q (SV.bool (decide (absW (closingAll A4_ A8_ A5_) ≤ w_ ((8 : Int) + w_ (Int.tdiv (closingAll A1_ (Prod.fst A3_) A5_) (16 : Int)))))) [A6_]))))))))))))) := by kernel_rfl

theorem ok_lawPushSlow : FsOk Try.prog 3 fs_lawPushSlow := fsOk_of tt_ok (tabFs_cons ok_DrawPushOf (tabFs_cons ok_implPushOf (tabFs_cons ok_specPushOf (tabFs_cons ok_specBodyOk (tabFs_cons ok_implClosing (tabFs_cons ok_pqAbs (tabFs_cons ok_implBodyPush tabFs_nil))))))) mixed Try.func3 (by kernel_rfl) (by kernel_rfl) (by
    intro args LL p r HH h hp
    unfold fs_lawPushSlow at h
    dsimp only at h
    split at h
    case h_2 => cases h
    rename_i b
    simp only [Option.some.injEq, Prod.mk.injEq] at h
    obtain ⟨rfl, rfl, rfl⟩ := h
    refine ⟨by simp [Form, stays], L0, ?_⟩
    rw [vc_lawPushSlow]
    try dsimp only
    have hb := bytesOk_of (hp _ rfl)
    refine ifB_of (fun c => ⟨rfl, rfl⟩) (fun c => ⟨hb, ?_⟩)
    generalize g_DrawPushOf b = z
    obtain ⟨⟨x, y, h, bo⟩, hr⟩ := z
    dsimp only
    simp only [beq_self_eq_true, Bool.and_self, Bool.not_true, ifBf]
    refine ifB_of (fun c1 => ⟨(by trivial), (by trivial)⟩) (fun c1 => ifB_of (fun c2 => ⟨(by trivial), (by trivial)⟩) (fun c2 => ifB_of (fun c3 => ⟨(by trivial), (by trivial)⟩) (fun c3 => ifB_of (fun c4 => ⟨(by trivial), (by trivial)⟩) (fun c4 => ifB_of (fun c5 => ⟨(by trivial), (by trivial)⟩) (fun c5 => ?_)))))
    have fin : ¬ (x.Mass = 0 ∧ y.Mass = 0) → _ := fun hm d1 d2 d3 d4 => slow_law (not_false c1) (not_false c2) (of_decide_eq_false c3) (of_decide_eq_false c4) (of_decide_eq_false c5) hm hr.2.1 hr.2.2 rfl rfl rfl d1 d2 d3 d4
    refine ifB_of (fun c6 => ifB_of (fun c7 => ⟨(by trivial), (by trivial)⟩) (fun c7 => ?_)) (fun c6 => ?_)
    · have hm : ¬ (x.Mass = 0 ∧ y.Mass = 0) := fun z => by simp [z.2] at c7
      refine ifB_of (fun d1 => ⟨(by trivial), (by trivial)⟩) (fun d1 => ifB_of (fun d2 => ⟨(by trivial), (by trivial)⟩) (fun d2 => ifB_of (fun d3 => ⟨(by trivial), (by trivial)⟩) (fun d3 => ifB_of (fun d4 => ⟨(by trivial), (by trivial)⟩) (fun d4 => ?_))))
      exact ⟨congrArg SV.bool (decide_eq_true (fin hm (of_decide_eq_false d1) (of_decide_eq_false d2) (of_decide_eq_false d3) (of_decide_eq_false d4))), trivial⟩
    · have hm : ¬ (x.Mass = 0 ∧ y.Mass = 0) := fun z => by simp [z.1] at c6
      refine ifB_of (fun d1 => ⟨(by trivial), (by trivial)⟩) (fun d1 => ifB_of (fun d2 => ⟨(by trivial), (by trivial)⟩) (fun d2 => ifB_of (fun d3 => ⟨(by trivial), (by trivial)⟩) (fun d3 => ifB_of (fun d4 => ⟨(by trivial), (by trivial)⟩) (fun d4 => ?_))))
      exact ⟨congrArg SV.bool (decide_eq_true (fin hm (of_decide_eq_false d1) (of_decide_eq_false d2) (of_decide_eq_false d3) (of_decide_eq_false d4))), trivial⟩)

end
end Go.Proofs.Ytmflfpedmbfhkaa.Sym
