/-
  Bodies: what is ok, speeds, how fast two close.
  No condition.
-/
import Derived.Test.YtdhbkcaaijgocaaF3
namespace Go.Proofs.Ytdhbkcaaijgocaa.Sym
open Go
set_option linter.unusedVariables false
set_option linter.unusedSimpArgs false
set_option maxRecDepth 100000

def clampTo (m n : Int) : Int := max (-m) (min n m)
def clampV (m : Int) (v : Vec) : Vec := ⟨clampTo m v.X, clampTo m v.Y⟩
def withinI (n m : Int) : Int := max (W (0 - m)) (min n m)
def withinS (n m : Int) : Int := min (max n (W (0 - m))) m
def driveOk (p : Vec) : Bool := isIn p.X (-20000000) 20000000 && isIn p.Y (-20000000) 20000000
def zeroV (p : Vec) : Bool := p.X == 0 && p.Y == 0
def bodyOk (b : Body) : Bool :=
  isIn b.Id 0 999999999 && shapeOk b.Shape && placeOk b.At && driveOk b.Drive && isIn b.Mass 0 1000 && isIn b.Bounce 0 256 && isIn b.Rub 0 256 && isIn b.Quiet 0 8 &&
    (if b.Mass = 0 then zeroV b.Drive && b.Quiet == 0 else decide (b.Quiet < 8) || zeroV b.Drive)
def speed (b : Body) : Vec := if b.Mass = 0 then ⟨0, 0⟩ else ⟨W (b.Drive.X.tdiv b.Mass), W (b.Drive.Y.tdiv b.Mass)⟩
def vecSub (a b : Vec) : Vec := clampV 1000000000 (minus (clampV 1000000000 a) (clampV 1000000000 b))
def dotC (a b : Vec) : Int := clampTo 1000000000 (W ((W (W (a.X * b.X) + W (a.Y * b.Y))).tdiv 256))
def dot (a b : Vec) : Int := dotC (clampV 1000000000 a) (clampV 1000000000 b)
def closing (a b : Body) (way : Vec) : Int := dot (vecSub (speed a) (speed b)) way
def hitOk (h : Hit) : Bool := isIn h.Way.X (-256) 256 && isIn h.Way.Y (-256) 256 && isIn h.Deep 0 102400
def closingAll (a b : Body) (h : Hit) : Int := if bodyOk a && bodyOk b && hitOk h then closing a b h.Way else 0

theorem W_const {m : Int} (h0 : 0 ≤ m) (h1 : m ≤ 4611686018427387904) : W (0 - m) = -m := by
  have := wrap_small (n := 0 - m) (by omega) (by omega)
  simp only [W, this]
  omega
theorem withinI_const {m : Int} (n : Int) (h0 : 0 ≤ m) (h1 : m ≤ 4611686018427387904) : withinI n m = clampTo m n := by
  simp only [withinI, clampTo, W_const h0 h1]
theorem withinS_const {m : Int} (n : Int) (h0 : 0 ≤ m) (h1 : m ≤ 4611686018427387904) : withinS n m = clampTo m n := by
  simp only [withinS, clampTo, W_const h0 h1]
  omega
theorem clampTo_same {m n : Int} (h0 : 0 ≤ m) : (n == clampTo m n) = isIn n (-m) m := by
  simp only [clampTo, isIn]
  rw [Bool.eq_iff_iff]
  simp
  omega
theorem max_c {a x : Int} : (if a < x then x else a) = max a x := max_b
theorem withinI_big (n : Int) : withinI n 1000000000 = clampTo 1000000000 n := withinI_const n (by omega) (by omega)
theorem withinI_drive (n : Int) : withinI n 20000000 = clampTo 20000000 n := withinI_const n (by omega) (by omega)
theorem withinS_far (n : Int) : withinS n 2560000 = clampTo 2560000 n := withinS_const n (by omega) (by omega)

def fs_implWithin : Fs := ⟨[], fun args H => match args, H with
  | [.int .i64 n, .int .i64 m], [] => some (none, .int .i64 (withinI n m), [])
  | _, _ => none⟩

theorem vc_implWithin (n : Int) (m : Int) (Q : SV → List Ent → Prop) :
    fnVC tt (look []) L0 Try.f56 [.int .i64 n, .int .i64 m] [] Q =
    (Q (SV.int IntKind.i64 (if (if m < n then m else n) > IntKind.wrap IntKind.i64 ((0 : Int) - m) then if m < n then m else n else IntKind.wrap IntKind.i64 ((0 : Int) - m))) []) := by kernel_rfl

theorem ok_implWithin : FsOk Try.prog 56 fs_implWithin := fsOk_of tt_ok tabFs_nil mixed Try.func56 (by kernel_rfl) (by kernel_rfl) (by
    intro args LL p r HH h hp
    unfold fs_implWithin at h
    dsimp only at h
    split at h
    case h_2 => cases h
    rename_i n m
    simp only [Option.some.injEq, Prod.mk.injEq] at h
    obtain ⟨rfl, rfl, rfl⟩ := h
    refine ⟨by simp [Form, stays], L0, ?_⟩
    rw [vc_implWithin]
    try dsimp only
    simp only [withinI, max_b, min_b, W, and_self])

def fs_implFixClamp : Fs := ⟨[], fun args H => match args, H with
  | [.int .i64 n], [] => some (none, .int .i64 (clampTo 1000000000 n), [])
  | _, _ => none⟩

theorem vc_implFixClamp (n : Int) (Q : SV → List Ent → Prop) :
    fnVC tt (look [(56, fs_implWithin)]) L0 Try.f70 [.int .i64 n] [] Q =
    (Q (SV.int IntKind.i64 (withinI n (1000000000 : Int))) []) := by kernel_rfl

theorem ok_implFixClamp : FsOk Try.prog 70 fs_implFixClamp := fsOk_of tt_ok (tabFs_cons ok_implWithin tabFs_nil) mixed Try.func70 (by kernel_rfl) (by kernel_rfl) (by
    intro args LL p r HH h hp
    unfold fs_implFixClamp at h
    dsimp only at h
    split at h
    case h_2 => cases h
    rename_i n
    simp only [Option.some.injEq, Prod.mk.injEq] at h
    obtain ⟨rfl, rfl, rfl⟩ := h
    refine ⟨by simp [Form, stays], L0, ?_⟩
    rw [vc_implFixClamp]
    try dsimp only
    rw [withinI_big]
    exact ⟨rfl, rfl⟩)

def fs_vecClamped : Fs := ⟨[], fun args H => match args, H with
  | [.agg [.int .i64 vX, .int .i64 vY], .int .i64 m], [] => some (none, .agg [.int .i64 (Vec.mk (withinI (Vec.mk vX vY).X m) (withinI (Vec.mk vX vY).Y m)).X, .int .i64 (Vec.mk (withinI (Vec.mk vX vY).X m) (withinI (Vec.mk vX vY).Y m)).Y], [])
  | _, _ => none⟩

theorem vc_vecClamped (vX : Int) (vY : Int) (m : Int) (Q : SV → List Ent → Prop) :
    fnVC tt (look [(56, fs_implWithin)]) L0 Try.f47 [.agg [.int .i64 vX, .int .i64 vY], .int .i64 m] [] Q =
    (Q (SV.agg [SV.int IntKind.i64 (withinI vX m), SV.int IntKind.i64 (withinI vY m)]) []) := by kernel_rfl

theorem ok_vecClamped : FsOk Try.prog 47 fs_vecClamped := fsOk_of tt_ok (tabFs_cons ok_implWithin tabFs_nil) mixed Try.func47 (by kernel_rfl) (by kernel_rfl) (by
    intro args LL p r HH h hp
    unfold fs_vecClamped at h
    dsimp only at h
    split at h
    case h_2 => cases h
    rename_i vX vY m
    simp only [Option.some.injEq, Prod.mk.injEq] at h
    obtain ⟨rfl, rfl, rfl⟩ := h
    refine ⟨by simp [Form, stays], L0, ?_⟩
    rw [vc_vecClamped]
    try dsimp only

    repeat' (first | refine ifB_of (fun _ => ?_) (fun _ => ?_) | refine pre_of ?_ (fun _ => ?_))
    all_goals first
      | rfl
      | (simp only [W, withinI, *, cond_true, cond_false, Bool.true_and, Bool.false_and, Bool.and_true, Bool.and_false, Bool.not_true, Bool.not_false, and_self, true_and]; done)
      | (simp_all [W, withinI]; done)
      | (simp_all [W, withinI] <;> omega))

def fs_isDrive : Fs := ⟨[], fun args H => match args, H with
  | [.agg [.int .i64 vX, .int .i64 vY]], [] => some (none, .bool (driveOk (Vec.mk vX vY)), [])
  | _, _ => none⟩

theorem vc_isDrive (vX : Int) (vY : Int) (Q : SV → List Ent → Prop) :
    fnVC tt (look [(47, fs_vecClamped)]) L0 Try.f52 [.agg [.int .i64 vX, .int .i64 vY]] [] Q =
    (Q (SV.bool (vX == withinI vX (20000000 : Int) && vY == withinI vY (20000000 : Int))) []) := by kernel_rfl

theorem ok_isDrive : FsOk Try.prog 52 fs_isDrive := fsOk_of tt_ok (tabFs_cons ok_vecClamped tabFs_nil) mixed Try.func52 (by kernel_rfl) (by kernel_rfl) (by
    intro args LL p r HH h hp
    unfold fs_isDrive at h
    dsimp only at h
    split at h
    case h_2 => cases h
    rename_i vX vY
    simp only [Option.some.injEq, Prod.mk.injEq] at h
    obtain ⟨rfl, rfl, rfl⟩ := h
    refine ⟨by simp [Form, stays], L0, ?_⟩
    rw [vc_isDrive]
    try dsimp only
    simp only [withinI_drive, clampTo_same (show (0 : Int) ≤ 20000000 by omega), driveOk, and_self])

def fs_bodyFixed : Fs := ⟨[], fun args H => match args, H with
  | [.agg [.int .i64 bI, .int .i64 bK, .int .i64 bW, .int .i64 bH, .int .i64 bX, .int .i64 bY, .int .i64 bU, .int .i64 bV, .int .i64 bM, .int .i64 bB, .int .i64 bR, .int .i64 bQ]], [] => some (none, .bool ((Body.mk bI (Shape.mk bK bW bH) (Vec.mk bX bY) (Vec.mk bU bV) bM bB bR bQ).Mass == 0), [])
  | _, _ => none⟩

theorem vc_bodyFixed (bI : Int) (bK : Int) (bW : Int) (bH : Int) (bX : Int) (bY : Int) (bU : Int) (bV : Int) (bM : Int) (bB : Int) (bR : Int) (bQ : Int) (Q : SV → List Ent → Prop) :
    fnVC tt (look []) L0 Try.f40 [.agg [.int .i64 bI, .int .i64 bK, .int .i64 bW, .int .i64 bH, .int .i64 bX, .int .i64 bY, .int .i64 bU, .int .i64 bV, .int .i64 bM, .int .i64 bB, .int .i64 bR, .int .i64 bQ]] [] Q =
    (Q (SV.bool (bM == (0 : Int))) []) := by kernel_rfl

theorem ok_bodyFixed : FsOk Try.prog 40 fs_bodyFixed := fsOk_of tt_ok tabFs_nil mixed Try.func40 (by kernel_rfl) (by kernel_rfl) (by
    intro args LL p r HH h hp
    unfold fs_bodyFixed at h
    dsimp only at h
    split at h
    case h_2 => cases h
    rename_i bI bK bW bH bX bY bU bV bM bB bR bQ
    simp only [Option.some.injEq, Prod.mk.injEq] at h
    obtain ⟨rfl, rfl, rfl⟩ := h
    refine ⟨by simp [Form, stays], L0, ?_⟩
    rw [vc_bodyFixed]
    try dsimp only

    repeat' (first | refine ifB_of (fun _ => ?_) (fun _ => ?_) | refine pre_of ?_ (fun _ => ?_))
    all_goals first
      | rfl
      | (simp only [W, isIn, *, cond_true, cond_false, Bool.true_and, Bool.false_and, Bool.and_true, Bool.and_false, Bool.not_true, Bool.not_false, and_self, true_and]; done)
      | (simp_all [W, isIn]; done)
      | (simp_all [W, isIn] <;> omega))

def fs_bodySleeps : Fs := ⟨[], fun args H => match args, H with
  | [.agg [.int .i64 bI, .int .i64 bK, .int .i64 bW, .int .i64 bH, .int .i64 bX, .int .i64 bY, .int .i64 bU, .int .i64 bV, .int .i64 bM, .int .i64 bB, .int .i64 bR, .int .i64 bQ]], [] => some (none, .bool ((Body.mk bI (Shape.mk bK bW bH) (Vec.mk bX bY) (Vec.mk bU bV) bM bB bR bQ).Quiet == 8), [])
  | _, _ => none⟩

theorem vc_bodySleeps (bI : Int) (bK : Int) (bW : Int) (bH : Int) (bX : Int) (bY : Int) (bU : Int) (bV : Int) (bM : Int) (bB : Int) (bR : Int) (bQ : Int) (Q : SV → List Ent → Prop) :
    fnVC tt (look []) L0 Try.f27 [.agg [.int .i64 bI, .int .i64 bK, .int .i64 bW, .int .i64 bH, .int .i64 bX, .int .i64 bY, .int .i64 bU, .int .i64 bV, .int .i64 bM, .int .i64 bB, .int .i64 bR, .int .i64 bQ]] [] Q =
    (Q (SV.bool (bQ == (8 : Int))) []) := by kernel_rfl

theorem ok_bodySleeps : FsOk Try.prog 27 fs_bodySleeps := fsOk_of tt_ok tabFs_nil mixed Try.func27 (by kernel_rfl) (by kernel_rfl) (by
    intro args LL p r HH h hp
    unfold fs_bodySleeps at h
    dsimp only at h
    split at h
    case h_2 => cases h
    rename_i bI bK bW bH bX bY bU bV bM bB bR bQ
    simp only [Option.some.injEq, Prod.mk.injEq] at h
    obtain ⟨rfl, rfl, rfl⟩ := h
    refine ⟨by simp [Form, stays], L0, ?_⟩
    rw [vc_bodySleeps]
    try dsimp only

    repeat' (first | refine ifB_of (fun _ => ?_) (fun _ => ?_) | refine pre_of ?_ (fun _ => ?_))
    all_goals first
      | rfl
      | (simp only [W, isIn, *, cond_true, cond_false, Bool.true_and, Bool.false_and, Bool.and_true, Bool.and_false, Bool.not_true, Bool.not_false, and_self, true_and]; done)
      | (simp_all [W, isIn]; done)
      | (simp_all [W, isIn] <;> omega))

def fs_implBodyOk : Fs := ⟨[], fun args H => match args, H with
  | [.agg [.int .i64 bI, .int .i64 bK, .int .i64 bW, .int .i64 bH, .int .i64 bX, .int .i64 bY, .int .i64 bU, .int .i64 bV, .int .i64 bM, .int .i64 bB, .int .i64 bR, .int .i64 bQ]], [] => some (none, .bool (bodyOk (Body.mk bI (Shape.mk bK bW bH) (Vec.mk bX bY) (Vec.mk bU bV) bM bB bR bQ)), [])
  | _, _ => none⟩

theorem vc_implBodyOk (bI : Int) (bK : Int) (bW : Int) (bH : Int) (bX : Int) (bY : Int) (bU : Int) (bV : Int) (bM : Int) (bB : Int) (bR : Int) (bQ : Int) (Q : SV → List Ent → Prop) :
    fnVC tt (look [(12, fs_in_), (50, fs_implShapeOk), (51, fs_isPlace), (52, fs_isDrive), (40, fs_bodyFixed), (27, fs_bodySleeps)]) L0 Try.f37 [.agg [.int .i64 bI, .int .i64 bK, .int .i64 bW, .int .i64 bH, .int .i64 bX, .int .i64 bY, .int .i64 bU, .int .i64 bV, .int .i64 bM, .int .i64 bB, .int .i64 bR, .int .i64 bQ]] [] Q =
    (ifB (!isIn bI (0 : Int) (999999999 : Int)) (Q (SV.bool false) []) (ifB (!shapeOk (Shape.mk bK bW bH)) (Q (SV.bool false) []) (ifB (!placeOk (Vec.mk bX bY)) (Q (SV.bool false) []) (ifB (!driveOk (Vec.mk bU bV)) (Q (SV.bool false) []) (ifB (!isIn bM (0 : Int) (1000 : Int)) (Q (SV.bool false) []) (ifB (!isIn bB (0 : Int) (256 : Int)) (Q (SV.bool false) []) (ifB (!isIn bR (0 : Int) (256 : Int)) (Q (SV.bool false) []) (ifB (!isIn bQ (0 : Int) (8 : Int)) (Q (SV.bool false) []) (ifB (!bM == (0 : Int)) (ifB (!bQ == (8 : Int)) (Q (SV.bool true) []) (Q (SV.bool (bU == (0 : Int) && bV == (0 : Int))) [])) (ifB (bU == (0 : Int) && bV == (0 : Int)) (ifB (bQ == (0 : Int)) (ifB (!bQ == (8 : Int)) (Q (SV.bool true) []) (Q (SV.bool (bU == (0 : Int) && bV == (0 : Int))) [])) (Q (SV.bool false) [])) (Q (SV.bool false) []))))))))))) := by kernel_rfl

theorem ok_implBodyOk : FsOk Try.prog 37 fs_implBodyOk := fsOk_of tt_ok (tabFs_cons ok_in_ (tabFs_cons ok_implShapeOk (tabFs_cons ok_isPlace (tabFs_cons ok_isDrive (tabFs_cons ok_bodyFixed (tabFs_cons ok_bodySleeps tabFs_nil)))))) mixed Try.func37 (by kernel_rfl) (by kernel_rfl) (by
    intro args LL p r HH h hp
    unfold fs_implBodyOk at h
    dsimp only at h
    split at h
    case h_2 => cases h
    rename_i bI bK bW bH bX bY bU bV bM bB bR bQ
    simp only [Option.some.injEq, Prod.mk.injEq] at h
    obtain ⟨rfl, rfl, rfl⟩ := h
    refine ⟨by simp [Form, stays], L0, ?_⟩
    rw [vc_implBodyOk]
    try dsimp only

    repeat' (first | refine ifB_of (fun _ => ?_) (fun _ => ?_) | refine pre_of ?_ (fun _ => ?_))
    all_goals first
      | rfl
      | (simp only [W, bodyOk, zeroV, isIn, *, cond_true, cond_false, Bool.true_and, Bool.false_and, Bool.and_true, Bool.and_false, Bool.not_true, Bool.not_false, and_self, true_and]; done)
      | (simp_all [W, bodyOk, zeroV, isIn]; done)
      | (simp_all [W, bodyOk, zeroV, isIn] <;> omega))

def fs_implSpeed : Fs := ⟨[], fun args H => match args, H with
  | [.agg [.int .i64 bI, .int .i64 bK, .int .i64 bW, .int .i64 bH, .int .i64 bX, .int .i64 bY, .int .i64 bU, .int .i64 bV, .int .i64 bM, .int .i64 bB, .int .i64 bR, .int .i64 bQ]], [] => some (none, .agg [.int .i64 (speed (Body.mk bI (Shape.mk bK bW bH) (Vec.mk bX bY) (Vec.mk bU bV) bM bB bR bQ)).X, .int .i64 (speed (Body.mk bI (Shape.mk bK bW bH) (Vec.mk bX bY) (Vec.mk bU bV) bM bB bR bQ)).Y], [])
  | _, _ => none⟩

theorem vc_implSpeed (bI : Int) (bK : Int) (bW : Int) (bH : Int) (bX : Int) (bY : Int) (bU : Int) (bV : Int) (bM : Int) (bB : Int) (bR : Int) (bQ : Int) (Q : SV → List Ent → Prop) :
    fnVC tt (look [(40, fs_bodyFixed)]) L0 Try.f32 [.agg [.int .i64 bI, .int .i64 bK, .int .i64 bW, .int .i64 bH, .int .i64 bX, .int .i64 bY, .int .i64 bU, .int .i64 bV, .int .i64 bM, .int .i64 bB, .int .i64 bR, .int .i64 bQ]] [] Q =
    (ifB (bM == (0 : Int)) (Q (SV.agg [SV.int IntKind.i64 (0 : Int), SV.int IntKind.i64 (0 : Int)]) []) (bM ≠ (0 : Int) ∧ bM ≠ (0 : Int) ∧ Q (SV.agg [SV.int IntKind.i64 (IntKind.wrap IntKind.i64 (Int.tdiv bU bM)), SV.int IntKind.i64 (IntKind.wrap IntKind.i64 (Int.tdiv bV bM))]) [])) := by kernel_rfl

theorem ok_implSpeed : FsOk Try.prog 32 fs_implSpeed := fsOk_of tt_ok (tabFs_cons ok_bodyFixed tabFs_nil) mixed Try.func32 (by kernel_rfl) (by kernel_rfl) (by
    intro args LL p r HH h hp
    unfold fs_implSpeed at h
    dsimp only at h
    split at h
    case h_2 => cases h
    rename_i bI bK bW bH bX bY bU bV bM bB bR bQ
    simp only [Option.some.injEq, Prod.mk.injEq] at h
    obtain ⟨rfl, rfl, rfl⟩ := h
    refine ⟨by simp [Form, stays], L0, ?_⟩
    rw [vc_implSpeed]
    try dsimp only

    repeat' (first | refine ifB_of (fun _ => ?_) (fun _ => ?_) | refine pre_of ?_ (fun _ => ?_))
    all_goals first
      | rfl
      | (simp only [W, speed, *, cond_true, cond_false, Bool.true_and, Bool.false_and, Bool.and_true, Bool.and_false, Bool.not_true, Bool.not_false, and_self, true_and]; done)
      | (simp_all [W, speed]; done)
      | (simp_all [W, speed] <;> omega))

def fs_implVecSub : Fs := ⟨[], fun args H => match args, H with
  | [.agg [.int .i64 aX, .int .i64 aY], .agg [.int .i64 bX, .int .i64 bY]], [] => some (none, .agg [.int .i64 (vecSub (Vec.mk aX aY) (Vec.mk bX bY)).X, .int .i64 (vecSub (Vec.mk aX aY) (Vec.mk bX bY)).Y], [])
  | _, _ => none⟩

theorem vc_implVecSub (aX : Int) (aY : Int) (bX : Int) (bY : Int) (Q : SV → List Ent → Prop) :
    fnVC tt (look [(47, fs_vecClamped), (63, fs_vecMinus)]) L0 Try.f62 [.agg [.int .i64 aX, .int .i64 aY], .agg [.int .i64 bX, .int .i64 bY]] [] Q =
    (Q (SV.agg [SV.int IntKind.i64 (withinI (Vec.X (minus (Vec.mk (withinI aX (1000000000 : Int)) (withinI aY (1000000000 : Int))) (Vec.mk (withinI bX (1000000000 : Int)) (withinI bY (1000000000 : Int))))) (1000000000 : Int)), SV.int IntKind.i64 (withinI (Vec.Y (minus (Vec.mk (withinI aX (1000000000 : Int)) (withinI aY (1000000000 : Int))) (Vec.mk (withinI bX (1000000000 : Int)) (withinI bY (1000000000 : Int))))) (1000000000 : Int))]) []) := by kernel_rfl

theorem ok_implVecSub : FsOk Try.prog 62 fs_implVecSub := fsOk_of tt_ok (tabFs_cons ok_vecClamped (tabFs_cons ok_vecMinus tabFs_nil)) mixed Try.func62 (by kernel_rfl) (by kernel_rfl) (by
    intro args LL p r HH h hp
    unfold fs_implVecSub at h
    dsimp only at h
    split at h
    case h_2 => cases h
    rename_i aX aY bX bY
    simp only [Option.some.injEq, Prod.mk.injEq] at h
    obtain ⟨rfl, rfl, rfl⟩ := h
    refine ⟨by simp [Form, stays], L0, ?_⟩
    rw [vc_implVecSub]
    try dsimp only
    simp only [withinI_big, vecSub, clampV, and_self])

def fs_implVecDot : Fs := ⟨[], fun args H => match args, H with
  | [.agg [.int .i64 aX, .int .i64 aY], .agg [.int .i64 bX, .int .i64 bY]], [] => some (none, .int .i64 (dot (Vec.mk aX aY) (Vec.mk bX bY)), [])
  | _, _ => none⟩

theorem vc_implVecDot (aX : Int) (aY : Int) (bX : Int) (bY : Int) (Q : SV → List Ent → Prop) :
    fnVC tt (look [(47, fs_vecClamped), (70, fs_implFixClamp)]) L0 Try.f61 [.agg [.int .i64 aX, .int .i64 aY], .agg [.int .i64 bX, .int .i64 bY]] [] Q =
    (Q (SV.int IntKind.i64 (clampTo (1000000000 : Int) (IntKind.wrap IntKind.i64 (Int.tdiv (IntKind.wrap IntKind.i64 (IntKind.wrap IntKind.i64 (withinI aX (1000000000 : Int) * withinI bX (1000000000 : Int)) + IntKind.wrap IntKind.i64 (withinI aY (1000000000 : Int) * withinI bY (1000000000 : Int)))) (256 : Int))))) []) := by kernel_rfl

theorem ok_implVecDot : FsOk Try.prog 61 fs_implVecDot := fsOk_of tt_ok (tabFs_cons ok_vecClamped (tabFs_cons ok_implFixClamp tabFs_nil)) mixed Try.func61 (by kernel_rfl) (by kernel_rfl) (by
    intro args LL p r HH h hp
    unfold fs_implVecDot at h
    dsimp only at h
    split at h
    case h_2 => cases h
    rename_i aX aY bX bY
    simp only [Option.some.injEq, Prod.mk.injEq] at h
    obtain ⟨rfl, rfl, rfl⟩ := h
    refine ⟨by simp [Form, stays], L0, ?_⟩
    rw [vc_implVecDot]
    try dsimp only
    simp only [withinI_big, dot, dotC, clampV, W, and_self])

def fs_implClosingIn : Fs := ⟨[], fun args H => match args, H with
  | [.agg [.int .i64 aI, .int .i64 aK, .int .i64 aW, .int .i64 aH, .int .i64 aX, .int .i64 aY, .int .i64 aU, .int .i64 aV, .int .i64 aM, .int .i64 aB, .int .i64 aR, .int .i64 aQ], .agg [.int .i64 bI, .int .i64 bK, .int .i64 bW, .int .i64 bH, .int .i64 bX, .int .i64 bY, .int .i64 bU, .int .i64 bV, .int .i64 bM, .int .i64 bB, .int .i64 bR, .int .i64 bQ], .agg [.int .i64 wX, .int .i64 wY]], [] => some (none, .int .i64 (closing (Body.mk aI (Shape.mk aK aW aH) (Vec.mk aX aY) (Vec.mk aU aV) aM aB aR aQ) (Body.mk bI (Shape.mk bK bW bH) (Vec.mk bX bY) (Vec.mk bU bV) bM bB bR bQ) (Vec.mk wX wY)), [])
  | _, _ => none⟩

theorem vc_implClosingIn (aI : Int) (aK : Int) (aW : Int) (aH : Int) (aX : Int) (aY : Int) (aU : Int) (aV : Int) (aM : Int) (aB : Int) (aR : Int) (aQ : Int) (bI : Int) (bK : Int) (bW : Int) (bH : Int) (bX : Int) (bY : Int) (bU : Int) (bV : Int) (bM : Int) (bB : Int) (bR : Int) (bQ : Int) (wX : Int) (wY : Int) (Q : SV → List Ent → Prop) :
    fnVC tt (look [(32, fs_implSpeed), (62, fs_implVecSub), (61, fs_implVecDot)]) L0 Try.f54 [.agg [.int .i64 aI, .int .i64 aK, .int .i64 aW, .int .i64 aH, .int .i64 aX, .int .i64 aY, .int .i64 aU, .int .i64 aV, .int .i64 aM, .int .i64 aB, .int .i64 aR, .int .i64 aQ], .agg [.int .i64 bI, .int .i64 bK, .int .i64 bW, .int .i64 bH, .int .i64 bX, .int .i64 bY, .int .i64 bU, .int .i64 bV, .int .i64 bM, .int .i64 bB, .int .i64 bR, .int .i64 bQ], .agg [.int .i64 wX, .int .i64 wY]] [] Q =
    (Q (SV.int IntKind.i64 (dot (vecSub (speed (Body.mk aI (Shape.mk aK aW aH) (Vec.mk aX aY) (Vec.mk aU aV) aM aB aR aQ)) (speed (Body.mk bI (Shape.mk bK bW bH) (Vec.mk bX bY) (Vec.mk bU bV) bM bB bR bQ))) (Vec.mk wX wY))) []) := by kernel_rfl

theorem ok_implClosingIn : FsOk Try.prog 54 fs_implClosingIn := fsOk_of tt_ok (tabFs_cons ok_implSpeed (tabFs_cons ok_implVecSub (tabFs_cons ok_implVecDot tabFs_nil))) mixed Try.func54 (by kernel_rfl) (by kernel_rfl) (by
    intro args LL p r HH h hp
    unfold fs_implClosingIn at h
    dsimp only at h
    split at h
    case h_2 => cases h
    rename_i aI aK aW aH aX aY aU aV aM aB aR aQ bI bK bW bH bX bY bU bV bM bB bR bQ wX wY
    simp only [Option.some.injEq, Prod.mk.injEq] at h
    obtain ⟨rfl, rfl, rfl⟩ := h
    refine ⟨by simp [Form, stays], L0, ?_⟩
    rw [vc_implClosingIn]
    try dsimp only

    repeat' (first | refine ifB_of (fun _ => ?_) (fun _ => ?_) | refine pre_of ?_ (fun _ => ?_))
    all_goals first
      | rfl
      | (simp only [W, closing, *, cond_true, cond_false, Bool.true_and, Bool.false_and, Bool.and_true, Bool.and_false, Bool.not_true, Bool.not_false, and_self, true_and]; done)
      | (simp_all [W, closing]; done)
      | (simp_all [W, closing] <;> omega))


end Go.Proofs.Ytdhbkcaaijgocaa.Sym
