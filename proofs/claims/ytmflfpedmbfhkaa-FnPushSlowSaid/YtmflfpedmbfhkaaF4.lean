/-
  Bodies: what is ok, speeds, how fast two close.
  No condition.
-/
import Derived.Test.YtmflfpedmbfhkaaF3
namespace Go.Proofs.Ytmflfpedmbfhkaa.Sym
open Go
set_option linter.unusedVariables false
set_option linter.unusedSimpArgs false
set_option maxRecDepth 100000

def clampTo (m n : Int) : Int := max (-m) (min n m)
def clampV (m : Int) (v : Vec) : Vec := ⟨clampTo m v.X, clampTo m v.Y⟩
def withinI (n m : Int) : Int := max (W (0 - m)) (min n m)
def withinS (n m : Int) : Int := min (max n (W (0 - m))) m
def driveOk (p : Vec) : Bool := isIn p.X (-20000000) 20000000 && isIn p.Y (-20000000) 20000000
def zeroV (p : Vec) : Bool := p.X == 0 && p.Y == 0
def bodyOk (b : Body) : Bool :=
  isIn b.Id 0 999999999 && shapeOk b.Shape && placeOk b.At && driveOk b.Drive && isIn b.Mass 0 1000 && isIn b.Bounce 0 256 && isIn b.Rub 0 256 && isIn b.Quiet 0 8 &&
    (if b.Mass = 0 then zeroV b.Drive && b.Quiet == 0 else decide (b.Quiet < 8) || zeroV b.Drive)
def speed (b : Body) : Vec := if b.Mass = 0 then ⟨0, 0⟩ else ⟨W (b.Drive.X.tdiv b.Mass), W (b.Drive.Y.tdiv b.Mass)⟩
def vecSub (a b : Vec) : Vec := clampV 1000000000 (minus (clampV 1000000000 a) (clampV 1000000000 b))
def dotC (a b : Vec) : Int := clampTo 1000000000 (W ((W (W (a.X * b.X) + W (a.Y * b.Y))).tdiv 256))
def dot (a b : Vec) : Int := dotC (clampV 1000000000 a) (clampV 1000000000 b)
def closing (a b : Body) (way : Vec) : Int := dot (vecSub (speed a) (speed b)) way
def hitOk (h : Hit) : Bool := isIn h.Way.X (-256) 256 && isIn h.Way.Y (-256) 256 && isIn h.Deep 0 102400
def closingAll (a b : Body) (h : Hit) : Int := if bodyOk a && bodyOk b && hitOk h then closing a b h.Way else 0

theorem W_const {m : Int} (h0 : 0 ≤ m) (h1 : m ≤ 4611686018427387904) : W (0 - m) = -m := by
  have := wrap_small (n := 0 - m) (by omega) (by omega)
  simp only [W, this]
  omega
theorem withinI_const {m : Int} (n : Int) (h0 : 0 ≤ m) (h1 : m ≤ 4611686018427387904) : withinI n m = clampTo m n := by
  simp only [withinI, clampTo, W_const h0 h1]
theorem withinS_const {m : Int} (n : Int) (h0 : 0 ≤ m) (h1 : m ≤ 4611686018427387904) : withinS n m = clampTo m n := by
  simp only [withinS, clampTo, W_const h0 h1]
  omega
theorem clampTo_same {m n : Int} (h0 : 0 ≤ m) : (n == clampTo m n) = isIn n (-m) m := by
  simp only [clampTo, isIn]
  rw [Bool.eq_iff_iff]
  simp
  omega
theorem max_c {a x : Int} : (if a < x then x else a) = max a x := max_b
theorem withinI_big (n : Int) : withinI n 1000000000 = clampTo 1000000000 n := withinI_const n (by omega) (by omega)
theorem withinI_drive (n : Int) : withinI n 20000000 = clampTo 20000000 n := withinI_const n (by omega) (by omega)
theorem withinS_far (n : Int) : withinS n 2560000 = clampTo 2560000 n := withinS_const n (by omega) (by omega)

def fs_implWithin : Fs := ⟨[], fun args H => match args, H with
  | [.int .i64 n, .int .i64 m], [] => some (none, .int .i64 (withinI n m), [])
  | _, _ => none⟩

theorem vc_implWithin (n : Int) (m : Int) (Q : SV → List Ent → Prop) :
    fnVC tt (look []) L0 Try.f36 [.int .i64 n, .int .i64 m] [] Q =
    (Q (SV.int IntKind.i64 (if (if m < n then m else n) > IntKind.wrap IntKind.i64 ((0 : Int) - m) then if m < n then m else n else IntKind.wrap IntKind.i64 ((0 : Int) - m))) []) := by kernel_rfl

theorem ok_implWithin : FsOk Try.prog 36 fs_implWithin := fsOk_of tt_ok tabFs_nil mixed Try.func36 (by kernel_rfl) (by kernel_rfl) (by
    intro args LL p r HH h hp
    unfold fs_implWithin at h
    dsimp only at h
    split at h
    case h_2 => cases h
    rename_i n m
    simp only [Option.some.injEq, Prod.mk.injEq] at h
    obtain ⟨rfl, rfl, rfl⟩ := h
    refine ⟨by simp [Form, stays], L0, ?_⟩
    rw [vc_implWithin]
    try dsimp only
    simp only [withinI, max_b, min_b, W, and_self])

def fs_specWithin : Fs := ⟨[], fun args H => match args, H with
  | [.int .i64 n, .int .i64 m], [] => some (none, .int .i64 (withinS n m), [])
  | _, _ => none⟩

theorem vc_specWithin (n : Int) (m : Int) (Q : SV → List Ent → Prop) :
    fnVC tt (look [(39, fs_l3More), (44, fs_l3Less)]) L0 Try.f45 [.int .i64 n, .int .i64 m] [] Q =
    (Q (SV.int IntKind.i64 (min (max n (IntKind.wrap IntKind.i64 ((0 : Int) - m))) m)) []) := by kernel_rfl

theorem ok_specWithin : FsOk Try.prog 45 fs_specWithin := fsOk_of tt_ok (tabFs_cons ok_l3More (tabFs_cons ok_l3Less tabFs_nil)) mixed Try.func45 (by kernel_rfl) (by kernel_rfl) (by
    intro args LL p r HH h hp
    unfold fs_specWithin at h
    dsimp only at h
    split at h
    case h_2 => cases h
    rename_i n m
    simp only [Option.some.injEq, Prod.mk.injEq] at h
    obtain ⟨rfl, rfl, rfl⟩ := h
    refine ⟨by simp [Form, stays], L0, ?_⟩
    rw [vc_specWithin]
    try dsimp only

    repeat' (first | refine ifB_of (fun _ => ?_) (fun _ => ?_) | refine pre_of ?_ (fun _ => ?_))
    all_goals first
      | rfl
      | (simp only [W, withinS, *, cond_true, cond_false, Bool.true_and, Bool.false_and, Bool.and_true, Bool.and_false, Bool.not_true, Bool.not_false, and_self, true_and]; done)
      | (simp_all [W, withinS]; done)
      | (simp_all [W, withinS] <;> omega))

def fs_implFixClamp : Fs := ⟨[], fun args H => match args, H with
  | [.int .i64 n], [] => some (none, .int .i64 (clampTo 1000000000 n), [])
  | _, _ => none⟩

theorem vc_implFixClamp (n : Int) (Q : SV → List Ent → Prop) :
    fnVC tt (look [(36, fs_implWithin)]) L0 Try.f57 [.int .i64 n] [] Q =
    (Q (SV.int IntKind.i64 (withinI n (1000000000 : Int))) []) := by kernel_rfl

theorem ok_implFixClamp : FsOk Try.prog 57 fs_implFixClamp := fsOk_of tt_ok (tabFs_cons ok_implWithin tabFs_nil) mixed Try.func57 (by kernel_rfl) (by kernel_rfl) (by
    intro args LL p r HH h hp
    unfold fs_implFixClamp at h
    dsimp only at h
    split at h
    case h_2 => cases h
    rename_i n
    simp only [Option.some.injEq, Prod.mk.injEq] at h
    obtain ⟨rfl, rfl, rfl⟩ := h
    refine ⟨by simp [Form, stays], L0, ?_⟩
    rw [vc_implFixClamp]
    try dsimp only
    rw [withinI_big]
    exact ⟨rfl, rfl⟩)

def fs_specFixClamp : Fs := ⟨[], fun args H => match args, H with
  | [.int .i64 n], [] => some (none, .int .i64 (clampTo 1000000000 n), [])
  | _, _ => none⟩

theorem vc_specFixClamp (n : Int) (Q : SV → List Ent → Prop) :
    fnVC tt (look []) L0 Try.f56 [.int .i64 n] [] Q =
    (ifB (decide (n > (1000000000 : Int))) (Q (SV.int IntKind.i64 (1000000000 : Int)) []) (ifB (decide (n < (-1000000000 : Int))) (Q (SV.int IntKind.i64 (-1000000000 : Int)) []) (Q (SV.int IntKind.i64 n) []))) := by kernel_rfl

theorem ok_specFixClamp : FsOk Try.prog 56 fs_specFixClamp := fsOk_of tt_ok tabFs_nil mixed Try.func56 (by kernel_rfl) (by kernel_rfl) (by
    intro args LL p r HH h hp
    unfold fs_specFixClamp at h
    dsimp only at h
    split at h
    case h_2 => cases h
    rename_i n
    simp only [Option.some.injEq, Prod.mk.injEq] at h
    obtain ⟨rfl, rfl, rfl⟩ := h
    refine ⟨by simp [Form, stays], L0, ?_⟩
    rw [vc_specFixClamp]
    try dsimp only
    refine ifB_of (fun h => ?_) (fun h => ?_)
    · have h : n > 1000000000 := of_decide_eq_true h
      rw [show clampTo 1000000000 n = 1000000000 by simp only [clampTo]; omega]
      exact ⟨rfl, rfl⟩
    have h : ¬ n > 1000000000 := of_decide_eq_false h
    refine ifB_of (fun h2 => ?_) (fun h2 => ?_)
    · have h2 : n < -1000000000 := of_decide_eq_true h2
      rw [show clampTo 1000000000 n = -1000000000 by simp only [clampTo]; omega]
      exact ⟨rfl, rfl⟩
    · have h2 : ¬ n < -1000000000 := of_decide_eq_false h2
      rw [show clampTo 1000000000 n = n by simp only [clampTo]; omega]
      exact ⟨rfl, rfl⟩)

def fs_vecClamped : Fs := ⟨[], fun args H => match args, H with
  | [.agg [.int .i64 vX, .int .i64 vY], .int .i64 m], [] => some (none, .agg [.int .i64 (Vec.mk (withinI (Vec.mk vX vY).X m) (withinI (Vec.mk vX vY).Y m)).X, .int .i64 (Vec.mk (withinI (Vec.mk vX vY).X m) (withinI (Vec.mk vX vY).Y m)).Y], [])
  | _, _ => none⟩

theorem vc_vecClamped (vX : Int) (vY : Int) (m : Int) (Q : SV → List Ent → Prop) :
    fnVC tt (look [(36, fs_implWithin)]) L0 Try.f37 [.agg [.int .i64 vX, .int .i64 vY], .int .i64 m] [] Q =
    (Q (SV.agg [SV.int IntKind.i64 (withinI vX m), SV.int IntKind.i64 (withinI vY m)]) []) := by kernel_rfl

theorem ok_vecClamped : FsOk Try.prog 37 fs_vecClamped := fsOk_of tt_ok (tabFs_cons ok_implWithin tabFs_nil) mixed Try.func37 (by kernel_rfl) (by kernel_rfl) (by
    intro args LL p r HH h hp
    unfold fs_vecClamped at h
    dsimp only at h
    split at h
    case h_2 => cases h
    rename_i vX vY m
    simp only [Option.some.injEq, Prod.mk.injEq] at h
    obtain ⟨rfl, rfl, rfl⟩ := h
    refine ⟨by simp [Form, stays], L0, ?_⟩
    rw [vc_vecClamped]
    try dsimp only

    repeat' (first | refine ifB_of (fun _ => ?_) (fun _ => ?_) | refine pre_of ?_ (fun _ => ?_))
    all_goals first
      | rfl
      | (simp only [W, withinI, *, cond_true, cond_false, Bool.true_and, Bool.false_and, Bool.and_true, Bool.and_false, Bool.not_true, Bool.not_false, and_self, true_and]; done)
      | (simp_all [W, withinI]; done)
      | (simp_all [W, withinI] <;> omega))

def fs_l2Clamp : Fs := ⟨[], fun args H => match args, H with
  | [.agg [.int .i64 vX, .int .i64 vY]], [] => some (none, .agg [.int .i64 (clampV 1000000000 (Vec.mk vX vY)).X, .int .i64 (clampV 1000000000 (Vec.mk vX vY)).Y], [])
  | _, _ => none⟩

theorem vc_l2Clamp (vX : Int) (vY : Int) (Q : SV → List Ent → Prop) :
    fnVC tt (look [(56, fs_specFixClamp)]) L0 Try.f55 [.agg [.int .i64 vX, .int .i64 vY]] [] Q =
    (Q (SV.agg [SV.int IntKind.i64 (clampTo (1000000000 : Int) vX), SV.int IntKind.i64 (clampTo (1000000000 : Int) vY)]) []) := by kernel_rfl

theorem ok_l2Clamp : FsOk Try.prog 55 fs_l2Clamp := fsOk_of tt_ok (tabFs_cons ok_specFixClamp tabFs_nil) mixed Try.func55 (by kernel_rfl) (by kernel_rfl) (by
    intro args LL p r HH h hp
    unfold fs_l2Clamp at h
    dsimp only at h
    split at h
    case h_2 => cases h
    rename_i vX vY
    simp only [Option.some.injEq, Prod.mk.injEq] at h
    obtain ⟨rfl, rfl, rfl⟩ := h
    refine ⟨by simp [Form, stays], L0, ?_⟩
    rw [vc_l2Clamp]
    try dsimp only

    repeat' (first | refine ifB_of (fun _ => ?_) (fun _ => ?_) | refine pre_of ?_ (fun _ => ?_))
    all_goals first
      | rfl
      | (simp only [W, clampV, *, cond_true, cond_false, Bool.true_and, Bool.false_and, Bool.and_true, Bool.and_false, Bool.not_true, Bool.not_false, and_self, true_and]; done)
      | (simp_all [W, clampV]; done)
      | (simp_all [W, clampV] <;> omega))

def fs_isDrive : Fs := ⟨[], fun args H => match args, H with
  | [.agg [.int .i64 vX, .int .i64 vY]], [] => some (none, .bool (driveOk (Vec.mk vX vY)), [])
  | _, _ => none⟩

theorem vc_isDrive (vX : Int) (vY : Int) (Q : SV → List Ent → Prop) :
    fnVC tt (look [(37, fs_vecClamped)]) L0 Try.f24 [.agg [.int .i64 vX, .int .i64 vY]] [] Q =
    (Q (SV.bool (vX == withinI vX (20000000 : Int) && vY == withinI vY (20000000 : Int))) []) := by kernel_rfl

theorem ok_isDrive : FsOk Try.prog 24 fs_isDrive := fsOk_of tt_ok (tabFs_cons ok_vecClamped tabFs_nil) mixed Try.func24 (by kernel_rfl) (by kernel_rfl) (by
    intro args LL p r HH h hp
    unfold fs_isDrive at h
    dsimp only at h
    split at h
    case h_2 => cases h
    rename_i vX vY
    simp only [Option.some.injEq, Prod.mk.injEq] at h
    obtain ⟨rfl, rfl, rfl⟩ := h
    refine ⟨by simp [Form, stays], L0, ?_⟩
    rw [vc_isDrive]
    try dsimp only
    simp only [withinI_drive, clampTo_same (show (0 : Int) ≤ 20000000 by omega), driveOk, and_self])

def fs_l6Drive : Fs := ⟨[], fun args H => match args, H with
  | [.agg [.int .i64 vX, .int .i64 vY]], [] => some (none, .bool (driveOk (Vec.mk vX vY)), [])
  | _, _ => none⟩

theorem vc_l6Drive (vX : Int) (vY : Int) (Q : SV → List Ent → Prop) :
    fnVC tt (look [(19, fs_l1In)]) L0 Try.f22 [.agg [.int .i64 vX, .int .i64 vY]] [] Q =
    (ifB (isIn vX (-20000000 : Int) (20000000 : Int)) (Q (SV.bool (isIn vY (-20000000 : Int) (20000000 : Int))) []) (Q (SV.bool false) [])) := by kernel_rfl

theorem ok_l6Drive : FsOk Try.prog 22 fs_l6Drive := fsOk_of tt_ok (tabFs_cons ok_l1In tabFs_nil) mixed Try.func22 (by kernel_rfl) (by kernel_rfl) (by
    intro args LL p r HH h hp
    unfold fs_l6Drive at h
    dsimp only at h
    split at h
    case h_2 => cases h
    rename_i vX vY
    simp only [Option.some.injEq, Prod.mk.injEq] at h
    obtain ⟨rfl, rfl, rfl⟩ := h
    refine ⟨by simp [Form, stays], L0, ?_⟩
    rw [vc_l6Drive]
    try dsimp only

    repeat' (first | refine ifB_of (fun _ => ?_) (fun _ => ?_) | refine pre_of ?_ (fun _ => ?_))
    all_goals first
      | rfl
      | (simp only [W, driveOk, *, cond_true, cond_false, Bool.true_and, Bool.false_and, Bool.and_true, Bool.and_false, Bool.not_true, Bool.not_false, and_self, true_and]; done)
      | (simp_all [W, driveOk]; done)
      | (simp_all [W, driveOk] <;> omega))

def fs_bodyFixed : Fs := ⟨[], fun args H => match args, H with
  | [.agg [.int .i64 bI, .int .i64 bK, .int .i64 bW, .int .i64 bH, .int .i64 bX, .int .i64 bY, .int .i64 bU, .int .i64 bV, .int .i64 bM, .int .i64 bB, .int .i64 bR, .int .i64 bQ]], [] => some (none, .bool ((Body.mk bI (Shape.mk bK bW bH) (Vec.mk bX bY) (Vec.mk bU bV) bM bB bR bQ).Mass == 0), [])
  | _, _ => none⟩

theorem vc_bodyFixed (bI : Int) (bK : Int) (bW : Int) (bH : Int) (bX : Int) (bY : Int) (bU : Int) (bV : Int) (bM : Int) (bB : Int) (bR : Int) (bQ : Int) (Q : SV → List Ent → Prop) :
    fnVC tt (look []) L0 Try.f33 [.agg [.int .i64 bI, .int .i64 bK, .int .i64 bW, .int .i64 bH, .int .i64 bX, .int .i64 bY, .int .i64 bU, .int .i64 bV, .int .i64 bM, .int .i64 bB, .int .i64 bR, .int .i64 bQ]] [] Q =
    (Q (SV.bool (bM == (0 : Int))) []) := by kernel_rfl

theorem ok_bodyFixed : FsOk Try.prog 33 fs_bodyFixed := fsOk_of tt_ok tabFs_nil mixed Try.func33 (by kernel_rfl) (by kernel_rfl) (by
    intro args LL p r HH h hp
    unfold fs_bodyFixed at h
    dsimp only at h
    split at h
    case h_2 => cases h
    rename_i bI bK bW bH bX bY bU bV bM bB bR bQ
    simp only [Option.some.injEq, Prod.mk.injEq] at h
    obtain ⟨rfl, rfl, rfl⟩ := h
    refine ⟨by simp [Form, stays], L0, ?_⟩
    rw [vc_bodyFixed]
    try dsimp only

    repeat' (first | refine ifB_of (fun _ => ?_) (fun _ => ?_) | refine pre_of ?_ (fun _ => ?_))
    all_goals first
      | rfl
      | (simp only [W, isIn, *, cond_true, cond_false, Bool.true_and, Bool.false_and, Bool.and_true, Bool.and_false, Bool.not_true, Bool.not_false, and_self, true_and]; done)
      | (simp_all [W, isIn]; done)
      | (simp_all [W, isIn] <;> omega))

def fs_bodySleeps : Fs := ⟨[], fun args H => match args, H with
  | [.agg [.int .i64 bI, .int .i64 bK, .int .i64 bW, .int .i64 bH, .int .i64 bX, .int .i64 bY, .int .i64 bU, .int .i64 bV, .int .i64 bM, .int .i64 bB, .int .i64 bR, .int .i64 bQ]], [] => some (none, .bool ((Body.mk bI (Shape.mk bK bW bH) (Vec.mk bX bY) (Vec.mk bU bV) bM bB bR bQ).Quiet == 8), [])
  | _, _ => none⟩

theorem vc_bodySleeps (bI : Int) (bK : Int) (bW : Int) (bH : Int) (bX : Int) (bY : Int) (bU : Int) (bV : Int) (bM : Int) (bB : Int) (bR : Int) (bQ : Int) (Q : SV → List Ent → Prop) :
    fnVC tt (look []) L0 Try.f34 [.agg [.int .i64 bI, .int .i64 bK, .int .i64 bW, .int .i64 bH, .int .i64 bX, .int .i64 bY, .int .i64 bU, .int .i64 bV, .int .i64 bM, .int .i64 bB, .int .i64 bR, .int .i64 bQ]] [] Q =
    (Q (SV.bool (bQ == (8 : Int))) []) := by kernel_rfl

theorem ok_bodySleeps : FsOk Try.prog 34 fs_bodySleeps := fsOk_of tt_ok tabFs_nil mixed Try.func34 (by kernel_rfl) (by kernel_rfl) (by
    intro args LL p r HH h hp
    unfold fs_bodySleeps at h
    dsimp only at h
    split at h
    case h_2 => cases h
    rename_i bI bK bW bH bX bY bU bV bM bB bR bQ
    simp only [Option.some.injEq, Prod.mk.injEq] at h
    obtain ⟨rfl, rfl, rfl⟩ := h
    refine ⟨by simp [Form, stays], L0, ?_⟩
    rw [vc_bodySleeps]
    try dsimp only

    repeat' (first | refine ifB_of (fun _ => ?_) (fun _ => ?_) | refine pre_of ?_ (fun _ => ?_))
    all_goals first
      | rfl
      | (simp only [W, isIn, *, cond_true, cond_false, Bool.true_and, Bool.false_and, Bool.and_true, Bool.and_false, Bool.not_true, Bool.not_false, and_self, true_and]; done)
      | (simp_all [W, isIn]; done)
      | (simp_all [W, isIn] <;> omega))

def fs_specBodyOk : Fs := ⟨[], fun args H => match args, H with
  | [.agg [.int .i64 bI, .int .i64 bK, .int .i64 bW, .int .i64 bH, .int .i64 bX, .int .i64 bY, .int .i64 bU, .int .i64 bV, .int .i64 bM, .int .i64 bB, .int .i64 bR, .int .i64 bQ]], [] => some (none, .bool (bodyOk (Body.mk bI (Shape.mk bK bW bH) (Vec.mk bX bY) (Vec.mk bU bV) bM bB bR bQ)), [])
  | _, _ => none⟩

theorem vc_specBodyOk (bI : Int) (bK : Int) (bW : Int) (bH : Int) (bX : Int) (bY : Int) (bU : Int) (bV : Int) (bM : Int) (bB : Int) (bR : Int) (bQ : Int) (Q : SV → List Ent → Prop) :
    fnVC tt (look [(19, fs_l1In), (20, fs_specShapeOk), (21, fs_l3Place), (22, fs_l6Drive)]) L0 Try.f7 [.agg [.int .i64 bI, .int .i64 bK, .int .i64 bW, .int .i64 bH, .int .i64 bX, .int .i64 bY, .int .i64 bU, .int .i64 bV, .int .i64 bM, .int .i64 bB, .int .i64 bR, .int .i64 bQ]] [] Q =
    (ifB (!isIn bI (0 : Int) (999999999 : Int)) (Q (SV.bool false) []) (ifB (!shapeOk (Shape.mk bK bW bH)) (Q (SV.bool false) []) (ifB (!placeOk (Vec.mk bX bY)) (Q (SV.bool false) []) (ifB (!driveOk (Vec.mk bU bV)) (Q (SV.bool false) []) (ifB (!isIn bM (0 : Int) (1000 : Int)) (Q (SV.bool false) []) (ifB (!isIn bB (0 : Int) (256 : Int)) (Q (SV.bool false) []) (ifB (!isIn bR (0 : Int) (256 : Int)) (Q (SV.bool false) []) (ifB (!isIn bQ (0 : Int) (8 : Int)) (Q (SV.bool false) []) (ifB (bM == (0 : Int)) (ifB (bU == (0 : Int) && bV == (0 : Int)) (Q (SV.bool (bQ == (0 : Int))) []) (Q (SV.bool false) [])) (ifB (decide (bQ < (8 : Int))) (Q (SV.bool true) []) (Q (SV.bool (bU == (0 : Int) && bV == (0 : Int))) []))))))))))) := by kernel_rfl

theorem ok_specBodyOk : FsOk Try.prog 7 fs_specBodyOk := fsOk_of tt_ok (tabFs_cons ok_l1In (tabFs_cons ok_specShapeOk (tabFs_cons ok_l3Place (tabFs_cons ok_l6Drive tabFs_nil)))) mixed Try.func7 (by kernel_rfl) (by kernel_rfl) (by
    intro args LL p r HH h hp
    unfold fs_specBodyOk at h
    dsimp only at h
    split at h
    case h_2 => cases h
    rename_i bI bK bW bH bX bY bU bV bM bB bR bQ
    simp only [Option.some.injEq, Prod.mk.injEq] at h
    obtain ⟨rfl, rfl, rfl⟩ := h
    refine ⟨by simp [Form, stays], L0, ?_⟩
    rw [vc_specBodyOk]
    try dsimp only

    repeat' (first | refine ifB_of (fun _ => ?_) (fun _ => ?_) | refine pre_of ?_ (fun _ => ?_))
    all_goals first
      | rfl
      | (simp only [W, bodyOk, zeroV, *, cond_true, cond_false, Bool.true_and, Bool.false_and, Bool.and_true, Bool.and_false, Bool.not_true, Bool.not_false, and_self, true_and]; done)
      | (simp_all [W, bodyOk, zeroV]; done)
      | (simp_all [W, bodyOk, zeroV] <;> omega))

def fs_implBodyOk : Fs := ⟨[], fun args H => match args, H with
  | [.agg [.int .i64 bI, .int .i64 bK, .int .i64 bW, .int .i64 bH, .int .i64 bX, .int .i64 bY, .int .i64 bU, .int .i64 bV, .int .i64 bM, .int .i64 bB, .int .i64 bR, .int .i64 bQ]], [] => some (none, .bool (bodyOk (Body.mk bI (Shape.mk bK bW bH) (Vec.mk bX bY) (Vec.mk bU bV) bM bB bR bQ)), [])
  | _, _ => none⟩

theorem vc_implBodyOk (bI : Int) (bK : Int) (bW : Int) (bH : Int) (bX : Int) (bY : Int) (bU : Int) (bV : Int) (bM : Int) (bB : Int) (bR : Int) (bQ : Int) (Q : SV → List Ent → Prop) :
    fnVC tt (look [(30, fs_in_), (31, fs_implShapeOk), (32, fs_isPlace), (24, fs_isDrive), (33, fs_bodyFixed), (34, fs_bodySleeps)]) L0 Try.f14 [.agg [.int .i64 bI, .int .i64 bK, .int .i64 bW, .int .i64 bH, .int .i64 bX, .int .i64 bY, .int .i64 bU, .int .i64 bV, .int .i64 bM, .int .i64 bB, .int .i64 bR, .int .i64 bQ]] [] Q =
    (ifB (!isIn bI (0 : Int) (999999999 : Int)) (Q (SV.bool false) []) (ifB (!shapeOk (Shape.mk bK bW bH)) (Q (SV.bool false) []) (ifB (!placeOk (Vec.mk bX bY)) (Q (SV.bool false) []) (ifB (!driveOk (Vec.mk bU bV)) (Q (SV.bool false) []) (ifB (!isIn bM (0 : Int) (1000 : Int)) (Q (SV.bool false) []) (ifB (!isIn bB (0 : Int) (256 : Int)) (Q (SV.bool false) []) (ifB (!isIn bR (0 : Int) (256 : Int)) (Q (SV.bool false) []) (ifB (!isIn bQ (0 : Int) (8 : Int)) (Q (SV.bool false) []) (ifB (!bM == (0 : Int)) (ifB (!bQ == (8 : Int)) (Q (SV.bool true) []) (Q (SV.bool (bU == (0 : Int) && bV == (0 : Int))) [])) (ifB (bU == (0 : Int) && bV == (0 : Int)) (ifB (bQ == (0 : Int)) (ifB (!bQ == (8 : Int)) (Q (SV.bool true) []) (Q (SV.bool (bU == (0 : Int) && bV == (0 : Int))) [])) (Q (SV.bool false) [])) (Q (SV.bool false) []))))))))))) := by kernel_rfl

theorem ok_implBodyOk : FsOk Try.prog 14 fs_implBodyOk := fsOk_of tt_ok (tabFs_cons ok_in_ (tabFs_cons ok_implShapeOk (tabFs_cons ok_isPlace (tabFs_cons ok_isDrive (tabFs_cons ok_bodyFixed (tabFs_cons ok_bodySleeps tabFs_nil)))))) mixed Try.func14 (by kernel_rfl) (by kernel_rfl) (by
    intro args LL p r HH h hp
    unfold fs_implBodyOk at h
    dsimp only at h
    split at h
    case h_2 => cases h
    rename_i bI bK bW bH bX bY bU bV bM bB bR bQ
    simp only [Option.some.injEq, Prod.mk.injEq] at h
    obtain ⟨rfl, rfl, rfl⟩ := h
    refine ⟨by simp [Form, stays], L0, ?_⟩
    rw [vc_implBodyOk]
    try dsimp only

    repeat' (first | refine ifB_of (fun _ => ?_) (fun _ => ?_) | refine pre_of ?_ (fun _ => ?_))
    all_goals first
      | rfl
      | (simp only [W, bodyOk, zeroV, isIn, *, cond_true, cond_false, Bool.true_and, Bool.false_and, Bool.and_true, Bool.and_false, Bool.not_true, Bool.not_false, and_self, true_and]; done)
      | (simp_all [W, bodyOk, zeroV, isIn]; done)
      | (simp_all [W, bodyOk, zeroV, isIn] <;> omega))

def fs_implSpeed : Fs := ⟨[], fun args H => match args, H with
  | [.agg [.int .i64 bI, .int .i64 bK, .int .i64 bW, .int .i64 bH, .int .i64 bX, .int .i64 bY, .int .i64 bU, .int .i64 bV, .int .i64 bM, .int .i64 bB, .int .i64 bR, .int .i64 bQ]], [] => some (none, .agg [.int .i64 (speed (Body.mk bI (Shape.mk bK bW bH) (Vec.mk bX bY) (Vec.mk bU bV) bM bB bR bQ)).X, .int .i64 (speed (Body.mk bI (Shape.mk bK bW bH) (Vec.mk bX bY) (Vec.mk bU bV) bM bB bR bQ)).Y], [])
  | _, _ => none⟩

theorem vc_implSpeed (bI : Int) (bK : Int) (bW : Int) (bH : Int) (bX : Int) (bY : Int) (bU : Int) (bV : Int) (bM : Int) (bB : Int) (bR : Int) (bQ : Int) (Q : SV → List Ent → Prop) :
    fnVC tt (look [(33, fs_bodyFixed)]) L0 Try.f48 [.agg [.int .i64 bI, .int .i64 bK, .int .i64 bW, .int .i64 bH, .int .i64 bX, .int .i64 bY, .int .i64 bU, .int .i64 bV, .int .i64 bM, .int .i64 bB, .int .i64 bR, .int .i64 bQ]] [] Q =
    (ifB (bM == (0 : Int)) (Q (SV.agg [SV.int IntKind.i64 (0 : Int), SV.int IntKind.i64 (0 : Int)]) []) (bM ≠ (0 : Int) ∧ bM ≠ (0 : Int) ∧ Q (SV.agg [SV.int IntKind.i64 (IntKind.wrap IntKind.i64 (Int.tdiv bU bM)), SV.int IntKind.i64 (IntKind.wrap IntKind.i64 (Int.tdiv bV bM))]) [])) := by kernel_rfl

theorem ok_implSpeed : FsOk Try.prog 48 fs_implSpeed := fsOk_of tt_ok (tabFs_cons ok_bodyFixed tabFs_nil) mixed Try.func48 (by kernel_rfl) (by kernel_rfl) (by
    intro args LL p r HH h hp
    unfold fs_implSpeed at h
    dsimp only at h
    split at h
    case h_2 => cases h
    rename_i bI bK bW bH bX bY bU bV bM bB bR bQ
    simp only [Option.some.injEq, Prod.mk.injEq] at h
    obtain ⟨rfl, rfl, rfl⟩ := h
    refine ⟨by simp [Form, stays], L0, ?_⟩
    rw [vc_implSpeed]
    try dsimp only

    repeat' (first | refine ifB_of (fun _ => ?_) (fun _ => ?_) | refine pre_of ?_ (fun _ => ?_))
    all_goals first
      | rfl
      | (simp only [W, speed, *, cond_true, cond_false, Bool.true_and, Bool.false_and, Bool.and_true, Bool.and_false, Bool.not_true, Bool.not_false, and_self, true_and]; done)
      | (simp_all [W, speed]; done)
      | (simp_all [W, speed] <;> omega))

def fs_specSpeed : Fs := ⟨[], fun args H => match args, H with
  | [.agg [.int .i64 bI, .int .i64 bK, .int .i64 bW, .int .i64 bH, .int .i64 bX, .int .i64 bY, .int .i64 bU, .int .i64 bV, .int .i64 bM, .int .i64 bB, .int .i64 bR, .int .i64 bQ]], [] => some (none, .agg [.int .i64 (speed (Body.mk bI (Shape.mk bK bW bH) (Vec.mk bX bY) (Vec.mk bU bV) bM bB bR bQ)).X, .int .i64 (speed (Body.mk bI (Shape.mk bK bW bH) (Vec.mk bX bY) (Vec.mk bU bV) bM bB bR bQ)).Y], [])
  | _, _ => none⟩

theorem vc_specSpeed (bI : Int) (bK : Int) (bW : Int) (bH : Int) (bX : Int) (bY : Int) (bU : Int) (bV : Int) (bM : Int) (bB : Int) (bR : Int) (bQ : Int) (Q : SV → List Ent → Prop) :
    fnVC tt (look []) L0 Try.f43 [.agg [.int .i64 bI, .int .i64 bK, .int .i64 bW, .int .i64 bH, .int .i64 bX, .int .i64 bY, .int .i64 bU, .int .i64 bV, .int .i64 bM, .int .i64 bB, .int .i64 bR, .int .i64 bQ]] [] Q =
    (ifB (bM == (0 : Int)) (Q (SV.agg [SV.int IntKind.i64 (0 : Int), SV.int IntKind.i64 (0 : Int)]) []) (bM ≠ (0 : Int) ∧ bM ≠ (0 : Int) ∧ Q (SV.agg [SV.int IntKind.i64 (IntKind.wrap IntKind.i64 (Int.tdiv bU bM)), SV.int IntKind.i64 (IntKind.wrap IntKind.i64 (Int.tdiv bV bM))]) [])) := by kernel_rfl

theorem ok_specSpeed : FsOk Try.prog 43 fs_specSpeed := fsOk_of tt_ok tabFs_nil mixed Try.func43 (by kernel_rfl) (by kernel_rfl) (by
    intro args LL p r HH h hp
    unfold fs_specSpeed at h
    dsimp only at h
    split at h
    case h_2 => cases h
    rename_i bI bK bW bH bX bY bU bV bM bB bR bQ
    simp only [Option.some.injEq, Prod.mk.injEq] at h
    obtain ⟨rfl, rfl, rfl⟩ := h
    refine ⟨by simp [Form, stays], L0, ?_⟩
    rw [vc_specSpeed]
    try dsimp only

    repeat' (first | refine ifB_of (fun _ => ?_) (fun _ => ?_) | refine pre_of ?_ (fun _ => ?_))
    all_goals first
      | rfl
      | (simp only [W, speed, *, cond_true, cond_false, Bool.true_and, Bool.false_and, Bool.and_true, Bool.and_false, Bool.not_true, Bool.not_false, and_self, true_and]; done)
      | (simp_all [W, speed]; done)
      | (simp_all [W, speed] <;> omega))

def fs_implVecSub : Fs := ⟨[], fun args H => match args, H with
  | [.agg [.int .i64 aX, .int .i64 aY], .agg [.int .i64 bX, .int .i64 bY]], [] => some (none, .agg [.int .i64 (vecSub (Vec.mk aX aY) (Vec.mk bX bY)).X, .int .i64 (vecSub (Vec.mk aX aY) (Vec.mk bX bY)).Y], [])
  | _, _ => none⟩

theorem vc_implVecSub (aX : Int) (aY : Int) (bX : Int) (bY : Int) (Q : SV → List Ent → Prop) :
    fnVC tt (look [(37, fs_vecClamped), (58, fs_vecMinus)]) L0 Try.f47 [.agg [.int .i64 aX, .int .i64 aY], .agg [.int .i64 bX, .int .i64 bY]] [] Q =
    (Q (SV.agg [SV.int IntKind.i64 (withinI (Vec.X (minus (Vec.mk (withinI aX (1000000000 : Int)) (withinI aY (1000000000 : Int))) (Vec.mk (withinI bX (1000000000 : Int)) (withinI bY (1000000000 : Int))))) (1000000000 : Int)), SV.int IntKind.i64 (withinI (Vec.Y (minus (Vec.mk (withinI aX (1000000000 : Int)) (withinI aY (1000000000 : Int))) (Vec.mk (withinI bX (1000000000 : Int)) (withinI bY (1000000000 : Int))))) (1000000000 : Int))]) []) := by kernel_rfl

theorem ok_implVecSub : FsOk Try.prog 47 fs_implVecSub := fsOk_of tt_ok (tabFs_cons ok_vecClamped (tabFs_cons ok_vecMinus tabFs_nil)) mixed Try.func47 (by kernel_rfl) (by kernel_rfl) (by
    intro args LL p r HH h hp
    unfold fs_implVecSub at h
    dsimp only at h
    split at h
    case h_2 => cases h
    rename_i aX aY bX bY
    simp only [Option.some.injEq, Prod.mk.injEq] at h
    obtain ⟨rfl, rfl, rfl⟩ := h
    refine ⟨by simp [Form, stays], L0, ?_⟩
    rw [vc_implVecSub]
    try dsimp only
    simp only [withinI_big, vecSub, clampV, and_self])

def fs_specVecSub : Fs := ⟨[], fun args H => match args, H with
  | [.agg [.int .i64 aX, .int .i64 aY], .agg [.int .i64 bX, .int .i64 bY]], [] => some (none, .agg [.int .i64 (vecSub (Vec.mk aX aY) (Vec.mk bX bY)).X, .int .i64 (vecSub (Vec.mk aX aY) (Vec.mk bX bY)).Y], [])
  | _, _ => none⟩

theorem vc_specVecSub (aX : Int) (aY : Int) (bX : Int) (bY : Int) (Q : SV → List Ent → Prop) :
    fnVC tt (look [(55, fs_l2Clamp)]) L0 Try.f42 [.agg [.int .i64 aX, .int .i64 aY], .agg [.int .i64 bX, .int .i64 bY]] [] Q =
    (Q (SV.agg [SV.int IntKind.i64 (Vec.X (clampV (1000000000 : Int) (Vec.mk (IntKind.wrap IntKind.i64 (Vec.X (clampV (1000000000 : Int) (Vec.mk aX aY)) - Vec.X (clampV (1000000000 : Int) (Vec.mk bX bY)))) (IntKind.wrap IntKind.i64 (Vec.Y (clampV (1000000000 : Int) (Vec.mk aX aY)) - Vec.Y (clampV (1000000000 : Int) (Vec.mk bX bY))))))), SV.int IntKind.i64 (Vec.Y (clampV (1000000000 : Int) (Vec.mk (IntKind.wrap IntKind.i64 (Vec.X (clampV (1000000000 : Int) (Vec.mk aX aY)) - Vec.X (clampV (1000000000 : Int) (Vec.mk bX bY)))) (IntKind.wrap IntKind.i64 (Vec.Y (clampV (1000000000 : Int) (Vec.mk aX aY)) - Vec.Y (clampV (1000000000 : Int) (Vec.mk bX bY)))))))]) []) := by kernel_rfl

theorem ok_specVecSub : FsOk Try.prog 42 fs_specVecSub := fsOk_of tt_ok (tabFs_cons ok_l2Clamp tabFs_nil) mixed Try.func42 (by kernel_rfl) (by kernel_rfl) (by
    intro args LL p r HH h hp
    unfold fs_specVecSub at h
    dsimp only at h
    split at h
    case h_2 => cases h
    rename_i aX aY bX bY
    simp only [Option.some.injEq, Prod.mk.injEq] at h
    obtain ⟨rfl, rfl, rfl⟩ := h
    refine ⟨by simp [Form, stays], L0, ?_⟩
    rw [vc_specVecSub]
    try dsimp only

    repeat' (first | refine ifB_of (fun _ => ?_) (fun _ => ?_) | refine pre_of ?_ (fun _ => ?_))
    all_goals first
      | rfl
      | (simp only [W, vecSub, minus, *, cond_true, cond_false, Bool.true_and, Bool.false_and, Bool.and_true, Bool.and_false, Bool.not_true, Bool.not_false, and_self, true_and]; done)
      | (simp_all [W, vecSub, minus]; done)
      | (simp_all [W, vecSub, minus] <;> omega))

def fs_implVecDot : Fs := ⟨[], fun args H => match args, H with
  | [.agg [.int .i64 aX, .int .i64 aY], .agg [.int .i64 bX, .int .i64 bY]], [] => some (none, .int .i64 (dot (Vec.mk aX aY) (Vec.mk bX bY)), [])
  | _, _ => none⟩

theorem vc_implVecDot (aX : Int) (aY : Int) (bX : Int) (bY : Int) (Q : SV → List Ent → Prop) :
    fnVC tt (look [(37, fs_vecClamped), (57, fs_implFixClamp)]) L0 Try.f46 [.agg [.int .i64 aX, .int .i64 aY], .agg [.int .i64 bX, .int .i64 bY]] [] Q =
    (Q (SV.int IntKind.i64 (clampTo (1000000000 : Int) (IntKind.wrap IntKind.i64 (Int.tdiv (IntKind.wrap IntKind.i64 (IntKind.wrap IntKind.i64 (withinI aX (1000000000 : Int) * withinI bX (1000000000 : Int)) + IntKind.wrap IntKind.i64 (withinI aY (1000000000 : Int) * withinI bY (1000000000 : Int)))) (256 : Int))))) []) := by kernel_rfl

theorem ok_implVecDot : FsOk Try.prog 46 fs_implVecDot := fsOk_of tt_ok (tabFs_cons ok_vecClamped (tabFs_cons ok_implFixClamp tabFs_nil)) mixed Try.func46 (by kernel_rfl) (by kernel_rfl) (by
    intro args LL p r HH h hp
    unfold fs_implVecDot at h
    dsimp only at h
    split at h
    case h_2 => cases h
    rename_i aX aY bX bY
    simp only [Option.some.injEq, Prod.mk.injEq] at h
    obtain ⟨rfl, rfl, rfl⟩ := h
    refine ⟨by simp [Form, stays], L0, ?_⟩
    rw [vc_implVecDot]
    try dsimp only
    simp only [withinI_big, dot, dotC, clampV, W, and_self])

def fs_specVecDot : Fs := ⟨[], fun args H => match args, H with
  | [.agg [.int .i64 aX, .int .i64 aY], .agg [.int .i64 bX, .int .i64 bY]], [] => some (none, .int .i64 (dot (Vec.mk aX aY) (Vec.mk bX bY)), [])
  | _, _ => none⟩

theorem vc_specVecDot (aX : Int) (aY : Int) (bX : Int) (bY : Int) (Q : SV → List Ent → Prop) :
    fnVC tt (look [(55, fs_l2Clamp), (56, fs_specFixClamp)]) L0 Try.f41 [.agg [.int .i64 aX, .int .i64 aY], .agg [.int .i64 bX, .int .i64 bY]] [] Q =
    (Q (SV.int IntKind.i64 (clampTo (1000000000 : Int) (IntKind.wrap IntKind.i64 (Int.tdiv (IntKind.wrap IntKind.i64 (IntKind.wrap IntKind.i64 (Vec.X (clampV (1000000000 : Int) (Vec.mk aX aY)) * Vec.X (clampV (1000000000 : Int) (Vec.mk bX bY))) + IntKind.wrap IntKind.i64 (Vec.Y (clampV (1000000000 : Int) (Vec.mk aX aY)) * Vec.Y (clampV (1000000000 : Int) (Vec.mk bX bY))))) (256 : Int))))) []) := by kernel_rfl

theorem ok_specVecDot : FsOk Try.prog 41 fs_specVecDot := fsOk_of tt_ok (tabFs_cons ok_l2Clamp (tabFs_cons ok_specFixClamp tabFs_nil)) mixed Try.func41 (by kernel_rfl) (by kernel_rfl) (by
    intro args LL p r HH h hp
    unfold fs_specVecDot at h
    dsimp only at h
    split at h
    case h_2 => cases h
    rename_i aX aY bX bY
    simp only [Option.some.injEq, Prod.mk.injEq] at h
    obtain ⟨rfl, rfl, rfl⟩ := h
    refine ⟨by simp [Form, stays], L0, ?_⟩
    rw [vc_specVecDot]
    try dsimp only

    repeat' (first | refine ifB_of (fun _ => ?_) (fun _ => ?_) | refine pre_of ?_ (fun _ => ?_))
    all_goals first
      | rfl
      | (simp only [W, dot, dotC, clampV, *, cond_true, cond_false, Bool.true_and, Bool.false_and, Bool.and_true, Bool.and_false, Bool.not_true, Bool.not_false, and_self, true_and]; done)
      | (simp_all [W, dot, dotC, clampV]; done)
      | (simp_all [W, dot, dotC, clampV] <;> omega))

def fs_implClosingIn : Fs := ⟨[], fun args H => match args, H with
  | [.agg [.int .i64 aI, .int .i64 aK, .int .i64 aW, .int .i64 aH, .int .i64 aX, .int .i64 aY, .int .i64 aU, .int .i64 aV, .int .i64 aM, .int .i64 aB, .int .i64 aR, .int .i64 aQ], .agg [.int .i64 bI, .int .i64 bK, .int .i64 bW, .int .i64 bH, .int .i64 bX, .int .i64 bY, .int .i64 bU, .int .i64 bV, .int .i64 bM, .int .i64 bB, .int .i64 bR, .int .i64 bQ], .agg [.int .i64 wX, .int .i64 wY]], [] => some (none, .int .i64 (closing (Body.mk aI (Shape.mk aK aW aH) (Vec.mk aX aY) (Vec.mk aU aV) aM aB aR aQ) (Body.mk bI (Shape.mk bK bW bH) (Vec.mk bX bY) (Vec.mk bU bV) bM bB bR bQ) (Vec.mk wX wY)), [])
  | _, _ => none⟩

theorem vc_implClosingIn (aI : Int) (aK : Int) (aW : Int) (aH : Int) (aX : Int) (aY : Int) (aU : Int) (aV : Int) (aM : Int) (aB : Int) (aR : Int) (aQ : Int) (bI : Int) (bK : Int) (bW : Int) (bH : Int) (bX : Int) (bY : Int) (bU : Int) (bV : Int) (bM : Int) (bB : Int) (bR : Int) (bQ : Int) (wX : Int) (wY : Int) (Q : SV → List Ent → Prop) :
    fnVC tt (look [(48, fs_implSpeed), (47, fs_implVecSub), (46, fs_implVecDot)]) L0 Try.f23 [.agg [.int .i64 aI, .int .i64 aK, .int .i64 aW, .int .i64 aH, .int .i64 aX, .int .i64 aY, .int .i64 aU, .int .i64 aV, .int .i64 aM, .int .i64 aB, .int .i64 aR, .int .i64 aQ], .agg [.int .i64 bI, .int .i64 bK, .int .i64 bW, .int .i64 bH, .int .i64 bX, .int .i64 bY, .int .i64 bU, .int .i64 bV, .int .i64 bM, .int .i64 bB, .int .i64 bR, .int .i64 bQ], .agg [.int .i64 wX, .int .i64 wY]] [] Q =
    (Q (SV.int IntKind.i64 (dot (vecSub (speed (Body.mk aI (Shape.mk aK aW aH) (Vec.mk aX aY) (Vec.mk aU aV) aM aB aR aQ)) (speed (Body.mk bI (Shape.mk bK bW bH) (Vec.mk bX bY) (Vec.mk bU bV) bM bB bR bQ))) (Vec.mk wX wY))) []) := by kernel_rfl

theorem ok_implClosingIn : FsOk Try.prog 23 fs_implClosingIn := fsOk_of tt_ok (tabFs_cons ok_implSpeed (tabFs_cons ok_implVecSub (tabFs_cons ok_implVecDot tabFs_nil))) mixed Try.func23 (by kernel_rfl) (by kernel_rfl) (by
    intro args LL p r HH h hp
    unfold fs_implClosingIn at h
    dsimp only at h
    split at h
    case h_2 => cases h
    rename_i aI aK aW aH aX aY aU aV aM aB aR aQ bI bK bW bH bX bY bU bV bM bB bR bQ wX wY
    simp only [Option.some.injEq, Prod.mk.injEq] at h
    obtain ⟨rfl, rfl, rfl⟩ := h
    refine ⟨by simp [Form, stays], L0, ?_⟩
    rw [vc_implClosingIn]
    try dsimp only

    repeat' (first | refine ifB_of (fun _ => ?_) (fun _ => ?_) | refine pre_of ?_ (fun _ => ?_))
    all_goals first
      | rfl
      | (simp only [W, closing, *, cond_true, cond_false, Bool.true_and, Bool.false_and, Bool.and_true, Bool.and_false, Bool.not_true, Bool.not_false, and_self, true_and]; done)
      | (simp_all [W, closing]; done)
      | (simp_all [W, closing] <;> omega))

def fs_l8Closing : Fs := ⟨[], fun args H => match args, H with
  | [.agg [.int .i64 aI, .int .i64 aK, .int .i64 aW, .int .i64 aH, .int .i64 aX, .int .i64 aY, .int .i64 aU, .int .i64 aV, .int .i64 aM, .int .i64 aB, .int .i64 aR, .int .i64 aQ], .agg [.int .i64 bI, .int .i64 bK, .int .i64 bW, .int .i64 bH, .int .i64 bX, .int .i64 bY, .int .i64 bU, .int .i64 bV, .int .i64 bM, .int .i64 bB, .int .i64 bR, .int .i64 bQ], .agg [.int .i64 hX, .int .i64 hY, .int .i64 hD]], [] => some (none, .int .i64 (closing (Body.mk aI (Shape.mk aK aW aH) (Vec.mk aX aY) (Vec.mk aU aV) aM aB aR aQ) (Body.mk bI (Shape.mk bK bW bH) (Vec.mk bX bY) (Vec.mk bU bV) bM bB bR bQ) (Hit.mk (Vec.mk hX hY) hD).Way), [])
  | _, _ => none⟩

theorem vc_l8Closing (aI : Int) (aK : Int) (aW : Int) (aH : Int) (aX : Int) (aY : Int) (aU : Int) (aV : Int) (aM : Int) (aB : Int) (aR : Int) (aQ : Int) (bI : Int) (bK : Int) (bW : Int) (bH : Int) (bX : Int) (bY : Int) (bU : Int) (bV : Int) (bM : Int) (bB : Int) (bR : Int) (bQ : Int) (hX : Int) (hY : Int) (hD : Int) (Q : SV → List Ent → Prop) :
    fnVC tt (look [(43, fs_specSpeed), (42, fs_specVecSub), (41, fs_specVecDot)]) L0 Try.f38 [.agg [.int .i64 aI, .int .i64 aK, .int .i64 aW, .int .i64 aH, .int .i64 aX, .int .i64 aY, .int .i64 aU, .int .i64 aV, .int .i64 aM, .int .i64 aB, .int .i64 aR, .int .i64 aQ], .agg [.int .i64 bI, .int .i64 bK, .int .i64 bW, .int .i64 bH, .int .i64 bX, .int .i64 bY, .int .i64 bU, .int .i64 bV, .int .i64 bM, .int .i64 bB, .int .i64 bR, .int .i64 bQ], .agg [.int .i64 hX, .int .i64 hY, .int .i64 hD]] [] Q =
    (Q (SV.int IntKind.i64 (dot (vecSub (speed (Body.mk aI (Shape.mk aK aW aH) (Vec.mk aX aY) (Vec.mk aU aV) aM aB aR aQ)) (speed (Body.mk bI (Shape.mk bK bW bH) (Vec.mk bX bY) (Vec.mk bU bV) bM bB bR bQ))) (Vec.mk hX hY))) []) := by kernel_rfl

theorem ok_l8Closing : FsOk Try.prog 38 fs_l8Closing := fsOk_of tt_ok (tabFs_cons ok_specSpeed (tabFs_cons ok_specVecSub (tabFs_cons ok_specVecDot tabFs_nil))) mixed Try.func38 (by kernel_rfl) (by kernel_rfl) (by
    intro args LL p r HH h hp
    unfold fs_l8Closing at h
    dsimp only at h
    split at h
    case h_2 => cases h
    rename_i aI aK aW aH aX aY aU aV aM aB aR aQ bI bK bW bH bX bY bU bV bM bB bR bQ hX hY hD
    simp only [Option.some.injEq, Prod.mk.injEq] at h
    obtain ⟨rfl, rfl, rfl⟩ := h
    refine ⟨by simp [Form, stays], L0, ?_⟩
    rw [vc_l8Closing]
    try dsimp only

    repeat' (first | refine ifB_of (fun _ => ?_) (fun _ => ?_) | refine pre_of ?_ (fun _ => ?_))
    all_goals first
      | rfl
      | (simp only [W, closing, *, cond_true, cond_false, Bool.true_and, Bool.false_and, Bool.and_true, Bool.and_false, Bool.not_true, Bool.not_false, and_self, true_and]; done)
      | (simp_all [W, closing]; done)
      | (simp_all [W, closing] <;> omega))

def fs_implHitOk : Fs := ⟨[], fun args H => match args, H with
  | [.agg [.int .i64 hX, .int .i64 hY, .int .i64 hD]], [] => some (none, .bool (hitOk (Hit.mk (Vec.mk hX hY) hD)), [])
  | _, _ => none⟩

theorem vc_implHitOk (hX : Int) (hY : Int) (hD : Int) (Q : SV → List Ent → Prop) :
    fnVC tt (look [(30, fs_in_)]) L0 Try.f15 [.agg [.int .i64 hX, .int .i64 hY, .int .i64 hD]] [] Q =
    (ifB (isIn hX (-256 : Int) (256 : Int)) (ifB (isIn hY (-256 : Int) (256 : Int)) (Q (SV.bool (isIn hD (0 : Int) (102400 : Int))) []) (Q (SV.bool false) [])) (Q (SV.bool false) [])) := by kernel_rfl

theorem ok_implHitOk : FsOk Try.prog 15 fs_implHitOk := fsOk_of tt_ok (tabFs_cons ok_in_ tabFs_nil) mixed Try.func15 (by kernel_rfl) (by kernel_rfl) (by
    intro args LL p r HH h hp
    unfold fs_implHitOk at h
    dsimp only at h
    split at h
    case h_2 => cases h
    rename_i hX hY hD
    simp only [Option.some.injEq, Prod.mk.injEq] at h
    obtain ⟨rfl, rfl, rfl⟩ := h
    refine ⟨by simp [Form, stays], L0, ?_⟩
    rw [vc_implHitOk]
    try dsimp only

    repeat' (first | refine ifB_of (fun _ => ?_) (fun _ => ?_) | refine pre_of ?_ (fun _ => ?_))
    all_goals first
      | rfl
      | (simp only [W, hitOk, *, cond_true, cond_false, Bool.true_and, Bool.false_and, Bool.and_true, Bool.and_false, Bool.not_true, Bool.not_false, and_self, true_and]; done)
      | (simp_all [W, hitOk]; done)
      | (simp_all [W, hitOk] <;> omega))

def fs_specHitOk : Fs := ⟨[], fun args H => match args, H with
  | [.agg [.int .i64 hX, .int .i64 hY, .int .i64 hD]], [] => some (none, .bool (hitOk (Hit.mk (Vec.mk hX hY) hD)), [])
  | _, _ => none⟩

theorem vc_specHitOk (hX : Int) (hY : Int) (hD : Int) (Q : SV → List Ent → Prop) :
    fnVC tt (look [(19, fs_l1In)]) L0 Try.f17 [.agg [.int .i64 hX, .int .i64 hY, .int .i64 hD]] [] Q =
    (ifB (isIn hX (-256 : Int) (256 : Int)) (ifB (isIn hY (-256 : Int) (256 : Int)) (Q (SV.bool (isIn hD (0 : Int) (102400 : Int))) []) (Q (SV.bool false) [])) (Q (SV.bool false) [])) := by kernel_rfl

theorem ok_specHitOk : FsOk Try.prog 17 fs_specHitOk := fsOk_of tt_ok (tabFs_cons ok_l1In tabFs_nil) mixed Try.func17 (by kernel_rfl) (by kernel_rfl) (by
    intro args LL p r HH h hp
    unfold fs_specHitOk at h
    dsimp only at h
    split at h
    case h_2 => cases h
    rename_i hX hY hD
    simp only [Option.some.injEq, Prod.mk.injEq] at h
    obtain ⟨rfl, rfl, rfl⟩ := h
    refine ⟨by simp [Form, stays], L0, ?_⟩
    rw [vc_specHitOk]
    try dsimp only

    repeat' (first | refine ifB_of (fun _ => ?_) (fun _ => ?_) | refine pre_of ?_ (fun _ => ?_))
    all_goals first
      | rfl
      | (simp only [W, hitOk, *, cond_true, cond_false, Bool.true_and, Bool.false_and, Bool.and_true, Bool.and_false, Bool.not_true, Bool.not_false, and_self, true_and]; done)
      | (simp_all [W, hitOk]; done)
      | (simp_all [W, hitOk] <;> omega))

def fs_implClosing : Fs := ⟨[], fun args H => match args, H with
  | [.agg [.int .i64 aI, .int .i64 aK, .int .i64 aW, .int .i64 aH, .int .i64 aX, .int .i64 aY, .int .i64 aU, .int .i64 aV, .int .i64 aM, .int .i64 aB, .int .i64 aR, .int .i64 aQ], .agg [.int .i64 bI, .int .i64 bK, .int .i64 bW, .int .i64 bH, .int .i64 bX, .int .i64 bY, .int .i64 bU, .int .i64 bV, .int .i64 bM, .int .i64 bB, .int .i64 bR, .int .i64 bQ], .agg [.int .i64 hX, .int .i64 hY, .int .i64 hD]], [] => some (none, .int .i64 (closingAll (Body.mk aI (Shape.mk aK aW aH) (Vec.mk aX aY) (Vec.mk aU aV) aM aB aR aQ) (Body.mk bI (Shape.mk bK bW bH) (Vec.mk bX bY) (Vec.mk bU bV) bM bB bR bQ) (Hit.mk (Vec.mk hX hY) hD)), [])
  | _, _ => none⟩

theorem vc_implClosing (aI : Int) (aK : Int) (aW : Int) (aH : Int) (aX : Int) (aY : Int) (aU : Int) (aV : Int) (aM : Int) (aB : Int) (aR : Int) (aQ : Int) (bI : Int) (bK : Int) (bW : Int) (bH : Int) (bX : Int) (bY : Int) (bU : Int) (bV : Int) (bM : Int) (bB : Int) (bR : Int) (bQ : Int) (hX : Int) (hY : Int) (hD : Int) (Q : SV → List Ent → Prop) :
    fnVC tt (look [(14, fs_implBodyOk), (15, fs_implHitOk), (23, fs_implClosingIn)]) L0 Try.f8 [.agg [.int .i64 aI, .int .i64 aK, .int .i64 aW, .int .i64 aH, .int .i64 aX, .int .i64 aY, .int .i64 aU, .int .i64 aV, .int .i64 aM, .int .i64 aB, .int .i64 aR, .int .i64 aQ], .agg [.int .i64 bI, .int .i64 bK, .int .i64 bW, .int .i64 bH, .int .i64 bX, .int .i64 bY, .int .i64 bU, .int .i64 bV, .int .i64 bM, .int .i64 bB, .int .i64 bR, .int .i64 bQ], .agg [.int .i64 hX, .int .i64 hY, .int .i64 hD]] [] Q =
    (ifB (!bodyOk (Body.mk aI (Shape.mk aK aW aH) (Vec.mk aX aY) (Vec.mk aU aV) aM aB aR aQ)) (Q (SV.int IntKind.i64 (0 : Int)) []) (ifB (!bodyOk (Body.mk bI (Shape.mk bK bW bH) (Vec.mk bX bY) (Vec.mk bU bV) bM bB bR bQ)) (Q (SV.int IntKind.i64 (0 : Int)) []) (ifB (!hitOk (Hit.mk (Vec.mk hX hY) hD)) (Q (SV.int IntKind.i64 (0 : Int)) []) (Q (SV.int IntKind.i64 (closing (Body.mk aI (Shape.mk aK aW aH) (Vec.mk aX aY) (Vec.mk aU aV) aM aB aR aQ) (Body.mk bI (Shape.mk bK bW bH) (Vec.mk bX bY) (Vec.mk bU bV) bM bB bR bQ) (Vec.mk hX hY))) [])))) := by kernel_rfl

theorem ok_implClosing : FsOk Try.prog 8 fs_implClosing := fsOk_of tt_ok (tabFs_cons ok_implBodyOk (tabFs_cons ok_implHitOk (tabFs_cons ok_implClosingIn tabFs_nil))) mixed Try.func8 (by kernel_rfl) (by kernel_rfl) (by
    intro args LL p r HH h hp
    unfold fs_implClosing at h
    dsimp only at h
    split at h
    case h_2 => cases h
    rename_i aI aK aW aH aX aY aU aV aM aB aR aQ bI bK bW bH bX bY bU bV bM bB bR bQ hX hY hD
    simp only [Option.some.injEq, Prod.mk.injEq] at h
    obtain ⟨rfl, rfl, rfl⟩ := h
    refine ⟨by simp [Form, stays], L0, ?_⟩
    rw [vc_implClosing]
    try dsimp only

    repeat' (first | refine ifB_of (fun _ => ?_) (fun _ => ?_) | refine pre_of ?_ (fun _ => ?_))
    all_goals first
      | rfl
      | (simp only [W, closingAll, *, cond_true, cond_false, Bool.true_and, Bool.false_and, Bool.and_true, Bool.and_false, Bool.not_true, Bool.not_false, and_self, true_and]; done)
      | (simp_all [W, closingAll]; done)
      | (simp_all [W, closingAll] <;> omega))


end Go.Proofs.Ytmflfpedmbfhkaa.Sym
