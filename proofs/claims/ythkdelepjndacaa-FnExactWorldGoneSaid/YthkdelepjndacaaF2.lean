/-
  Rays and what is round.
  No condition.
-/
import Derived.Test.YthkdelepjndacaaF1
namespace Go.Proofs.Ythkdelepjndacaa.Sym
open Go
set_option linter.unusedVariables false
set_option linter.unusedSimpArgs false
set_option maxRecDepth 100000

def rayOk (r : Ray) : Bool := placeOk r.From && placeOk r.Way && !(r.Way.X == 0 && r.Way.Y == 0)
def rayAt (r : Ray) (t : Int) : Vec := plus r.From (scaled r.Way t)
def bounds (s : Shape) (p : Vec) : Box :=
  bif s.Kind == 1 then ⟨⟨W (p.X - s.Wide), W (p.Y - s.Wide)⟩, ⟨W (p.X + s.Wide), W (p.Y + s.Wide)⟩⟩
  else ⟨⟨W (p.X - s.Wide), W (p.Y - s.High)⟩, ⟨W (p.X + s.Wide), W (p.Y + s.High)⟩⟩
def hasPoint (b : Box) (p : Vec) : Bool := isIn p.X b.Low.X b.High.X && isIn p.Y b.Low.Y b.High.Y
def shapeHas (s : Shape) (p q : Vec) : Bool :=
  bif s.Kind == 2 then hasPoint (bounds s p) q else decide (square (minus q p) ≤ W (s.Wide * s.Wide))

def roundAt (r : Ray) (p : Vec) (wide t : Int) : Bool := decide (square (minus (rayAt r t) p) ≤ W (wide * wide))
def roundFrom (r : Ray) (p : Vec) (wide : Int) : Nat → Int × Bool
  | 0 => (0, false)
  | k + 1 => bif roundAt r p wide (257 - (k + 1)) then (257 - (k + 1), true) else roundFrom r p wide k
def rayRound (r : Ray) (p : Vec) (wide : Int) : Int × Bool :=
  bif rayOk r && placeOk p && isIn wide 1 25600 then roundFrom r p wide 257 else (0, false)

theorem wrap_small {n : Int} (h1 : -9223372036854775808 ≤ n) (h2 : n ≤ 9223372036854775807) : IntKind.i64.wrap n = n := by
  rw [IntKind.wrap_i64]
  omega

theorem roundFrom_step {r : Ray} {p : Vec} {wide t : Int} (h0 : 0 ≤ t) (h1 : t < 257) :
    roundFrom r p wide (257 - t).toNat = bif roundAt r p wide t then (t, true) else roundFrom r p wide (257 - (t + 1)).toNat := by
  have e : (257 - t).toNat = (257 - (t + 1)).toNat + 1 := by omega
  rw [e, roundFrom]
  have e2 : (257 : Int) - (((257 - (t + 1)).toNat : Int) + 1) = t := by omega
  rw [e2]

def fs_lawsToRay : Fs := ⟨[], fun args H => match args, H with
  | [.agg [.int .i64 rFX, .int .i64 rFY, .int .i64 rWX, .int .i64 rWY]], [] => some (none, .agg [.int .i64 ((Ray.mk (Vec.mk rFX rFY) (Vec.mk rWX rWY))).From.X, .int .i64 ((Ray.mk (Vec.mk rFX rFY) (Vec.mk rWX rWY))).From.Y, .int .i64 ((Ray.mk (Vec.mk rFX rFY) (Vec.mk rWX rWY))).Way.X, .int .i64 ((Ray.mk (Vec.mk rFX rFY) (Vec.mk rWX rWY))).Way.Y], [])
  | _, _ => none⟩

theorem vc_lawsToRay (rFX : Int) (rFY : Int) (rWX : Int) (rWY : Int) (Q : SV → List Ent → Prop) :
    fnVC tt (look [(29, fs_lawsToVec)]) L0 Try.f25 [.agg [.int .i64 rFX, .int .i64 rFY, .int .i64 rWX, .int .i64 rWY]] [] Q =
    (Q (SV.agg [SV.int IntKind.i64 rFX, SV.int IntKind.i64 rFY, SV.int IntKind.i64 rWX, SV.int IntKind.i64 rWY]) []) := by kernel_rfl

theorem ok_lawsToRay : FsOk Try.prog 25 fs_lawsToRay := fsOk_of tt_ok (tabFs_cons ok_lawsToVec tabFs_nil) mixed Try.func25 (by kernel_rfl) (by kernel_rfl) (by
    intro args LL p r HH h hp
    unfold fs_lawsToRay at h
    dsimp only at h
    split at h
    case h_2 => cases h
    rename_i rFX rFY rWX rWY
    simp only [Option.some.injEq, Prod.mk.injEq] at h
    obtain ⟨rfl, rfl, rfl⟩ := h
    refine ⟨by simp [Form, stays], L0, ?_⟩
    rw [vc_lawsToRay]
    try dsimp only

    repeat' (first | refine ifB_of (fun _ => ?_) (fun _ => ?_) | refine pre_of ?_ (fun _ => ?_))
    all_goals first
      | rfl
      | (simp only [W, rayOk, *, cond_true, cond_false, Bool.true_and, Bool.false_and, Bool.and_true, Bool.and_false, Bool.not_true, Bool.not_false, and_self, true_and]; done)
      | (simp_all [W, rayOk]; done)
      | (simp_all [W, rayOk] <;> omega))

def fs_implRayOk : Fs := ⟨[], fun args H => match args, H with
  | [.agg [.int .i64 rFX, .int .i64 rFY, .int .i64 rWX, .int .i64 rWY]], [] => some (none, .bool (rayOk (Ray.mk (Vec.mk rFX rFY) (Vec.mk rWX rWY))), [])
  | _, _ => none⟩

theorem vc_implRayOk (rFX : Int) (rFY : Int) (rWX : Int) (rWY : Int) (Q : SV → List Ent → Prop) :
    fnVC tt (look [(121, fs_isPlace)]) L0 Try.f119 [.agg [.int .i64 rFX, .int .i64 rFY, .int .i64 rWX, .int .i64 rWY]] [] Q =
    (ifB (placeOk (Vec.mk rFX rFY)) (ifB (placeOk (Vec.mk rWX rWY)) (Q (SV.bool !(rWX == (0 : Int) && rWY == (0 : Int))) []) (Q (SV.bool false) [])) (Q (SV.bool false) [])) := by kernel_rfl

theorem ok_implRayOk : FsOk Try.prog 119 fs_implRayOk := fsOk_of tt_ok (tabFs_cons ok_isPlace tabFs_nil) mixed Try.func119 (by kernel_rfl) (by kernel_rfl) (by
    intro args LL p r HH h hp
    unfold fs_implRayOk at h
    dsimp only at h
    split at h
    case h_2 => cases h
    rename_i rFX rFY rWX rWY
    simp only [Option.some.injEq, Prod.mk.injEq] at h
    obtain ⟨rfl, rfl, rfl⟩ := h
    refine ⟨by simp [Form, stays], L0, ?_⟩
    rw [vc_implRayOk]
    try dsimp only

    repeat' (first | refine ifB_of (fun _ => ?_) (fun _ => ?_) | refine pre_of ?_ (fun _ => ?_))
    all_goals first
      | rfl
      | (simp only [W, rayOk, *, cond_true, cond_false, Bool.true_and, Bool.false_and, Bool.and_true, Bool.and_false, Bool.not_true, Bool.not_false, and_self, true_and]; done)
      | (simp_all [W, rayOk]; done)
      | (simp_all [W, rayOk] <;> omega))

def fs_specRayOk : Fs := ⟨[], fun args H => match args, H with
  | [.agg [.int .i64 rFX, .int .i64 rFY, .int .i64 rWX, .int .i64 rWY]], [] => some (none, .bool (rayOk (Ray.mk (Vec.mk rFX rFY) (Vec.mk rWX rWY))), [])
  | _, _ => none⟩

theorem vc_specRayOk (rFX : Int) (rFY : Int) (rWX : Int) (rWY : Int) (Q : SV → List Ent → Prop) :
    fnVC tt (look [(113, fs_l3Place)]) L0 Try.f62 [.agg [.int .i64 rFX, .int .i64 rFY, .int .i64 rWX, .int .i64 rWY]] [] Q =
    (ifB (placeOk (Vec.mk rFX rFY)) (ifB (placeOk (Vec.mk rWX rWY)) (Q (SV.bool !(rWX == (0 : Int) && rWY == (0 : Int))) []) (Q (SV.bool false) [])) (Q (SV.bool false) [])) := by kernel_rfl

theorem ok_specRayOk : FsOk Try.prog 62 fs_specRayOk := fsOk_of tt_ok (tabFs_cons ok_l3Place tabFs_nil) mixed Try.func62 (by kernel_rfl) (by kernel_rfl) (by
    intro args LL p r HH h hp
    unfold fs_specRayOk at h
    dsimp only at h
    split at h
    case h_2 => cases h
    rename_i rFX rFY rWX rWY
    simp only [Option.some.injEq, Prod.mk.injEq] at h
    obtain ⟨rfl, rfl, rfl⟩ := h
    refine ⟨by simp [Form, stays], L0, ?_⟩
    rw [vc_specRayOk]
    try dsimp only

    repeat' (first | refine ifB_of (fun _ => ?_) (fun _ => ?_) | refine pre_of ?_ (fun _ => ?_))
    all_goals first
      | rfl
      | (simp only [W, rayOk, *, cond_true, cond_false, Bool.true_and, Bool.false_and, Bool.and_true, Bool.and_false, Bool.not_true, Bool.not_false, and_self, true_and]; done)
      | (simp_all [W, rayOk]; done)
      | (simp_all [W, rayOk] <;> omega))

def fs_implRayAt : Fs := ⟨[], fun args H => match args, H with
  | [.agg [.int .i64 rFX, .int .i64 rFY, .int .i64 rWX, .int .i64 rWY], .int .i64 t], [] => some (none, .agg [.int .i64 (rayAt (Ray.mk (Vec.mk rFX rFY) (Vec.mk rWX rWY)) t).X, .int .i64 (rayAt (Ray.mk (Vec.mk rFX rFY) (Vec.mk rWX rWY)) t).Y], [])
  | _, _ => none⟩

theorem vc_implRayAt (rFX : Int) (rFY : Int) (rWX : Int) (rWY : Int) (t : Int) (Q : SV → List Ent → Prop) :
    fnVC tt (look [(130, fs_vecPlus), (108, fs_vecScaled)]) L0 Try.f155 [.agg [.int .i64 rFX, .int .i64 rFY, .int .i64 rWX, .int .i64 rWY], .int .i64 t] [] Q =
    (Q (SV.agg [SV.int IntKind.i64 (Vec.X (plus (Vec.mk rFX rFY) (scaled (Vec.mk rWX rWY) t))), SV.int IntKind.i64 (Vec.Y (plus (Vec.mk rFX rFY) (scaled (Vec.mk rWX rWY) t)))]) []) := by kernel_rfl

theorem ok_implRayAt : FsOk Try.prog 155 fs_implRayAt := fsOk_of tt_ok (tabFs_cons ok_vecPlus (tabFs_cons ok_vecScaled tabFs_nil)) mixed Try.func155 (by kernel_rfl) (by kernel_rfl) (by
    intro args LL p r HH h hp
    unfold fs_implRayAt at h
    dsimp only at h
    split at h
    case h_2 => cases h
    rename_i rFX rFY rWX rWY t
    simp only [Option.some.injEq, Prod.mk.injEq] at h
    obtain ⟨rfl, rfl, rfl⟩ := h
    refine ⟨by simp [Form, stays], L0, ?_⟩
    rw [vc_implRayAt]
    try dsimp only

    repeat' (first | refine ifB_of (fun _ => ?_) (fun _ => ?_) | refine pre_of ?_ (fun _ => ?_))
    all_goals first
      | rfl
      | (simp only [W, rayAt, *, cond_true, cond_false, Bool.true_and, Bool.false_and, Bool.and_true, Bool.and_false, Bool.not_true, Bool.not_false, and_self, true_and]; done)
      | (simp_all [W, rayAt]; done)
      | (simp_all [W, rayAt] <;> omega))

def fs_l5On : Fs := ⟨[], fun args H => match args, H with
  | [.agg [.int .i64 rFX, .int .i64 rFY, .int .i64 rWX, .int .i64 rWY], .int .i64 t], [] => some (none, .agg [.int .i64 (rayAt (Ray.mk (Vec.mk rFX rFY) (Vec.mk rWX rWY)) t).X, .int .i64 (rayAt (Ray.mk (Vec.mk rFX rFY) (Vec.mk rWX rWY)) t).Y], [])
  | _, _ => none⟩

theorem vc_l5On (rFX : Int) (rFY : Int) (rWX : Int) (rWY : Int) (t : Int) (Q : SV → List Ent → Prop) :
    fnVC tt (look []) L0 Try.f153 [.agg [.int .i64 rFX, .int .i64 rFY, .int .i64 rWX, .int .i64 rWY], .int .i64 t] [] Q =
    (Q (SV.agg [SV.int IntKind.i64 (IntKind.wrap IntKind.i64 (rFX + IntKind.wrap IntKind.i64 (Int.tdiv (IntKind.wrap IntKind.i64 (rWX * t)) (256 : Int)))), SV.int IntKind.i64 (IntKind.wrap IntKind.i64 (rFY + IntKind.wrap IntKind.i64 (Int.tdiv (IntKind.wrap IntKind.i64 (rWY * t)) (256 : Int))))]) []) := by kernel_rfl

theorem ok_l5On : FsOk Try.prog 153 fs_l5On := fsOk_of tt_ok tabFs_nil mixed Try.func153 (by kernel_rfl) (by kernel_rfl) (by
    intro args LL p r HH h hp
    unfold fs_l5On at h
    dsimp only at h
    split at h
    case h_2 => cases h
    rename_i rFX rFY rWX rWY t
    simp only [Option.some.injEq, Prod.mk.injEq] at h
    obtain ⟨rfl, rfl, rfl⟩ := h
    refine ⟨by simp [Form, stays], L0, ?_⟩
    rw [vc_l5On]
    try dsimp only

    repeat' (first | refine ifB_of (fun _ => ?_) (fun _ => ?_) | refine pre_of ?_ (fun _ => ?_))
    all_goals first
      | rfl
      | (simp only [W, rayAt, plus, scaled, *, cond_true, cond_false, Bool.true_and, Bool.false_and, Bool.and_true, Bool.and_false, Bool.not_true, Bool.not_false, and_self, true_and]; done)
      | (simp_all [W, rayAt, plus, scaled]; done)
      | (simp_all [W, rayAt, plus, scaled] <;> omega))

def fs_l3Bounds : Fs := ⟨[], fun args H => match args, H with
  | [.agg [.int .i64 sK, .int .i64 sW, .int .i64 sH], .agg [.int .i64 pX, .int .i64 pY]], [] => some (none, .agg [.int .i64 (bounds (Shape.mk sK sW sH) (Vec.mk pX pY)).Low.X, .int .i64 (bounds (Shape.mk sK sW sH) (Vec.mk pX pY)).Low.Y, .int .i64 (bounds (Shape.mk sK sW sH) (Vec.mk pX pY)).High.X, .int .i64 (bounds (Shape.mk sK sW sH) (Vec.mk pX pY)).High.Y], [])
  | _, _ => none⟩

theorem vc_l3Bounds (sK : Int) (sW : Int) (sH : Int) (pX : Int) (pY : Int) (Q : SV → List Ent → Prop) :
    fnVC tt (look []) L0 Try.f117 [.agg [.int .i64 sK, .int .i64 sW, .int .i64 sH], .agg [.int .i64 pX, .int .i64 pY]] [] Q =
    (ifB (sK == (1 : Int)) (Q (SV.agg [SV.int IntKind.i64 (IntKind.wrap IntKind.i64 (pX - sW)), SV.int IntKind.i64 (IntKind.wrap IntKind.i64 (pY - sW)), SV.int IntKind.i64 (IntKind.wrap IntKind.i64 (pX + sW)), SV.int IntKind.i64 (IntKind.wrap IntKind.i64 (pY + sW))]) []) (Q (SV.agg [SV.int IntKind.i64 (IntKind.wrap IntKind.i64 (pX - sW)), SV.int IntKind.i64 (IntKind.wrap IntKind.i64 (pY - sH)), SV.int IntKind.i64 (IntKind.wrap IntKind.i64 (pX + sW)), SV.int IntKind.i64 (IntKind.wrap IntKind.i64 (pY + sH))]) [])) := by kernel_rfl

theorem ok_l3Bounds : FsOk Try.prog 117 fs_l3Bounds := fsOk_of tt_ok tabFs_nil mixed Try.func117 (by kernel_rfl) (by kernel_rfl) (by
    intro args LL p r HH h hp
    unfold fs_l3Bounds at h
    dsimp only at h
    split at h
    case h_2 => cases h
    rename_i sK sW sH pX pY
    simp only [Option.some.injEq, Prod.mk.injEq] at h
    obtain ⟨rfl, rfl, rfl⟩ := h
    refine ⟨by simp [Form, stays], L0, ?_⟩
    rw [vc_l3Bounds]
    try dsimp only

    repeat' (first | refine ifB_of (fun _ => ?_) (fun _ => ?_) | refine pre_of ?_ (fun _ => ?_))
    all_goals first
      | rfl
      | (simp only [W, bounds, *, cond_true, cond_false, Bool.true_and, Bool.false_and, Bool.and_true, Bool.and_false, Bool.not_true, Bool.not_false, and_self, true_and]; done)
      | (simp_all [W, bounds]; done)
      | (simp_all [W, bounds] <;> omega))

def fs_l3Point : Fs := ⟨[], fun args H => match args, H with
  | [.agg [.int .i64 bLX, .int .i64 bLY, .int .i64 bHX, .int .i64 bHY], .agg [.int .i64 pX, .int .i64 pY]], [] => some (none, .bool (hasPoint (Box.mk (Vec.mk bLX bLY) (Vec.mk bHX bHY)) (Vec.mk pX pY)), [])
  | _, _ => none⟩

theorem vc_l3Point (bLX : Int) (bLY : Int) (bHX : Int) (bHY : Int) (pX : Int) (pY : Int) (Q : SV → List Ent → Prop) :
    fnVC tt (look [(96, fs_l1In)]) L0 Try.f175 [.agg [.int .i64 bLX, .int .i64 bLY, .int .i64 bHX, .int .i64 bHY], .agg [.int .i64 pX, .int .i64 pY]] [] Q =
    (ifB (isIn pX bLX bHX) (Q (SV.bool (isIn pY bLY bHY)) []) (Q (SV.bool false) [])) := by kernel_rfl

theorem ok_l3Point : FsOk Try.prog 175 fs_l3Point := fsOk_of tt_ok (tabFs_cons ok_l1In tabFs_nil) mixed Try.func175 (by kernel_rfl) (by kernel_rfl) (by
    intro args LL p r HH h hp
    unfold fs_l3Point at h
    dsimp only at h
    split at h
    case h_2 => cases h
    rename_i bLX bLY bHX bHY pX pY
    simp only [Option.some.injEq, Prod.mk.injEq] at h
    obtain ⟨rfl, rfl, rfl⟩ := h
    refine ⟨by simp [Form, stays], L0, ?_⟩
    rw [vc_l3Point]
    try dsimp only

    repeat' (first | refine ifB_of (fun _ => ?_) (fun _ => ?_) | refine pre_of ?_ (fun _ => ?_))
    all_goals first
      | rfl
      | (simp only [W, hasPoint, *, cond_true, cond_false, Bool.true_and, Bool.false_and, Bool.and_true, Bool.and_false, Bool.not_true, Bool.not_false, and_self, true_and]; done)
      | (simp_all [W, hasPoint]; done)
      | (simp_all [W, hasPoint] <;> omega))

def fs_l3Has : Fs := ⟨[], fun args H => match args, H with
  | [.agg [.int .i64 sK, .int .i64 sW, .int .i64 sH], .agg [.int .i64 pX, .int .i64 pY], .agg [.int .i64 qX, .int .i64 qY]], [] => some (none, .bool (shapeHas (Shape.mk sK sW sH) (Vec.mk pX pY) (Vec.mk qX qY)), [])
  | _, _ => none⟩

theorem vc_l3Has (sK : Int) (sW : Int) (sH : Int) (pX : Int) (pY : Int) (qX : Int) (qY : Int) (Q : SV → List Ent → Prop) :
    fnVC tt (look [(117, fs_l3Bounds), (175, fs_l3Point), (176, fs_l2Square)]) L0 Try.f152 [.agg [.int .i64 sK, .int .i64 sW, .int .i64 sH], .agg [.int .i64 pX, .int .i64 pY], .agg [.int .i64 qX, .int .i64 qY]] [] Q =
    (ifB (sK == (2 : Int)) (Q (SV.bool (hasPoint (bounds (Shape.mk sK sW sH) (Vec.mk pX pY)) (Vec.mk qX qY))) []) (Q (SV.bool (decide (square (Vec.mk (IntKind.wrap IntKind.i64 (qX - pX)) (IntKind.wrap IntKind.i64 (qY - pY))) ≤ IntKind.wrap IntKind.i64 (sW * sW)))) [])) := by kernel_rfl

theorem ok_l3Has : FsOk Try.prog 152 fs_l3Has := fsOk_of tt_ok (tabFs_cons ok_l3Bounds (tabFs_cons ok_l3Point (tabFs_cons ok_l2Square tabFs_nil))) mixed Try.func152 (by kernel_rfl) (by kernel_rfl) (by
    intro args LL p r HH h hp
    unfold fs_l3Has at h
    dsimp only at h
    split at h
    case h_2 => cases h
    rename_i sK sW sH pX pY qX qY
    simp only [Option.some.injEq, Prod.mk.injEq] at h
    obtain ⟨rfl, rfl, rfl⟩ := h
    refine ⟨by simp [Form, stays], L0, ?_⟩
    rw [vc_l3Has]
    try dsimp only
    refine ifB_of (fun h => ?_) (fun h => ?_)
    · simp only [shapeHas, h, cond_true, and_self]
    · refine ⟨?_, rfl⟩
      simp only [shapeHas, h, cond_false]
      rfl)

def LSl5RayRound (r : Ray) (p : Vec) (wide : Int) : LS where
  S := Int × Ray × Vec × Int
  live := [(2, [none]), (3, [none]), (4, [none]), (8, [none])]
  shape := fun s => ([.int .i64 s.1, .ptr 0 0 0, .ptr 1 0 0, .int .i64 s.2.2.2], [(true, .box [.int .i64 s.2.1.From.X, .int .i64 s.2.1.From.Y, .int .i64 s.2.1.Way.X, .int .i64 s.2.1.Way.Y]), (true, .box [.int .i64 s.2.2.1.X, .int .i64 s.2.2.1.Y])])
  get := fun v h => match v, h with
    | [.int .i64 wide', .ptr 0 0 0, .ptr 1 0 0, .int .i64 t], [(true, .box [.int .i64 r'FX, .int .i64 r'FY, .int .i64 r'WX, .int .i64 r'WY]), (true, .box [.int .i64 p'X, .int .i64 p'Y])] => some (wide', (Ray.mk (Vec.mk r'FX r'FY) (Vec.mk r'WX r'WY)), (Vec.mk p'X p'Y), t)
    | _, _ => none
  inv := fun s0 s => Holds (s.1 = wide ∧ s.2.1 = r ∧ s.2.2.1 = p ∧ 0 ≤ s.2.2.2 ∧ s.2.2.2 ≤ 257 ∧ roundFrom r p wide 257 = roundFrom r p wide (257 - s.2.2.2).toNat)
  mu := fun s => (257 - s.2.2.2).toNat
  ok := by
    intro v h s hg
    try dsimp only at hg
    split at hg <;> cases hg
    rfl

def L_l5RayRound (r : Ray) (p : Vec) (wide : Int) : Loops := fun n => match n with
  | 2 => some (LSl5RayRound r p wide)
  | _ => none
def fs_l5RayRound : Fs := ⟨[], fun args H => match args, H with
  | [.agg [.int .i64 rFX, .int .i64 rFY, .int .i64 rWX, .int .i64 rWY], .agg [.int .i64 pX, .int .i64 pY], .int .i64 wide], [] => some (none, .tup [.int .i64 ((roundFrom (Ray.mk (Vec.mk rFX rFY) (Vec.mk rWX rWY)) (Vec.mk pX pY) wide 257).1), .bool ((roundFrom (Ray.mk (Vec.mk rFX rFY) (Vec.mk rWX rWY)) (Vec.mk pX pY) wide 257).2)], [])
  | _, _ => none⟩

theorem vc_l5RayRound (rFX : Int) (rFY : Int) (rWX : Int) (rWY : Int) (pX : Int) (pY : Int) (wide : Int) (Q : SV → List Ent → Prop) :
    fnVC tt (look [(153, fs_l5On), (152, fs_l3Has)]) (L_l5RayRound (Ray.mk (Vec.mk rFX rFY) (Vec.mk rWX rWY)) (Vec.mk pX pY) wide) Try.f115 [.agg [.int .i64 rFX, .int .i64 rFY, .int .i64 rWX, .int .i64 rWY], .agg [.int .i64 pX, .int .i64 pY], .int .i64 wide] [] Q =
    (Holds (wide = wide ∧ Ray.mk (Vec.mk rFX rFY) (Vec.mk rWX rWY) = Ray.mk (Vec.mk rFX rFY) (Vec.mk rWX rWY) ∧ Vec.mk pX pY = Vec.mk pX pY ∧ (0 : Int) ≤ (0 : Int) ∧ (0 : Int) ≤ (257 : Int) ∧ roundFrom (Ray.mk (Vec.mk rFX rFY) (Vec.mk rWX rWY)) (Vec.mk pX pY) wide (257 : Nat) = roundFrom (Ray.mk (Vec.mk rFX rFY) (Vec.mk rWX rWY)) (Vec.mk pX pY) wide (Int.toNat ((257 : Int) - (0 : Int)))) ∧ ∀ (x : Int × Ray × Vec × Int), Holds (Prod.fst x = wide ∧ Prod.fst (Prod.snd x) = Ray.mk (Vec.mk rFX rFY) (Vec.mk rWX rWY) ∧ Prod.fst (Prod.snd (Prod.snd x)) = Vec.mk pX pY ∧ (0 : Int) ≤ Prod.snd (Prod.snd (Prod.snd x)) ∧ Prod.snd (Prod.snd (Prod.snd x)) ≤ (257 : Int) ∧ roundFrom (Ray.mk (Vec.mk rFX rFY) (Vec.mk rWX rWY)) (Vec.mk pX pY) wide (257 : Nat) = roundFrom (Ray.mk (Vec.mk rFX rFY) (Vec.mk rWX rWY)) (Vec.mk pX pY) wide (Int.toNat ((257 : Int) - Prod.snd (Prod.snd (Prod.snd x))))) → ifB (decide (Prod.snd (Prod.snd (Prod.snd x)) ≤ (256 : Int))) (ifB (shapeHas (Shape.mk (1 : Int) (Prod.fst x) (0 : Int)) (Prod.fst (Prod.snd (Prod.snd x))) (rayAt (Prod.fst (Prod.snd x)) (Prod.snd (Prod.snd (Prod.snd x))))) (Q (SV.tup [SV.int IntKind.i64 (Prod.snd (Prod.snd (Prod.snd x))), SV.bool true]) []) (Holds (Prod.fst x = wide ∧ Prod.fst (Prod.snd x) = Ray.mk (Vec.mk rFX rFY) (Vec.mk rWX rWY) ∧ Prod.fst (Prod.snd (Prod.snd x)) = Vec.mk pX pY ∧ (0 : Int) ≤ IntKind.wrap IntKind.i64 (Prod.snd (Prod.snd (Prod.snd x)) + (1 : Int)) ∧ IntKind.wrap IntKind.i64 (Prod.snd (Prod.snd (Prod.snd x)) + (1 : Int)) ≤ (257 : Int) ∧ roundFrom (Ray.mk (Vec.mk rFX rFY) (Vec.mk rWX rWY)) (Vec.mk pX pY) wide (257 : Nat) = roundFrom (Ray.mk (Vec.mk rFX rFY) (Vec.mk rWX rWY)) (Vec.mk pX pY) wide (Int.toNat ((257 : Int) - IntKind.wrap IntKind.i64 (Prod.snd (Prod.snd (Prod.snd x)) + (1 : Int))))) ∧ Int.toNat ((257 : Int) - IntKind.wrap IntKind.i64 (Prod.snd (Prod.snd (Prod.snd x)) + (1 : Int))) < Int.toNat ((257 : Int) - Prod.snd (Prod.snd (Prod.snd x))))) (Q (SV.tup [SV.int IntKind.i64 (0 : Int), SV.bool false]) [])) := by kernel_rfl

theorem ok_l5RayRound : FsOk Try.prog 115 fs_l5RayRound := fsOk_of tt_ok (tabFs_cons ok_l5On (tabFs_cons ok_l3Has tabFs_nil)) mixed Try.func115 (by kernel_rfl) (by kernel_rfl) (by
    intro args LL p r HH h hp
    unfold fs_l5RayRound at h
    dsimp only at h
    split at h
    case h_2 => cases h
    rename_i rFX rFY rWX rWY pX pY wide
    simp only [Option.some.injEq, Prod.mk.injEq] at h
    obtain ⟨rfl, rfl, rfl⟩ := h
    refine ⟨by simp [Form, stays], (L_l5RayRound (Ray.mk (Vec.mk rFX rFY) (Vec.mk rWX rWY)) (Vec.mk pX pY) wide), ?_⟩
    rw [vc_l5RayRound]
    try dsimp only
    refine ⟨⟨rfl, rfl, rfl, by omega, by omega, rfl⟩, ?_⟩
    rintro ⟨wide', r', p', t⟩ ⟨h⟩
    obtain ⟨rfl, rfl, rfl, h0, h1, h2⟩ := h
    dsimp only at h0 h1 h2 ⊢
    refine ifB_of (fun c => ?_) (fun c => ?_)
    · have ht : t ≤ 256 := of_decide_eq_true c
      have hs := roundFrom_step (r := ⟨⟨rFX, rFY⟩, ⟨rWX, rWY⟩⟩) (p := ⟨pX, pY⟩) (wide := wide') h0 (show t < 257 by omega)
      refine ifB_of (fun c => ?_) (fun c => ?_)
      · have c : roundAt ⟨⟨rFX, rFY⟩, ⟨rWX, rWY⟩⟩ ⟨pX, pY⟩ wide' t = true := c
        rw [h2, hs, c]
        exact ⟨rfl, rfl⟩
      · have c : roundAt ⟨⟨rFX, rFY⟩, ⟨rWX, rWY⟩⟩ ⟨pX, pY⟩ wide' t = false := c
        have hw : IntKind.i64.wrap (t + 1) = t + 1 := wrap_small (by omega) (by omega)
        rw [hw]
        refine ⟨⟨rfl, rfl, rfl, by omega, by omega, ?_⟩, by omega⟩
        rw [h2, hs, c]
        rfl
    · have ht : ¬ t ≤ 256 := of_decide_eq_false c
      have : t = 257 := by omega
      subst this
      rw [h2]
      exact ⟨rfl, rfl⟩)

def LSimplRayRound (r : Ray) (p : Vec) (wide : Int) : LS where
  S := Int × Ray × Vec × Int
  live := [(2, [none]), (3, [none]), (4, [none]), (22, [none])]
  shape := fun s => ([.int .i64 s.1, .ptr 0 0 0, .ptr 1 0 0, .int .i64 s.2.2.2], [(true, .box [.int .i64 s.2.1.From.X, .int .i64 s.2.1.From.Y, .int .i64 s.2.1.Way.X, .int .i64 s.2.1.Way.Y]), (true, .box [.int .i64 s.2.2.1.X, .int .i64 s.2.2.1.Y])])
  get := fun v h => match v, h with
    | [.int .i64 wide', .ptr 0 0 0, .ptr 1 0 0, .int .i64 t], [(true, .box [.int .i64 r'FX, .int .i64 r'FY, .int .i64 r'WX, .int .i64 r'WY]), (true, .box [.int .i64 p'X, .int .i64 p'Y])] => some (wide', (Ray.mk (Vec.mk r'FX r'FY) (Vec.mk r'WX r'WY)), (Vec.mk p'X p'Y), t)
    | _, _ => none
  inv := fun s0 s => Holds (s.1 = wide ∧ s.2.1 = r ∧ s.2.2.1 = p ∧ 0 ≤ s.2.2.2 ∧ s.2.2.2 ≤ 257 ∧ roundFrom r p wide 257 = roundFrom r p wide (257 - s.2.2.2).toNat)
  mu := fun s => (257 - s.2.2.2).toNat
  ok := by
    intro v h s hg
    try dsimp only at hg
    split at hg <;> cases hg
    rfl

def L_implRayRound (r : Ray) (p : Vec) (wide : Int) : Loops := fun n => match n with
  | 4 => some (LSimplRayRound r p wide)
  | _ => none
def fs_implRayRound : Fs := ⟨[], fun args H => match args, H with
  | [.agg [.int .i64 rFX, .int .i64 rFY, .int .i64 rWX, .int .i64 rWY], .agg [.int .i64 pX, .int .i64 pY], .int .i64 wide], [] => some (none, .tup [.int .i64 ((rayRound (Ray.mk (Vec.mk rFX rFY) (Vec.mk rWX rWY)) (Vec.mk pX pY) wide).1), .bool ((rayRound (Ray.mk (Vec.mk rFX rFY) (Vec.mk rWX rWY)) (Vec.mk pX pY) wide).2)], [])
  | _, _ => none⟩

theorem vc_implRayRound (rFX : Int) (rFY : Int) (rWX : Int) (rWY : Int) (pX : Int) (pY : Int) (wide : Int) (Q : SV → List Ent → Prop) :
    fnVC tt (look [(119, fs_implRayOk), (121, fs_isPlace), (91, fs_in_), (155, fs_implRayAt), (156, fs_vecMinus), (157, fs_vecSquare)]) (L_implRayRound (Ray.mk (Vec.mk rFX rFY) (Vec.mk rWX rWY)) (Vec.mk pX pY) wide) Try.f122 [.agg [.int .i64 rFX, .int .i64 rFY, .int .i64 rWX, .int .i64 rWY], .agg [.int .i64 pX, .int .i64 pY], .int .i64 wide] [] Q =
    (ifB (!rayOk (Ray.mk (Vec.mk rFX rFY) (Vec.mk rWX rWY))) (Q (SV.tup [SV.int IntKind.i64 (0 : Int), SV.bool false]) []) (ifB (!placeOk (Vec.mk pX pY)) (Q (SV.tup [SV.int IntKind.i64 (0 : Int), SV.bool false]) []) (ifB (!isIn wide (1 : Int) (25600 : Int)) (Q (SV.tup [SV.int IntKind.i64 (0 : Int), SV.bool false]) []) (Holds (wide = wide ∧ Ray.mk (Vec.mk rFX rFY) (Vec.mk rWX rWY) = Ray.mk (Vec.mk rFX rFY) (Vec.mk rWX rWY) ∧ Vec.mk pX pY = Vec.mk pX pY ∧ (0 : Int) ≤ (0 : Int) ∧ (0 : Int) ≤ (257 : Int) ∧ roundFrom (Ray.mk (Vec.mk rFX rFY) (Vec.mk rWX rWY)) (Vec.mk pX pY) wide (257 : Nat) = roundFrom (Ray.mk (Vec.mk rFX rFY) (Vec.mk rWX rWY)) (Vec.mk pX pY) wide (Int.toNat ((257 : Int) - (0 : Int)))) ∧ ∀ (x : Int × Ray × Vec × Int), Holds (Prod.fst x = wide ∧ Prod.fst (Prod.snd x) = Ray.mk (Vec.mk rFX rFY) (Vec.mk rWX rWY) ∧ Prod.fst (Prod.snd (Prod.snd x)) = Vec.mk pX pY ∧ (0 : Int) ≤ Prod.snd (Prod.snd (Prod.snd x)) ∧ Prod.snd (Prod.snd (Prod.snd x)) ≤ (257 : Int) ∧ roundFrom (Ray.mk (Vec.mk rFX rFY) (Vec.mk rWX rWY)) (Vec.mk pX pY) wide (257 : Nat) = roundFrom (Ray.mk (Vec.mk rFX rFY) (Vec.mk rWX rWY)) (Vec.mk pX pY) wide (Int.toNat ((257 : Int) - Prod.snd (Prod.snd (Prod.snd x))))) → ifB (decide (Prod.snd (Prod.snd (Prod.snd x)) < (257 : Int))) (ifB (decide (square (minus (rayAt (Prod.fst (Prod.snd x)) (Prod.snd (Prod.snd (Prod.snd x)))) (Prod.fst (Prod.snd (Prod.snd x)))) ≤ IntKind.wrap IntKind.i64 (Prod.fst x * Prod.fst x))) (Q (SV.tup [SV.int IntKind.i64 (Prod.snd (Prod.snd (Prod.snd x))), SV.bool true]) []) (Holds (Prod.fst x = wide ∧ Prod.fst (Prod.snd x) = Ray.mk (Vec.mk rFX rFY) (Vec.mk rWX rWY) ∧ Prod.fst (Prod.snd (Prod.snd x)) = Vec.mk pX pY ∧ (0 : Int) ≤ IntKind.wrap IntKind.i64 (Prod.snd (Prod.snd (Prod.snd x)) + (1 : Int)) ∧ IntKind.wrap IntKind.i64 (Prod.snd (Prod.snd (Prod.snd x)) + (1 : Int)) ≤ (257 : Int) ∧ roundFrom (Ray.mk (Vec.mk rFX rFY) (Vec.mk rWX rWY)) (Vec.mk pX pY) wide (257 : Nat) = roundFrom (Ray.mk (Vec.mk rFX rFY) (Vec.mk rWX rWY)) (Vec.mk pX pY) wide (Int.toNat ((257 : Int) - IntKind.wrap IntKind.i64 (Prod.snd (Prod.snd (Prod.snd x)) + (1 : Int))))) ∧ Int.toNat ((257 : Int) - IntKind.wrap IntKind.i64 (Prod.snd (Prod.snd (Prod.snd x)) + (1 : Int))) < Int.toNat ((257 : Int) - Prod.snd (Prod.snd (Prod.snd x))))) (Q (SV.tup [SV.int IntKind.i64 (0 : Int), SV.bool false]) []))))) := by kernel_rfl

theorem ok_implRayRound : FsOk Try.prog 122 fs_implRayRound := fsOk_of tt_ok (tabFs_cons ok_implRayOk (tabFs_cons ok_isPlace (tabFs_cons ok_in_ (tabFs_cons ok_implRayAt (tabFs_cons ok_vecMinus (tabFs_cons ok_vecSquare tabFs_nil)))))) mixed Try.func122 (by kernel_rfl) (by kernel_rfl) (by
    intro args LL p r HH h hp
    unfold fs_implRayRound at h
    dsimp only at h
    split at h
    case h_2 => cases h
    rename_i rFX rFY rWX rWY pX pY wide
    simp only [Option.some.injEq, Prod.mk.injEq] at h
    obtain ⟨rfl, rfl, rfl⟩ := h
    refine ⟨by simp [Form, stays], (L_implRayRound (Ray.mk (Vec.mk rFX rFY) (Vec.mk rWX rWY)) (Vec.mk pX pY) wide), ?_⟩
    rw [vc_implRayRound]
    try dsimp only
    refine ifB_of (fun h1 => ?_) (fun h1 => ?_)
    · have h1 : rayOk ⟨⟨rFX, rFY⟩, ⟨rWX, rWY⟩⟩ = false := by simpa using h1
      simp [rayRound, h1]
    refine ifB_of (fun h2 => ?_) (fun h2 => ?_)
    · have h2 : placeOk ⟨pX, pY⟩ = false := by simpa using h2
      simp [rayRound, h2]
    refine ifB_of (fun h3 => ?_) (fun h3 => ?_)
    · have h3 : isIn wide 1 25600 = false := by simpa using h3
      simp [rayRound, h3]
    have e : rayRound ⟨⟨rFX, rFY⟩, ⟨rWX, rWY⟩⟩ ⟨pX, pY⟩ wide = roundFrom ⟨⟨rFX, rFY⟩, ⟨rWX, rWY⟩⟩ ⟨pX, pY⟩ wide 257 := by
      have h1 : rayOk ⟨⟨rFX, rFY⟩, ⟨rWX, rWY⟩⟩ = true := by simpa using h1
      have h2 : placeOk ⟨pX, pY⟩ = true := by simpa using h2
      have h3 : isIn wide 1 25600 = true := by simpa using h3
      simp [rayRound, h1, h2, h3]
    rw [e]
    refine ⟨⟨rfl, rfl, rfl, by omega, by omega, rfl⟩, ?_⟩
    rintro ⟨wide', r', p', t⟩ ⟨h⟩
    obtain ⟨rfl, rfl, rfl, h0, h1, h2⟩ := h
    dsimp only at h0 h1 h2 ⊢
    refine ifB_of (fun c => ?_) (fun c => ?_)
    · have ht : t < 257 := of_decide_eq_true c
      have hs := roundFrom_step (r := ⟨⟨rFX, rFY⟩, ⟨rWX, rWY⟩⟩) (p := ⟨pX, pY⟩) (wide := wide') h0 ht
      refine ifB_of (fun c => ?_) (fun c => ?_)
      · have c : roundAt ⟨⟨rFX, rFY⟩, ⟨rWX, rWY⟩⟩ ⟨pX, pY⟩ wide' t = true := c
        rw [h2, hs, c]
        exact ⟨rfl, rfl⟩
      · have c : roundAt ⟨⟨rFX, rFY⟩, ⟨rWX, rWY⟩⟩ ⟨pX, pY⟩ wide' t = false := c
        have hw : IntKind.i64.wrap (t + 1) = t + 1 := wrap_small (by omega) (by omega)
        rw [hw]
        refine ⟨⟨rfl, rfl, rfl, by omega, by omega, ?_⟩, by omega⟩
        rw [h2, hs, c]
        rfl
    · have ht : ¬ t < 257 := of_decide_eq_false c
      have : t = 257 := by omega
      subst this
      rw [h2]
      exact ⟨rfl, rfl⟩)



end Go.Proofs.Ythkdelepjndacaa.Sym
