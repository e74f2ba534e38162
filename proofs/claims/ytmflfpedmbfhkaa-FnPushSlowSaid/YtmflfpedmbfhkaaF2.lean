/-
  Rays and what is round.
  No condition.
-/
import Derived.Test.YtmflfpedmbfhkaaF1
namespace Go.Proofs.Ytmflfpedmbfhkaa.Sym
open Go
set_option linter.unusedVariables false
set_option linter.unusedSimpArgs false
set_option maxRecDepth 100000

def rayOk (r : Ray) : Bool := placeOk r.From && placeOk r.Way && !(r.Way.X == 0 && r.Way.Y == 0)
def rayAt (r : Ray) (t : Int) : Vec := plus r.From (scaled r.Way t)
def bounds (s : Shape) (p : Vec) : Box :=
  bif s.Kind == 1 then ⟨⟨W (p.X - s.Wide), W (p.Y - s.Wide)⟩, ⟨W (p.X + s.Wide), W (p.Y + s.Wide)⟩⟩
  else ⟨⟨W (p.X - s.Wide), W (p.Y - s.High)⟩, ⟨W (p.X + s.Wide), W (p.Y + s.High)⟩⟩
def hasPoint (b : Box) (p : Vec) : Bool := isIn p.X b.Low.X b.High.X && isIn p.Y b.Low.Y b.High.Y
def shapeHas (s : Shape) (p q : Vec) : Bool :=
  bif s.Kind == 2 then hasPoint (bounds s p) q else decide (square (minus q p) ≤ W (s.Wide * s.Wide))

def roundAt (r : Ray) (p : Vec) (wide t : Int) : Bool := decide (square (minus (rayAt r t) p) ≤ W (wide * wide))
def roundFrom (r : Ray) (p : Vec) (wide : Int) : Nat → Int × Bool
  | 0 => (0, false)
  | k + 1 => bif roundAt r p wide (257 - (k + 1)) then (257 - (k + 1), true) else roundFrom r p wide k
def rayRound (r : Ray) (p : Vec) (wide : Int) : Int × Bool :=
  bif rayOk r && placeOk p && isIn wide 1 25600 then roundFrom r p wide 257 else (0, false)

theorem wrap_small {n : Int} (h1 : -9223372036854775808 ≤ n) (h2 : n ≤ 9223372036854775807) : IntKind.i64.wrap n = n := by
  rw [IntKind.wrap_i64]
  omega

theorem roundFrom_step {r : Ray} {p : Vec} {wide t : Int} (h0 : 0 ≤ t) (h1 : t < 257) :
    roundFrom r p wide (257 - t).toNat = bif roundAt r p wide t then (t, true) else roundFrom r p wide (257 - (t + 1)).toNat := by
  have e : (257 - t).toNat = (257 - (t + 1)).toNat + 1 := by omega
  rw [e, roundFrom]
  have e2 : (257 : Int) - (((257 - (t + 1)).toNat : Int) + 1) = t := by omega
  rw [e2]

def fs_l3Bounds : Fs := ⟨[], fun args H => match args, H with
  | [.agg [.int .i64 sK, .int .i64 sW, .int .i64 sH], .agg [.int .i64 pX, .int .i64 pY]], [] => some (none, .agg [.int .i64 (bounds (Shape.mk sK sW sH) (Vec.mk pX pY)).Low.X, .int .i64 (bounds (Shape.mk sK sW sH) (Vec.mk pX pY)).Low.Y, .int .i64 (bounds (Shape.mk sK sW sH) (Vec.mk pX pY)).High.X, .int .i64 (bounds (Shape.mk sK sW sH) (Vec.mk pX pY)).High.Y], [])
  | _, _ => none⟩

theorem vc_l3Bounds (sK : Int) (sW : Int) (sH : Int) (pX : Int) (pY : Int) (Q : SV → List Ent → Prop) :
    fnVC tt (look []) L0 Try.f64 [.agg [.int .i64 sK, .int .i64 sW, .int .i64 sH], .agg [.int .i64 pX, .int .i64 pY]] [] Q =
    (ifB (sK == (1 : Int)) (Q (SV.agg [SV.int IntKind.i64 (IntKind.wrap IntKind.i64 (pX - sW)), SV.int IntKind.i64 (IntKind.wrap IntKind.i64 (pY - sW)), SV.int IntKind.i64 (IntKind.wrap IntKind.i64 (pX + sW)), SV.int IntKind.i64 (IntKind.wrap IntKind.i64 (pY + sW))]) []) (Q (SV.agg [SV.int IntKind.i64 (IntKind.wrap IntKind.i64 (pX - sW)), SV.int IntKind.i64 (IntKind.wrap IntKind.i64 (pY - sH)), SV.int IntKind.i64 (IntKind.wrap IntKind.i64 (pX + sW)), SV.int IntKind.i64 (IntKind.wrap IntKind.i64 (pY + sH))]) [])) := by kernel_rfl

theorem ok_l3Bounds : FsOk Try.prog 64 fs_l3Bounds := fsOk_of tt_ok tabFs_nil mixed Try.func64 (by kernel_rfl) (by kernel_rfl) (by
    intro args LL p r HH h hp
    unfold fs_l3Bounds at h
    dsimp only at h
    split at h
    case h_2 => cases h
    rename_i sK sW sH pX pY
    simp only [Option.some.injEq, Prod.mk.injEq] at h
    obtain ⟨rfl, rfl, rfl⟩ := h
    refine ⟨by simp [Form, stays], L0, ?_⟩
    rw [vc_l3Bounds]
    try dsimp only

    repeat' (first | refine ifB_of (fun _ => ?_) (fun _ => ?_) | refine pre_of ?_ (fun _ => ?_))
    all_goals first
      | rfl
      | (simp only [W, bounds, *, cond_true, cond_false, Bool.true_and, Bool.false_and, Bool.and_true, Bool.and_false, Bool.not_true, Bool.not_false, and_self, true_and]; done)
      | (simp_all [W, bounds]; done)
      | (simp_all [W, bounds] <;> omega))

def fs_l3Point : Fs := ⟨[], fun args H => match args, H with
  | [.agg [.int .i64 bLX, .int .i64 bLY, .int .i64 bHX, .int .i64 bHY], .agg [.int .i64 pX, .int .i64 pY]], [] => some (none, .bool (hasPoint (Box.mk (Vec.mk bLX bLY) (Vec.mk bHX bHY)) (Vec.mk pX pY)), [])
  | _, _ => none⟩

theorem vc_l3Point (bLX : Int) (bLY : Int) (bHX : Int) (bHY : Int) (pX : Int) (pY : Int) (Q : SV → List Ent → Prop) :
    fnVC tt (look [(19, fs_l1In)]) L0 Try.f70 [.agg [.int .i64 bLX, .int .i64 bLY, .int .i64 bHX, .int .i64 bHY], .agg [.int .i64 pX, .int .i64 pY]] [] Q =
    (ifB (isIn pX bLX bHX) (Q (SV.bool (isIn pY bLY bHY)) []) (Q (SV.bool false) [])) := by kernel_rfl

theorem ok_l3Point : FsOk Try.prog 70 fs_l3Point := fsOk_of tt_ok (tabFs_cons ok_l1In tabFs_nil) mixed Try.func70 (by kernel_rfl) (by kernel_rfl) (by
    intro args LL p r HH h hp
    unfold fs_l3Point at h
    dsimp only at h
    split at h
    case h_2 => cases h
    rename_i bLX bLY bHX bHY pX pY
    simp only [Option.some.injEq, Prod.mk.injEq] at h
    obtain ⟨rfl, rfl, rfl⟩ := h
    refine ⟨by simp [Form, stays], L0, ?_⟩
    rw [vc_l3Point]
    try dsimp only

    repeat' (first | refine ifB_of (fun _ => ?_) (fun _ => ?_) | refine pre_of ?_ (fun _ => ?_))
    all_goals first
      | rfl
      | (simp only [W, hasPoint, *, cond_true, cond_false, Bool.true_and, Bool.false_and, Bool.and_true, Bool.and_false, Bool.not_true, Bool.not_false, and_self, true_and]; done)
      | (simp_all [W, hasPoint]; done)
      | (simp_all [W, hasPoint] <;> omega))

def LSl5RayRound (r : Ray) (p : Vec) (wide : Int) : LS where
  S := Int × Ray × Vec × Int
  live := [(2, [none]), (3, [none]), (4, [none]), (8, [none])]
  shape := fun s => ([.int .i64 s.1, .ptr 0 0 0, .ptr 1 0 0, .int .i64 s.2.2.2], [(true, .box [.int .i64 s.2.1.From.X, .int .i64 s.2.1.From.Y, .int .i64 s.2.1.Way.X, .int .i64 s.2.1.Way.Y]), (true, .box [.int .i64 s.2.2.1.X, .int .i64 s.2.2.1.Y])])
  get := fun v h => match v, h with
    | [.int .i64 wide', .ptr 0 0 0, .ptr 1 0 0, .int .i64 t], [(true, .box [.int .i64 r'FX, .int .i64 r'FY, .int .i64 r'WX, .int .i64 r'WY]), (true, .box [.int .i64 p'X, .int .i64 p'Y])] => some (wide', (Ray.mk (Vec.mk r'FX r'FY) (Vec.mk r'WX r'WY)), (Vec.mk p'X p'Y), t)
    | _, _ => none
  inv := fun s0 s => Holds (s.1 = wide ∧ s.2.1 = r ∧ s.2.2.1 = p ∧ 0 ≤ s.2.2.2 ∧ s.2.2.2 ≤ 257 ∧ roundFrom r p wide 257 = roundFrom r p wide (257 - s.2.2.2).toNat)
  mu := fun s => (257 - s.2.2.2).toNat
  ok := by
    intro v h s hg
    try dsimp only at hg
    split at hg <;> cases hg
    rfl

def L_l5RayRound (r : Ray) (p : Vec) (wide : Int) : Loops := fun n => match n with
  | 2 => some (LSl5RayRound r p wide)
  | _ => none
def LSimplRayRound (r : Ray) (p : Vec) (wide : Int) : LS where
  S := Int × Ray × Vec × Int
  live := [(2, [none]), (3, [none]), (4, [none]), (22, [none])]
  shape := fun s => ([.int .i64 s.1, .ptr 0 0 0, .ptr 1 0 0, .int .i64 s.2.2.2], [(true, .box [.int .i64 s.2.1.From.X, .int .i64 s.2.1.From.Y, .int .i64 s.2.1.Way.X, .int .i64 s.2.1.Way.Y]), (true, .box [.int .i64 s.2.2.1.X, .int .i64 s.2.2.1.Y])])
  get := fun v h => match v, h with
    | [.int .i64 wide', .ptr 0 0 0, .ptr 1 0 0, .int .i64 t], [(true, .box [.int .i64 r'FX, .int .i64 r'FY, .int .i64 r'WX, .int .i64 r'WY]), (true, .box [.int .i64 p'X, .int .i64 p'Y])] => some (wide', (Ray.mk (Vec.mk r'FX r'FY) (Vec.mk r'WX r'WY)), (Vec.mk p'X p'Y), t)
    | _, _ => none
  inv := fun s0 s => Holds (s.1 = wide ∧ s.2.1 = r ∧ s.2.2.1 = p ∧ 0 ≤ s.2.2.2 ∧ s.2.2.2 ≤ 257 ∧ roundFrom r p wide 257 = roundFrom r p wide (257 - s.2.2.2).toNat)
  mu := fun s => (257 - s.2.2.2).toNat
  ok := by
    intro v h s hg
    try dsimp only at hg
    split at hg <;> cases hg
    rfl

def L_implRayRound (r : Ray) (p : Vec) (wide : Int) : Loops := fun n => match n with
  | 4 => some (LSimplRayRound r p wide)
  | _ => none


end Go.Proofs.Ytmflfpedmbfhkaa.Sym
