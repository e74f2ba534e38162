/-
  What the program's and the reference's small functions answer: numbers, vectors, places.
  No condition.
-/
import Derived.Test.YtmflfpedmbfhkaaSymU
import Derived.Test.YtmflfpedmbfhkaaSymW
import Derived.Test.YtmflfpedmbfhkaaSymT
namespace Go.Proofs.Ytmflfpedmbfhkaa.Sym
open Go
set_option linter.unusedVariables false
set_option linter.unusedSimpArgs false
set_option maxRecDepth 100000

theorem pre_of {p q : Prop} (h1 : p) (h2 : p → q) : p ∧ q := ⟨h1, h2 h1⟩

abbrev W (n : Int) : Int := IntKind.i64.wrap n

def isIn (n a b : Int) : Bool := decide (a ≤ n) && decide (n ≤ b)
def placeOk (p : Vec) : Bool := isIn p.X (-2560000) 2560000 && isIn p.Y (-2560000) 2560000
def vecOk (p : Vec) : Bool := isIn p.X (-1000000000) 1000000000 && isIn p.Y (-1000000000) 1000000000
def plus (a b : Vec) : Vec := ⟨W (a.X + b.X), W (a.Y + b.Y)⟩
def minus (a b : Vec) : Vec := ⟨W (a.X - b.X), W (a.Y - b.Y)⟩
def square (a : Vec) : Int := W (W (a.X * a.X) + W (a.Y * a.Y))
def scaled (a : Vec) (n : Int) : Vec := ⟨W ((W (a.X * n)).tdiv 256), W ((W (a.Y * n)).tdiv 256)⟩
def eqVec (a b : Vec) : Bool := a.X == b.X && a.Y == b.Y

theorem mixed : Try.prog.follows .mixedOrders = true := by kernel_rfl
theorem tt_ok : TabOk Try.prog tt := tabOk_of types_ok

def fs_in_ : Fs := ⟨[], fun args H => match args, H with
  | [.int .i64 n, .int .i64 a, .int .i64 b], [] => some (none, .bool (isIn n a b), [])
  | _, _ => none⟩

theorem vc_in_ (n : Int) (a : Int) (b : Int) (Q : SV → List Ent → Prop) :
    fnVC tt (look []) L0 Try.f30 [.int .i64 n, .int .i64 a, .int .i64 b] [] Q =
    (ifB (decide (n ≥ a)) (Q (SV.bool (decide (n ≤ b))) []) (Q (SV.bool false) [])) := by kernel_rfl

theorem ok_in_ : FsOk Try.prog 30 fs_in_ := fsOk_of tt_ok tabFs_nil mixed Try.func30 (by kernel_rfl) (by kernel_rfl) (by
    intro args LL p r HH h hp
    unfold fs_in_ at h
    dsimp only at h
    split at h
    case h_2 => cases h
    rename_i n a b
    simp only [Option.some.injEq, Prod.mk.injEq] at h
    obtain ⟨rfl, rfl, rfl⟩ := h
    refine ⟨by simp [Form, stays], L0, ?_⟩
    rw [vc_in_]
    try dsimp only

    repeat' (first | refine ifB_of (fun _ => ?_) (fun _ => ?_) | refine pre_of ?_ (fun _ => ?_))
    all_goals first
      | rfl
      | (simp only [W, isIn, *, cond_true, cond_false, Bool.true_and, Bool.false_and, Bool.and_true, Bool.and_false, Bool.not_true, Bool.not_false, and_self, true_and]; done)
      | (simp_all [W, isIn]; done)
      | (simp_all [W, isIn] <;> omega))

def fs_l1In : Fs := ⟨[], fun args H => match args, H with
  | [.int .i64 n, .int .i64 a, .int .i64 b], [] => some (none, .bool (isIn n a b), [])
  | _, _ => none⟩

theorem vc_l1In (n : Int) (a : Int) (b : Int) (Q : SV → List Ent → Prop) :
    fnVC tt (look []) L0 Try.f19 [.int .i64 n, .int .i64 a, .int .i64 b] [] Q =
    (ifB (decide (n ≥ a)) (Q (SV.bool (decide (n ≤ b))) []) (Q (SV.bool false) [])) := by kernel_rfl

theorem ok_l1In : FsOk Try.prog 19 fs_l1In := fsOk_of tt_ok tabFs_nil mixed Try.func19 (by kernel_rfl) (by kernel_rfl) (by
    intro args LL p r HH h hp
    unfold fs_l1In at h
    dsimp only at h
    split at h
    case h_2 => cases h
    rename_i n a b
    simp only [Option.some.injEq, Prod.mk.injEq] at h
    obtain ⟨rfl, rfl, rfl⟩ := h
    refine ⟨by simp [Form, stays], L0, ?_⟩
    rw [vc_l1In]
    try dsimp only

    repeat' (first | refine ifB_of (fun _ => ?_) (fun _ => ?_) | refine pre_of ?_ (fun _ => ?_))
    all_goals first
      | rfl
      | (simp only [W, isIn, *, cond_true, cond_false, Bool.true_and, Bool.false_and, Bool.and_true, Bool.and_false, Bool.not_true, Bool.not_false, and_self, true_and]; done)
      | (simp_all [W, isIn]; done)
      | (simp_all [W, isIn] <;> omega))

def fs_isPlace : Fs := ⟨[], fun args H => match args, H with
  | [.agg [.int .i64 pX, .int .i64 pY]], [] => some (none, .bool (placeOk (Vec.mk pX pY)), [])
  | _, _ => none⟩

theorem vc_isPlace (pX : Int) (pY : Int) (Q : SV → List Ent → Prop) :
    fnVC tt (look [(30, fs_in_)]) L0 Try.f32 [.agg [.int .i64 pX, .int .i64 pY]] [] Q =
    (ifB (isIn pX (-2560000 : Int) (2560000 : Int)) (Q (SV.bool (isIn pY (-2560000 : Int) (2560000 : Int))) []) (Q (SV.bool false) [])) := by kernel_rfl

theorem ok_isPlace : FsOk Try.prog 32 fs_isPlace := fsOk_of tt_ok (tabFs_cons ok_in_ tabFs_nil) mixed Try.func32 (by kernel_rfl) (by kernel_rfl) (by
    intro args LL p r HH h hp
    unfold fs_isPlace at h
    dsimp only at h
    split at h
    case h_2 => cases h
    rename_i pX pY
    simp only [Option.some.injEq, Prod.mk.injEq] at h
    obtain ⟨rfl, rfl, rfl⟩ := h
    refine ⟨by simp [Form, stays], L0, ?_⟩
    rw [vc_isPlace]
    try dsimp only

    repeat' (first | refine ifB_of (fun _ => ?_) (fun _ => ?_) | refine pre_of ?_ (fun _ => ?_))
    all_goals first
      | rfl
      | (simp only [W, placeOk, *, cond_true, cond_false, Bool.true_and, Bool.false_and, Bool.and_true, Bool.and_false, Bool.not_true, Bool.not_false, and_self, true_and]; done)
      | (simp_all [W, placeOk]; done)
      | (simp_all [W, placeOk] <;> omega))

def fs_l3Place : Fs := ⟨[], fun args H => match args, H with
  | [.agg [.int .i64 pX, .int .i64 pY]], [] => some (none, .bool (placeOk (Vec.mk pX pY)), [])
  | _, _ => none⟩

theorem vc_l3Place (pX : Int) (pY : Int) (Q : SV → List Ent → Prop) :
    fnVC tt (look [(19, fs_l1In)]) L0 Try.f21 [.agg [.int .i64 pX, .int .i64 pY]] [] Q =
    (ifB (isIn pX (-2560000 : Int) (2560000 : Int)) (Q (SV.bool (isIn pY (-2560000 : Int) (2560000 : Int))) []) (Q (SV.bool false) [])) := by kernel_rfl

theorem ok_l3Place : FsOk Try.prog 21 fs_l3Place := fsOk_of tt_ok (tabFs_cons ok_l1In tabFs_nil) mixed Try.func21 (by kernel_rfl) (by kernel_rfl) (by
    intro args LL p r HH h hp
    unfold fs_l3Place at h
    dsimp only at h
    split at h
    case h_2 => cases h
    rename_i pX pY
    simp only [Option.some.injEq, Prod.mk.injEq] at h
    obtain ⟨rfl, rfl, rfl⟩ := h
    refine ⟨by simp [Form, stays], L0, ?_⟩
    rw [vc_l3Place]
    try dsimp only

    repeat' (first | refine ifB_of (fun _ => ?_) (fun _ => ?_) | refine pre_of ?_ (fun _ => ?_))
    all_goals first
      | rfl
      | (simp only [W, placeOk, *, cond_true, cond_false, Bool.true_and, Bool.false_and, Bool.and_true, Bool.and_false, Bool.not_true, Bool.not_false, and_self, true_and]; done)
      | (simp_all [W, placeOk]; done)
      | (simp_all [W, placeOk] <;> omega))

def fs_vecPlus : Fs := ⟨[], fun args H => match args, H with
  | [.agg [.int .i64 aX, .int .i64 aY], .agg [.int .i64 bX, .int .i64 bY]], [] => some (none, .agg [.int .i64 (plus (Vec.mk aX aY) (Vec.mk bX bY)).X, .int .i64 (plus (Vec.mk aX aY) (Vec.mk bX bY)).Y], [])
  | _, _ => none⟩

theorem vc_vecPlus (aX : Int) (aY : Int) (bX : Int) (bY : Int) (Q : SV → List Ent → Prop) :
    fnVC tt (look []) L0 Try.f49 [.agg [.int .i64 aX, .int .i64 aY], .agg [.int .i64 bX, .int .i64 bY]] [] Q =
    (Q (SV.agg [SV.int IntKind.i64 (IntKind.wrap IntKind.i64 (aX + bX)), SV.int IntKind.i64 (IntKind.wrap IntKind.i64 (aY + bY))]) []) := by kernel_rfl

theorem ok_vecPlus : FsOk Try.prog 49 fs_vecPlus := fsOk_of tt_ok tabFs_nil mixed Try.func49 (by kernel_rfl) (by kernel_rfl) (by
    intro args LL p r HH h hp
    unfold fs_vecPlus at h
    dsimp only at h
    split at h
    case h_2 => cases h
    rename_i aX aY bX bY
    simp only [Option.some.injEq, Prod.mk.injEq] at h
    obtain ⟨rfl, rfl, rfl⟩ := h
    refine ⟨by simp [Form, stays], L0, ?_⟩
    rw [vc_vecPlus]
    try dsimp only

    repeat' (first | refine ifB_of (fun _ => ?_) (fun _ => ?_) | refine pre_of ?_ (fun _ => ?_))
    all_goals first
      | rfl
      | (simp only [W, plus, *, cond_true, cond_false, Bool.true_and, Bool.false_and, Bool.and_true, Bool.and_false, Bool.not_true, Bool.not_false, and_self, true_and]; done)
      | (simp_all [W, plus]; done)
      | (simp_all [W, plus] <;> omega))

def fs_vecMinus : Fs := ⟨[], fun args H => match args, H with
  | [.agg [.int .i64 aX, .int .i64 aY], .agg [.int .i64 bX, .int .i64 bY]], [] => some (none, .agg [.int .i64 (minus (Vec.mk aX aY) (Vec.mk bX bY)).X, .int .i64 (minus (Vec.mk aX aY) (Vec.mk bX bY)).Y], [])
  | _, _ => none⟩

theorem vc_vecMinus (aX : Int) (aY : Int) (bX : Int) (bY : Int) (Q : SV → List Ent → Prop) :
    fnVC tt (look []) L0 Try.f58 [.agg [.int .i64 aX, .int .i64 aY], .agg [.int .i64 bX, .int .i64 bY]] [] Q =
    (Q (SV.agg [SV.int IntKind.i64 (IntKind.wrap IntKind.i64 (aX - bX)), SV.int IntKind.i64 (IntKind.wrap IntKind.i64 (aY - bY))]) []) := by kernel_rfl

theorem ok_vecMinus : FsOk Try.prog 58 fs_vecMinus := fsOk_of tt_ok tabFs_nil mixed Try.func58 (by kernel_rfl) (by kernel_rfl) (by
    intro args LL p r HH h hp
    unfold fs_vecMinus at h
    dsimp only at h
    split at h
    case h_2 => cases h
    rename_i aX aY bX bY
    simp only [Option.some.injEq, Prod.mk.injEq] at h
    obtain ⟨rfl, rfl, rfl⟩ := h
    refine ⟨by simp [Form, stays], L0, ?_⟩
    rw [vc_vecMinus]
    try dsimp only

    repeat' (first | refine ifB_of (fun _ => ?_) (fun _ => ?_) | refine pre_of ?_ (fun _ => ?_))
    all_goals first
      | rfl
      | (simp only [W, minus, *, cond_true, cond_false, Bool.true_and, Bool.false_and, Bool.and_true, Bool.and_false, Bool.not_true, Bool.not_false, and_self, true_and]; done)
      | (simp_all [W, minus]; done)
      | (simp_all [W, minus] <;> omega))

def fs_l2Square : Fs := ⟨[], fun args H => match args, H with
  | [.agg [.int .i64 aX, .int .i64 aY]], [] => some (none, .int .i64 (square (Vec.mk aX aY)), [])
  | _, _ => none⟩

theorem vc_l2Square (aX : Int) (aY : Int) (Q : SV → List Ent → Prop) :
    fnVC tt (look []) L0 Try.f68 [.agg [.int .i64 aX, .int .i64 aY]] [] Q =
    (Q (SV.int IntKind.i64 (IntKind.wrap IntKind.i64 (IntKind.wrap IntKind.i64 (aX * aX) + IntKind.wrap IntKind.i64 (aY * aY)))) []) := by kernel_rfl

theorem ok_l2Square : FsOk Try.prog 68 fs_l2Square := fsOk_of tt_ok tabFs_nil mixed Try.func68 (by kernel_rfl) (by kernel_rfl) (by
    intro args LL p r HH h hp
    unfold fs_l2Square at h
    dsimp only at h
    split at h
    case h_2 => cases h
    rename_i aX aY
    simp only [Option.some.injEq, Prod.mk.injEq] at h
    obtain ⟨rfl, rfl, rfl⟩ := h
    refine ⟨by simp [Form, stays], L0, ?_⟩
    rw [vc_l2Square]
    try dsimp only

    repeat' (first | refine ifB_of (fun _ => ?_) (fun _ => ?_) | refine pre_of ?_ (fun _ => ?_))
    all_goals first
      | rfl
      | (simp only [W, square, *, cond_true, cond_false, Bool.true_and, Bool.false_and, Bool.and_true, Bool.and_false, Bool.not_true, Bool.not_false, and_self, true_and]; done)
      | (simp_all [W, square]; done)
      | (simp_all [W, square] <;> omega))


end Go.Proofs.Ytmflfpedmbfhkaa.Sym
