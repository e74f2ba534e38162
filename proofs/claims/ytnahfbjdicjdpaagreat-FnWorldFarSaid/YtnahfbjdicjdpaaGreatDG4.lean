/-
  What the rows of this claim stand on, part 4: the machine, the walks, the plain laws, as far as they are used.
  No condition.
-/
import Derived.Test.YtnahfbjdicjdpaaGreatDG3
import Derived.Test.YtnahfbjdicjdpaaGreatProg
namespace Go.Proofs.YtnahfbjdicjdpaaGreat.Sym
open Go
def types : List (Nat × TI) :=
  [(2, ⟨1, false, [], 0, none, some .i64, [.int .i64 0], 8, false, [none]⟩),
   (3, ⟨1, false, [], 0, none, some .i64, [.int .i64 0], 8, false, [none]⟩),
   (4, ⟨1, false, [], 0, none, none, [.bool false], 1, false, [none]⟩),
   (5, ⟨1, false, [], 0, none, some .u8, [.int .u8 0], 1, false, [none]⟩),
   (12, ⟨1, false, [], 0, none, some .u64, [.int .u64 0], 8, false, [none]⟩),
   (21, ⟨1, false, [], 0, none, some .i32, [.int .i32 0], 4, false, [none]⟩),
   (22, ⟨1, false, [], 5, some .byte, none, [.nilsl], 24, false, [some .byte]⟩),
   (23, ⟨1, false, [], 33, some .body, none, [.nilsl], 24, false, [some .body]⟩),
   (28, ⟨3, true, [(0, 1), (1, 1), (2, 1)], 0, none, none, [.int .i64 0, .int .i64 0, .int .i64 0], 24, true, [none, none, none]⟩),
   (29, ⟨3, true, [(0, 1), (1, 1), (2, 1)], 0, none, none, [.int .i64 0, .int .i64 0, .int .i64 0], 24, true, [none, none, none]⟩),
   (30, ⟨2, true, [(0, 1), (1, 1)], 0, none, none, [.int .i64 0, .int .i64 0], 16, true, [none, none]⟩),
   (31, ⟨2, true, [(0, 1), (1, 1)], 0, none, none, [.int .i64 0, .int .i64 0], 16, true, [none, none]⟩),
   (32, ⟨12, true, [(0, 1), (1, 3), (4, 2), (6, 2), (8, 1), (9, 1), (10, 1), (11, 1)], 0, none, none, [.int .i64 0, .int .i64 0, .int .i64 0, .int .i64 0, .int .i64 0, .int .i64 0, .int .i64 0, .int .i64 0, .int .i64 0, .int .i64 0, .int .i64 0, .int .i64 0], 96, true, [none, none, none, none, none, none, none, none, none, none, none, none]⟩),
   (33, ⟨12, true, [(0, 1), (1, 3), (4, 2), (6, 2), (8, 1), (9, 1), (10, 1), (11, 1)], 0, none, none, [.int .i64 0, .int .i64 0, .int .i64 0, .int .i64 0, .int .i64 0, .int .i64 0, .int .i64 0, .int .i64 0, .int .i64 0, .int .i64 0, .int .i64 0, .int .i64 0], 96, true, [none, none, none, none, none, none, none, none, none, none, none, none]⟩),
   (35, ⟨1, false, [], 3, some .int, none, [.nilsl], 24, false, [some .int]⟩),
   (37, ⟨1, false, [], 4, some .bool, none, [.nilsl], 24, false, [some .bool]⟩),
   (39, ⟨1, false, [], 45, some .contact, none, [.nilsl], 24, false, [some .contact]⟩),
   (42, ⟨3, true, [(0, 2), (2, 1)], 0, none, none, [.int .i64 0, .int .i64 0, .int .i64 0], 24, true, [none, none, none]⟩),
   (43, ⟨3, true, [(0, 2), (2, 1)], 0, none, none, [.int .i64 0, .int .i64 0, .int .i64 0], 24, true, [none, none, none]⟩),
   (44, ⟨5, true, [(0, 1), (1, 1), (2, 3)], 0, none, none, [.int .i64 0, .int .i64 0, .int .i64 0, .int .i64 0, .int .i64 0], 40, true, [none, none, none, none, none]⟩),
   (45, ⟨5, true, [(0, 1), (1, 1), (2, 3)], 0, none, none, [.int .i64 0, .int .i64 0, .int .i64 0, .int .i64 0, .int .i64 0], 40, true, [none, none, none, none, none]⟩),
   (52, ⟨1, false, [], 62, some .pair, none, [.nilsl], 24, false, [some .pair]⟩),
   (53, ⟨4, true, [(0, 1), (1, 1), (2, 1), (3, 1)], 0, none, none, [.int .i64 0, .int .i64 0, .nilsl, .nilsl], 64, false, [none, none, some .body, some .pair]⟩),
   (54, ⟨4, true, [(0, 1), (1, 1), (2, 1), (3, 1)], 0, none, none, [.int .i64 0, .int .i64 0, .nilsl, .nilsl], 64, false, [none, none, some .body, some .pair]⟩),
   (56, ⟨1, false, [], 64, some .event, none, [.nilsl], 24, false, [some .event]⟩),
   (61, ⟨2, true, [(0, 1), (1, 1)], 0, none, none, [.int .i64 0, .int .i64 0], 16, true, [none, none]⟩),
   (62, ⟨2, true, [(0, 1), (1, 1)], 0, none, none, [.int .i64 0, .int .i64 0], 16, true, [none, none]⟩),
   (63, ⟨3, true, [(0, 1), (1, 2)], 0, none, none, [.bool false, .int .i64 0, .int .i64 0], 24, true, [none, none, none]⟩),
   (64, ⟨3, true, [(0, 1), (1, 2)], 0, none, none, [.bool false, .int .i64 0, .int .i64 0], 24, true, [none, none, none]⟩),
   (75, ⟨1, false, [], 0, none, none, [.nilp], 8, false, [none]⟩),
   (81, ⟨1, false, [], 0, none, none, [.nilp], 8, false, [none]⟩),
   (104, ⟨2, true, [(0, 1), (1, 1)], 0, none, none, [.nilsl, .int .i64 0], 32, false, [some .byte, none]⟩),
   (105, ⟨2, true, [(0, 1), (1, 1)], 0, none, none, [.nilsl, .int .i64 0], 32, false, [some .byte, none]⟩),
   (135, ⟨4, true, [(0, 2), (2, 2)], 0, none, none, [.int .i64 0, .int .i64 0, .int .i64 0, .int .i64 0], 32, true, [none, none, none, none]⟩),
   (136, ⟨4, true, [(0, 2), (2, 2)], 0, none, none, [.int .i64 0, .int .i64 0, .int .i64 0, .int .i64 0], 32, true, [none, none, none, none]⟩),
   (150, ⟨1, false, [], 43, some .hit, none, [.nilsl], 24, false, [some .hit]⟩),
   (166, ⟨1, false, [], 0, none, none, [.nilp], 8, false, [none]⟩)]
def tt (t : Nat) : Option TI := look types t
theorem types_ok : typesOk Go.Proofs.Tryz.prog types = true := by kernel_rfl
end Go.Proofs.YtnahfbjdicjdpaaGreat.Sym

namespace Go.Proofs.YtnahfbjdicjdpaaGreat.Sym
open Go
set_option linter.unusedVariables false
set_option linter.unusedSimpArgs false
set_option maxRecDepth 100000

theorem pre_of {p q : Prop} (h1 : p) (h2 : p → q) : p ∧ q := ⟨h1, h2 h1⟩

abbrev W (n : Int) : Int := IntKind.i64.wrap n

def isIn (n a b : Int) : Bool := decide (a ≤ n) && decide (n ≤ b)
def placeOk (p : Vec) : Bool := isIn p.X (-2560000) 2560000 && isIn p.Y (-2560000) 2560000
def plus (a b : Vec) : Vec := ⟨W (a.X + b.X), W (a.Y + b.Y)⟩
def minus (a b : Vec) : Vec := ⟨W (a.X - b.X), W (a.Y - b.Y)⟩
def square (a : Vec) : Int := W (W (a.X * a.X) + W (a.Y * a.Y))
def scaled (a : Vec) (n : Int) : Vec := ⟨W ((W (a.X * n)).tdiv 256), W ((W (a.Y * n)).tdiv 256)⟩
theorem mixed : Tryz.prog.follows .mixedOrders = true := by kernel_rfl
theorem tt_ok : TabOk Tryz.prog tt := tabOk_of types_ok

def fs_in_ : Fs := ⟨[], fun args H => match args, H with
  | [.int .i64 n, .int .i64 a, .int .i64 b], [] => some (none, .bool (isIn n a b), [])
  | _, _ => none⟩

theorem vc_in_ (n : Int) (a : Int) (b : Int) (Q : SV → List Ent → Prop) :
    fnVC tt (look []) L0 Tryz.f52 [.int .i64 n, .int .i64 a, .int .i64 b] [] Q =
    (ifB (decide (n ≥ a)) (Q (SV.bool (decide (n ≤ b))) []) (Q (SV.bool false) [])) := by kernel_rfl

theorem ok_in_ : FsOk Tryz.prog 52 fs_in_ := fsOk_of tt_ok tabFs_nil mixed Tryz.func52 (by kernel_rfl) (by kernel_rfl) (by
    intro args LL p r HH h hp
    unfold fs_in_ at h
    dsimp only at h
    split at h
    case h_2 => cases h
    rename_i n a b
    simp only [Option.some.injEq, Prod.mk.injEq] at h
    obtain ⟨rfl, rfl, rfl⟩ := h
    refine ⟨by simp [Form, stays], L0, ?_⟩
    rw [vc_in_]
    try dsimp only

    repeat' (first | refine ifB_of (fun _ => ?_) (fun _ => ?_) | refine pre_of ?_ (fun _ => ?_))
    all_goals first
      | rfl
      | (simp only [W, isIn, *, cond_true, cond_false, Bool.true_and, Bool.false_and, Bool.and_true, Bool.and_false, Bool.not_true, Bool.not_false, and_self, true_and]; done)
      | (simp_all [W, isIn]; done)
      | (simp_all [W, isIn] <;> omega))

def fs_l1In : Fs := ⟨[], fun args H => match args, H with
  | [.int .i64 n, .int .i64 a, .int .i64 b], [] => some (none, .bool (isIn n a b), [])
  | _, _ => none⟩

theorem vc_l1In (n : Int) (a : Int) (b : Int) (Q : SV → List Ent → Prop) :
    fnVC tt (look []) L0 Tryz.f62 [.int .i64 n, .int .i64 a, .int .i64 b] [] Q =
    (ifB (decide (n ≥ a)) (Q (SV.bool (decide (n ≤ b))) []) (Q (SV.bool false) [])) := by kernel_rfl

theorem ok_l1In : FsOk Tryz.prog 62 fs_l1In := fsOk_of tt_ok tabFs_nil mixed Tryz.func62 (by kernel_rfl) (by kernel_rfl) (by
    intro args LL p r HH h hp
    unfold fs_l1In at h
    dsimp only at h
    split at h
    case h_2 => cases h
    rename_i n a b
    simp only [Option.some.injEq, Prod.mk.injEq] at h
    obtain ⟨rfl, rfl, rfl⟩ := h
    refine ⟨by simp [Form, stays], L0, ?_⟩
    rw [vc_l1In]
    try dsimp only

    repeat' (first | refine ifB_of (fun _ => ?_) (fun _ => ?_) | refine pre_of ?_ (fun _ => ?_))
    all_goals first
      | rfl
      | (simp only [W, isIn, *, cond_true, cond_false, Bool.true_and, Bool.false_and, Bool.and_true, Bool.and_false, Bool.not_true, Bool.not_false, and_self, true_and]; done)
      | (simp_all [W, isIn]; done)
      | (simp_all [W, isIn] <;> omega))

def fs_isPlace : Fs := ⟨[], fun args H => match args, H with
  | [.agg [.int .i64 pX, .int .i64 pY]], [] => some (none, .bool (placeOk (Vec.mk pX pY)), [])
  | _, _ => none⟩

theorem vc_isPlace (pX : Int) (pY : Int) (Q : SV → List Ent → Prop) :
    fnVC tt (look [(52, fs_in_)]) L0 Tryz.f109 [.agg [.int .i64 pX, .int .i64 pY]] [] Q =
    (ifB (isIn pX (-2560000 : Int) (2560000 : Int)) (Q (SV.bool (isIn pY (-2560000 : Int) (2560000 : Int))) []) (Q (SV.bool false) [])) := by kernel_rfl

theorem ok_isPlace : FsOk Tryz.prog 109 fs_isPlace := fsOk_of tt_ok (tabFs_cons ok_in_ tabFs_nil) mixed Tryz.func109 (by kernel_rfl) (by kernel_rfl) (by
    intro args LL p r HH h hp
    unfold fs_isPlace at h
    dsimp only at h
    split at h
    case h_2 => cases h
    rename_i pX pY
    simp only [Option.some.injEq, Prod.mk.injEq] at h
    obtain ⟨rfl, rfl, rfl⟩ := h
    refine ⟨by simp [Form, stays], L0, ?_⟩
    rw [vc_isPlace]
    try dsimp only

    repeat' (first | refine ifB_of (fun _ => ?_) (fun _ => ?_) | refine pre_of ?_ (fun _ => ?_))
    all_goals first
      | rfl
      | (simp only [W, placeOk, *, cond_true, cond_false, Bool.true_and, Bool.false_and, Bool.and_true, Bool.and_false, Bool.not_true, Bool.not_false, and_self, true_and]; done)
      | (simp_all [W, placeOk]; done)
      | (simp_all [W, placeOk] <;> omega))

def fs_l3Place : Fs := ⟨[], fun args H => match args, H with
  | [.agg [.int .i64 pX, .int .i64 pY]], [] => some (none, .bool (placeOk (Vec.mk pX pY)), [])
  | _, _ => none⟩

theorem vc_l3Place (pX : Int) (pY : Int) (Q : SV → List Ent → Prop) :
    fnVC tt (look [(62, fs_l1In)]) L0 Tryz.f112 [.agg [.int .i64 pX, .int .i64 pY]] [] Q =
    (ifB (isIn pX (-2560000 : Int) (2560000 : Int)) (Q (SV.bool (isIn pY (-2560000 : Int) (2560000 : Int))) []) (Q (SV.bool false) [])) := by kernel_rfl

theorem ok_l3Place : FsOk Tryz.prog 112 fs_l3Place := fsOk_of tt_ok (tabFs_cons ok_l1In tabFs_nil) mixed Tryz.func112 (by kernel_rfl) (by kernel_rfl) (by
    intro args LL p r HH h hp
    unfold fs_l3Place at h
    dsimp only at h
    split at h
    case h_2 => cases h
    rename_i pX pY
    simp only [Option.some.injEq, Prod.mk.injEq] at h
    obtain ⟨rfl, rfl, rfl⟩ := h
    refine ⟨by simp [Form, stays], L0, ?_⟩
    rw [vc_l3Place]
    try dsimp only

    repeat' (first | refine ifB_of (fun _ => ?_) (fun _ => ?_) | refine pre_of ?_ (fun _ => ?_))
    all_goals first
      | rfl
      | (simp only [W, placeOk, *, cond_true, cond_false, Bool.true_and, Bool.false_and, Bool.and_true, Bool.and_false, Bool.not_true, Bool.not_false, and_self, true_and]; done)
      | (simp_all [W, placeOk]; done)
      | (simp_all [W, placeOk] <;> omega))

def fs_vecPlus : Fs := ⟨[], fun args H => match args, H with
  | [.agg [.int .i64 aX, .int .i64 aY], .agg [.int .i64 bX, .int .i64 bY]], [] => some (none, .agg [.int .i64 (plus (Vec.mk aX aY) (Vec.mk bX bY)).X, .int .i64 (plus (Vec.mk aX aY) (Vec.mk bX bY)).Y], [])
  | _, _ => none⟩

theorem vc_vecPlus (aX : Int) (aY : Int) (bX : Int) (bY : Int) (Q : SV → List Ent → Prop) :
    fnVC tt (look []) L0 Tryz.f93 [.agg [.int .i64 aX, .int .i64 aY], .agg [.int .i64 bX, .int .i64 bY]] [] Q =
    (Q (SV.agg [SV.int IntKind.i64 (IntKind.wrap IntKind.i64 (aX + bX)), SV.int IntKind.i64 (IntKind.wrap IntKind.i64 (aY + bY))]) []) := by kernel_rfl

theorem ok_vecPlus : FsOk Tryz.prog 93 fs_vecPlus := fsOk_of tt_ok tabFs_nil mixed Tryz.func93 (by kernel_rfl) (by kernel_rfl) (by
    intro args LL p r HH h hp
    unfold fs_vecPlus at h
    dsimp only at h
    split at h
    case h_2 => cases h
    rename_i aX aY bX bY
    simp only [Option.some.injEq, Prod.mk.injEq] at h
    obtain ⟨rfl, rfl, rfl⟩ := h
    refine ⟨by simp [Form, stays], L0, ?_⟩
    rw [vc_vecPlus]
    try dsimp only

    repeat' (first | refine ifB_of (fun _ => ?_) (fun _ => ?_) | refine pre_of ?_ (fun _ => ?_))
    all_goals first
      | rfl
      | (simp only [W, plus, *, cond_true, cond_false, Bool.true_and, Bool.false_and, Bool.and_true, Bool.and_false, Bool.not_true, Bool.not_false, and_self, true_and]; done)
      | (simp_all [W, plus]; done)
      | (simp_all [W, plus] <;> omega))

def fs_vecMinus : Fs := ⟨[], fun args H => match args, H with
  | [.agg [.int .i64 aX, .int .i64 aY], .agg [.int .i64 bX, .int .i64 bY]], [] => some (none, .agg [.int .i64 (minus (Vec.mk aX aY) (Vec.mk bX bY)).X, .int .i64 (minus (Vec.mk aX aY) (Vec.mk bX bY)).Y], [])
  | _, _ => none⟩

theorem vc_vecMinus (aX : Int) (aY : Int) (bX : Int) (bY : Int) (Q : SV → List Ent → Prop) :
    fnVC tt (look []) L0 Tryz.f159 [.agg [.int .i64 aX, .int .i64 aY], .agg [.int .i64 bX, .int .i64 bY]] [] Q =
    (Q (SV.agg [SV.int IntKind.i64 (IntKind.wrap IntKind.i64 (aX - bX)), SV.int IntKind.i64 (IntKind.wrap IntKind.i64 (aY - bY))]) []) := by kernel_rfl

theorem ok_vecMinus : FsOk Tryz.prog 159 fs_vecMinus := fsOk_of tt_ok tabFs_nil mixed Tryz.func159 (by kernel_rfl) (by kernel_rfl) (by
    intro args LL p r HH h hp
    unfold fs_vecMinus at h
    dsimp only at h
    split at h
    case h_2 => cases h
    rename_i aX aY bX bY
    simp only [Option.some.injEq, Prod.mk.injEq] at h
    obtain ⟨rfl, rfl, rfl⟩ := h
    refine ⟨by simp [Form, stays], L0, ?_⟩
    rw [vc_vecMinus]
    try dsimp only

    repeat' (first | refine ifB_of (fun _ => ?_) (fun _ => ?_) | refine pre_of ?_ (fun _ => ?_))
    all_goals first
      | rfl
      | (simp only [W, minus, *, cond_true, cond_false, Bool.true_and, Bool.false_and, Bool.and_true, Bool.and_false, Bool.not_true, Bool.not_false, and_self, true_and]; done)
      | (simp_all [W, minus]; done)
      | (simp_all [W, minus] <;> omega))

def fs_vecSquare : Fs := ⟨[], fun args H => match args, H with
  | [.agg [.int .i64 aX, .int .i64 aY]], [] => some (none, .int .i64 (square (Vec.mk aX aY)), [])
  | _, _ => none⟩

theorem vc_vecSquare (aX : Int) (aY : Int) (Q : SV → List Ent → Prop) :
    fnVC tt (look []) L0 Tryz.f160 [.agg [.int .i64 aX, .int .i64 aY]] [] Q =
    (Q (SV.int IntKind.i64 (IntKind.wrap IntKind.i64 (IntKind.wrap IntKind.i64 (aX * aX) + IntKind.wrap IntKind.i64 (aY * aY)))) []) := by kernel_rfl

theorem ok_vecSquare : FsOk Tryz.prog 160 fs_vecSquare := fsOk_of tt_ok tabFs_nil mixed Tryz.func160 (by kernel_rfl) (by kernel_rfl) (by
    intro args LL p r HH h hp
    unfold fs_vecSquare at h
    dsimp only at h
    split at h
    case h_2 => cases h
    rename_i aX aY
    simp only [Option.some.injEq, Prod.mk.injEq] at h
    obtain ⟨rfl, rfl, rfl⟩ := h
    refine ⟨by simp [Form, stays], L0, ?_⟩
    rw [vc_vecSquare]
    try dsimp only

    repeat' (first | refine ifB_of (fun _ => ?_) (fun _ => ?_) | refine pre_of ?_ (fun _ => ?_))
    all_goals first
      | rfl
      | (simp only [W, square, *, cond_true, cond_false, Bool.true_and, Bool.false_and, Bool.and_true, Bool.and_false, Bool.not_true, Bool.not_false, and_self, true_and]; done)
      | (simp_all [W, square]; done)
      | (simp_all [W, square] <;> omega))

def fs_l2Square : Fs := ⟨[], fun args H => match args, H with
  | [.agg [.int .i64 aX, .int .i64 aY]], [] => some (none, .int .i64 (square (Vec.mk aX aY)), [])
  | _, _ => none⟩

theorem vc_l2Square (aX : Int) (aY : Int) (Q : SV → List Ent → Prop) :
    fnVC tt (look []) L0 Tryz.f166 [.agg [.int .i64 aX, .int .i64 aY]] [] Q =
    (Q (SV.int IntKind.i64 (IntKind.wrap IntKind.i64 (IntKind.wrap IntKind.i64 (aX * aX) + IntKind.wrap IntKind.i64 (aY * aY)))) []) := by kernel_rfl

theorem ok_l2Square : FsOk Tryz.prog 166 fs_l2Square := fsOk_of tt_ok tabFs_nil mixed Tryz.func166 (by kernel_rfl) (by kernel_rfl) (by
    intro args LL p r HH h hp
    unfold fs_l2Square at h
    dsimp only at h
    split at h
    case h_2 => cases h
    rename_i aX aY
    simp only [Option.some.injEq, Prod.mk.injEq] at h
    obtain ⟨rfl, rfl, rfl⟩ := h
    refine ⟨by simp [Form, stays], L0, ?_⟩
    rw [vc_l2Square]
    try dsimp only

    repeat' (first | refine ifB_of (fun _ => ?_) (fun _ => ?_) | refine pre_of ?_ (fun _ => ?_))
    all_goals first
      | rfl
      | (simp only [W, square, *, cond_true, cond_false, Bool.true_and, Bool.false_and, Bool.and_true, Bool.and_false, Bool.not_true, Bool.not_false, and_self, true_and]; done)
      | (simp_all [W, square]; done)
      | (simp_all [W, square] <;> omega))

def fs_vecScaled : Fs := ⟨[], fun args H => match args, H with
  | [.agg [.int .i64 aX, .int .i64 aY], .int .i64 n], [] => some (none, .agg [.int .i64 (scaled (Vec.mk aX aY) n).X, .int .i64 (scaled (Vec.mk aX aY) n).Y], [])
  | _, _ => none⟩

theorem vc_vecScaled (aX : Int) (aY : Int) (n : Int) (Q : SV → List Ent → Prop) :
    fnVC tt (look []) L0 Tryz.f95 [.agg [.int .i64 aX, .int .i64 aY], .int .i64 n] [] Q =
    (Q (SV.agg [SV.int IntKind.i64 (IntKind.wrap IntKind.i64 (Int.tdiv (IntKind.wrap IntKind.i64 (aX * n)) (256 : Int))), SV.int IntKind.i64 (IntKind.wrap IntKind.i64 (Int.tdiv (IntKind.wrap IntKind.i64 (aY * n)) (256 : Int)))]) []) := by kernel_rfl

theorem ok_vecScaled : FsOk Tryz.prog 95 fs_vecScaled := fsOk_of tt_ok tabFs_nil mixed Tryz.func95 (by kernel_rfl) (by kernel_rfl) (by
    intro args LL p r HH h hp
    unfold fs_vecScaled at h
    dsimp only at h
    split at h
    case h_2 => cases h
    rename_i aX aY n
    simp only [Option.some.injEq, Prod.mk.injEq] at h
    obtain ⟨rfl, rfl, rfl⟩ := h
    refine ⟨by simp [Form, stays], L0, ?_⟩
    rw [vc_vecScaled]
    try dsimp only

    repeat' (first | refine ifB_of (fun _ => ?_) (fun _ => ?_) | refine pre_of ?_ (fun _ => ?_))
    all_goals first
      | rfl
      | (simp only [W, scaled, *, cond_true, cond_false, Bool.true_and, Bool.false_and, Bool.and_true, Bool.and_false, Bool.not_true, Bool.not_false, and_self, true_and]; done)
      | (simp_all [W, scaled]; done)
      | (simp_all [W, scaled] <;> omega))


end Go.Proofs.YtnahfbjdicjdpaaGreat.Sym

namespace Go.Proofs.YtnahfbjdicjdpaaGreat.Sym
open Go
set_option linter.unusedVariables false
set_option linter.unusedSimpArgs false
set_option maxRecDepth 100000

def bounds (s : Shape) (p : Vec) : Box :=
  bif s.Kind == 1 then ⟨⟨W (p.X - s.Wide), W (p.Y - s.Wide)⟩, ⟨W (p.X + s.Wide), W (p.Y + s.Wide)⟩⟩
  else ⟨⟨W (p.X - s.Wide), W (p.Y - s.High)⟩, ⟨W (p.X + s.Wide), W (p.Y + s.High)⟩⟩
def hasPoint (b : Box) (p : Vec) : Bool := isIn p.X b.Low.X b.High.X && isIn p.Y b.Low.Y b.High.Y
theorem wrap_small {n : Int} (h1 : -9223372036854775808 ≤ n) (h2 : n ≤ 9223372036854775807) : IntKind.i64.wrap n = n := by
  rw [IntKind.wrap_i64]
  omega

def fs_l3Bounds : Fs := ⟨[], fun args H => match args, H with
  | [.agg [.int .i64 sK, .int .i64 sW, .int .i64 sH], .agg [.int .i64 pX, .int .i64 pY]], [] => some (none, .agg [.int .i64 (bounds (Shape.mk sK sW sH) (Vec.mk pX pY)).Low.X, .int .i64 (bounds (Shape.mk sK sW sH) (Vec.mk pX pY)).Low.Y, .int .i64 (bounds (Shape.mk sK sW sH) (Vec.mk pX pY)).High.X, .int .i64 (bounds (Shape.mk sK sW sH) (Vec.mk pX pY)).High.Y], [])
  | _, _ => none⟩

theorem vc_l3Bounds (sK : Int) (sW : Int) (sH : Int) (pX : Int) (pY : Int) (Q : SV → List Ent → Prop) :
    fnVC tt (look []) L0 Tryz.f145 [.agg [.int .i64 sK, .int .i64 sW, .int .i64 sH], .agg [.int .i64 pX, .int .i64 pY]] [] Q =
    (ifB (sK == (1 : Int)) (Q (SV.agg [SV.int IntKind.i64 (IntKind.wrap IntKind.i64 (pX - sW)), SV.int IntKind.i64 (IntKind.wrap IntKind.i64 (pY - sW)), SV.int IntKind.i64 (IntKind.wrap IntKind.i64 (pX + sW)), SV.int IntKind.i64 (IntKind.wrap IntKind.i64 (pY + sW))]) []) (Q (SV.agg [SV.int IntKind.i64 (IntKind.wrap IntKind.i64 (pX - sW)), SV.int IntKind.i64 (IntKind.wrap IntKind.i64 (pY - sH)), SV.int IntKind.i64 (IntKind.wrap IntKind.i64 (pX + sW)), SV.int IntKind.i64 (IntKind.wrap IntKind.i64 (pY + sH))]) [])) := by kernel_rfl

theorem ok_l3Bounds : FsOk Tryz.prog 145 fs_l3Bounds := fsOk_of tt_ok tabFs_nil mixed Tryz.func145 (by kernel_rfl) (by kernel_rfl) (by
    intro args LL p r HH h hp
    unfold fs_l3Bounds at h
    dsimp only at h
    split at h
    case h_2 => cases h
    rename_i sK sW sH pX pY
    simp only [Option.some.injEq, Prod.mk.injEq] at h
    obtain ⟨rfl, rfl, rfl⟩ := h
    refine ⟨by simp [Form, stays], L0, ?_⟩
    rw [vc_l3Bounds]
    try dsimp only

    repeat' (first | refine ifB_of (fun _ => ?_) (fun _ => ?_) | refine pre_of ?_ (fun _ => ?_))
    all_goals first
      | rfl
      | (simp only [W, bounds, *, cond_true, cond_false, Bool.true_and, Bool.false_and, Bool.and_true, Bool.and_false, Bool.not_true, Bool.not_false, and_self, true_and]; done)
      | (simp_all [W, bounds]; done)
      | (simp_all [W, bounds] <;> omega))

def fs_l3Point : Fs := ⟨[], fun args H => match args, H with
  | [.agg [.int .i64 bLX, .int .i64 bLY, .int .i64 bHX, .int .i64 bHY], .agg [.int .i64 pX, .int .i64 pY]], [] => some (none, .bool (hasPoint (Box.mk (Vec.mk bLX bLY) (Vec.mk bHX bHY)) (Vec.mk pX pY)), [])
  | _, _ => none⟩

theorem vc_l3Point (bLX : Int) (bLY : Int) (bHX : Int) (bHY : Int) (pX : Int) (pY : Int) (Q : SV → List Ent → Prop) :
    fnVC tt (look [(62, fs_l1In)]) L0 Tryz.f170 [.agg [.int .i64 bLX, .int .i64 bLY, .int .i64 bHX, .int .i64 bHY], .agg [.int .i64 pX, .int .i64 pY]] [] Q =
    (ifB (isIn pX bLX bHX) (Q (SV.bool (isIn pY bLY bHY)) []) (Q (SV.bool false) [])) := by kernel_rfl

theorem ok_l3Point : FsOk Tryz.prog 170 fs_l3Point := fsOk_of tt_ok (tabFs_cons ok_l1In tabFs_nil) mixed Tryz.func170 (by kernel_rfl) (by kernel_rfl) (by
    intro args LL p r HH h hp
    unfold fs_l3Point at h
    dsimp only at h
    split at h
    case h_2 => cases h
    rename_i bLX bLY bHX bHY pX pY
    simp only [Option.some.injEq, Prod.mk.injEq] at h
    obtain ⟨rfl, rfl, rfl⟩ := h
    refine ⟨by simp [Form, stays], L0, ?_⟩
    rw [vc_l3Point]
    try dsimp only

    repeat' (first | refine ifB_of (fun _ => ?_) (fun _ => ?_) | refine pre_of ?_ (fun _ => ?_))
    all_goals first
      | rfl
      | (simp only [W, hasPoint, *, cond_true, cond_false, Bool.true_and, Bool.false_and, Bool.and_true, Bool.and_false, Bool.not_true, Bool.not_false, and_self, true_and]; done)
      | (simp_all [W, hasPoint]; done)
      | (simp_all [W, hasPoint] <;> omega))

end Go.Proofs.YtnahfbjdicjdpaaGreat.Sym

namespace Go.Proofs.YtnahfbjdicjdpaaGreat.Sym
open Go
set_option linter.unusedVariables false
set_option linter.unusedSimpArgs false
set_option maxRecDepth 100000

def shapeOk (s : Shape) : Bool :=
  if s.Kind = 1 then isIn s.Wide 1 25600 && s.High == 0 else if s.Kind = 2 then isIn s.Wide 1 25600 && isIn s.High 1 25600 else false
theorem max_b {a x : Int} : (if x > a then x else a) = max a x := by
  split
  · rw [Int.max_eq_right (by omega)]
  · rw [Int.max_eq_left (by omega)]
theorem min_b {b y : Int} : (if y < b then y else b) = min b y := by
  split
  · rw [Int.min_eq_right (by omega)]
  · rw [Int.min_eq_left (by omega)]

def fs_l3More : Fs := ⟨[], fun args H => match args, H with
  | [.int .i64 a, .int .i64 b], [] => some (none, .int .i64 (max a b), [])
  | _, _ => none⟩

theorem vc_l3More (a : Int) (b : Int) (Q : SV → List Ent → Prop) :
    fnVC tt (look []) L0 Tryz.f152 [.int .i64 a, .int .i64 b] [] Q =
    (ifB (decide (a > b)) (Q (SV.int IntKind.i64 a) []) (Q (SV.int IntKind.i64 b) [])) := by kernel_rfl

theorem ok_l3More : FsOk Tryz.prog 152 fs_l3More := fsOk_of tt_ok tabFs_nil mixed Tryz.func152 (by kernel_rfl) (by kernel_rfl) (by
    intro args LL p r HH h hp
    unfold fs_l3More at h
    dsimp only at h
    split at h
    case h_2 => cases h
    rename_i a b
    simp only [Option.some.injEq, Prod.mk.injEq] at h
    obtain ⟨rfl, rfl, rfl⟩ := h
    refine ⟨by simp [Form, stays], L0, ?_⟩
    rw [vc_l3More]
    try dsimp only
    refine ifB_of (fun h => ?_) (fun h => ?_)
    · have h : a > b := of_decide_eq_true h
      rw [Int.max_eq_left (by omega)]
      exact ⟨rfl, rfl⟩
    · have h : ¬ a > b := of_decide_eq_false h
      rw [Int.max_eq_right (by omega)]
      exact ⟨rfl, rfl⟩)

def fs_l3Less : Fs := ⟨[], fun args H => match args, H with
  | [.int .i64 a, .int .i64 b], [] => some (none, .int .i64 (min a b), [])
  | _, _ => none⟩

theorem vc_l3Less (a : Int) (b : Int) (Q : SV → List Ent → Prop) :
    fnVC tt (look []) L0 Tryz.f131 [.int .i64 a, .int .i64 b] [] Q =
    (ifB (decide (a < b)) (Q (SV.int IntKind.i64 a) []) (Q (SV.int IntKind.i64 b) [])) := by kernel_rfl

theorem ok_l3Less : FsOk Tryz.prog 131 fs_l3Less := fsOk_of tt_ok tabFs_nil mixed Tryz.func131 (by kernel_rfl) (by kernel_rfl) (by
    intro args LL p r HH h hp
    unfold fs_l3Less at h
    dsimp only at h
    split at h
    case h_2 => cases h
    rename_i a b
    simp only [Option.some.injEq, Prod.mk.injEq] at h
    obtain ⟨rfl, rfl, rfl⟩ := h
    refine ⟨by simp [Form, stays], L0, ?_⟩
    rw [vc_l3Less]
    try dsimp only
    refine ifB_of (fun h => ?_) (fun h => ?_)
    · have h : a < b := of_decide_eq_true h
      rw [Int.min_eq_left (by omega)]
      exact ⟨rfl, rfl⟩
    · have h : ¬ a < b := of_decide_eq_false h
      rw [Int.min_eq_right (by omega)]
      exact ⟨rfl, rfl⟩)


def fs_specShapeOk : Fs := ⟨[], fun args H => match args, H with
  | [.agg [.int .i64 sK, .int .i64 sW, .int .i64 sH]], [] => some (none, .bool (shapeOk (Shape.mk sK sW sH)), [])
  | _, _ => none⟩

theorem vc_specShapeOk (sK : Int) (sW : Int) (sH : Int) (Q : SV → List Ent → Prop) :
    fnVC tt (look [(62, fs_l1In)]) L0 Tryz.f111 [.agg [.int .i64 sK, .int .i64 sW, .int .i64 sH]] [] Q =
    (ifB (sK == (1 : Int)) (ifB (isIn sW (1 : Int) (25600 : Int)) (Q (SV.bool (sH == (0 : Int))) []) (Q (SV.bool false) [])) (ifB (sK == (2 : Int)) (ifB (isIn sW (1 : Int) (25600 : Int)) (Q (SV.bool (isIn sH (1 : Int) (25600 : Int))) []) (Q (SV.bool false) [])) (Q (SV.bool false) []))) := by kernel_rfl

theorem ok_specShapeOk : FsOk Tryz.prog 111 fs_specShapeOk := fsOk_of tt_ok (tabFs_cons ok_l1In tabFs_nil) mixed Tryz.func111 (by kernel_rfl) (by kernel_rfl) (by
    intro args LL p r HH h hp
    unfold fs_specShapeOk at h
    dsimp only at h
    split at h
    case h_2 => cases h
    rename_i sK sW sH
    simp only [Option.some.injEq, Prod.mk.injEq] at h
    obtain ⟨rfl, rfl, rfl⟩ := h
    refine ⟨by simp [Form, stays], L0, ?_⟩
    rw [vc_specShapeOk]
    try dsimp only

    repeat' (first | refine ifB_of (fun _ => ?_) (fun _ => ?_) | refine pre_of ?_ (fun _ => ?_))
    all_goals first
      | rfl
      | (simp only [W, shapeOk, *, cond_true, cond_false, Bool.true_and, Bool.false_and, Bool.and_true, Bool.and_false, Bool.not_true, Bool.not_false, and_self, true_and]; done)
      | (simp_all [W, shapeOk]; done)
      | (simp_all [W, shapeOk] <;> omega))

def fs_implShapeOk : Fs := ⟨[], fun args H => match args, H with
  | [.agg [.int .i64 sK, .int .i64 sW, .int .i64 sH]], [] => some (none, .bool (shapeOk (Shape.mk sK sW sH)), [])
  | _, _ => none⟩

theorem vc_implShapeOk (sK : Int) (sW : Int) (sH : Int) (Q : SV → List Ent → Prop) :
    fnVC tt (look [(52, fs_in_)]) L0 Tryz.f108 [.agg [.int .i64 sK, .int .i64 sW, .int .i64 sH]] [] Q =
    (ifB (sK == (1 : Int)) (ifB (isIn sW (1 : Int) (25600 : Int)) (Q (SV.bool (sH == (0 : Int))) []) (Q (SV.bool false) [])) (ifB (sK == (2 : Int)) (ifB (isIn sW (1 : Int) (25600 : Int)) (Q (SV.bool (isIn sH (1 : Int) (25600 : Int))) []) (Q (SV.bool false) [])) (Q (SV.bool false) []))) := by kernel_rfl

theorem ok_implShapeOk : FsOk Tryz.prog 108 fs_implShapeOk := fsOk_of tt_ok (tabFs_cons ok_in_ tabFs_nil) mixed Tryz.func108 (by kernel_rfl) (by kernel_rfl) (by
    intro args LL p r HH h hp
    unfold fs_implShapeOk at h
    dsimp only at h
    split at h
    case h_2 => cases h
    rename_i sK sW sH
    simp only [Option.some.injEq, Prod.mk.injEq] at h
    obtain ⟨rfl, rfl, rfl⟩ := h
    refine ⟨by simp [Form, stays], L0, ?_⟩
    rw [vc_implShapeOk]
    try dsimp only

    repeat' (first | refine ifB_of (fun _ => ?_) (fun _ => ?_) | refine pre_of ?_ (fun _ => ?_))
    all_goals first
      | rfl
      | (simp only [W, shapeOk, *, cond_true, cond_false, Bool.true_and, Bool.false_and, Bool.and_true, Bool.and_false, Bool.not_true, Bool.not_false, and_self, true_and]; done)
      | (simp_all [W, shapeOk]; done)
      | (simp_all [W, shapeOk] <;> omega))

def fs_implBounds : Fs := ⟨[], fun args H => match args, H with
  | [.agg [.int .i64 sK, .int .i64 sW, .int .i64 sH], .agg [.int .i64 pX, .int .i64 pY]], [] => some (none, .agg [.int .i64 (bounds (Shape.mk sK sW sH) (Vec.mk pX pY)).Low.X, .int .i64 (bounds (Shape.mk sK sW sH) (Vec.mk pX pY)).Low.Y, .int .i64 (bounds (Shape.mk sK sW sH) (Vec.mk pX pY)).High.X, .int .i64 (bounds (Shape.mk sK sW sH) (Vec.mk pX pY)).High.Y], [])
  | _, _ => none⟩

theorem vc_implBounds (sK : Int) (sW : Int) (sH : Int) (pX : Int) (pY : Int) (Q : SV → List Ent → Prop) :
    fnVC tt (look [(93, fs_vecPlus), (159, fs_vecMinus)]) L0 Tryz.f139 [.agg [.int .i64 sK, .int .i64 sW, .int .i64 sH], .agg [.int .i64 pX, .int .i64 pY]] [] Q =
    (ifB (sK == (1 : Int)) (Q (SV.agg [SV.int IntKind.i64 (Vec.X (minus (Vec.mk pX pY) (Vec.mk sW sW))), SV.int IntKind.i64 (Vec.Y (minus (Vec.mk pX pY) (Vec.mk sW sW))), SV.int IntKind.i64 (Vec.X (plus (Vec.mk pX pY) (Vec.mk sW sW))), SV.int IntKind.i64 (Vec.Y (plus (Vec.mk pX pY) (Vec.mk sW sW)))]) []) (Q (SV.agg [SV.int IntKind.i64 (Vec.X (minus (Vec.mk pX pY) (Vec.mk sW sH))), SV.int IntKind.i64 (Vec.Y (minus (Vec.mk pX pY) (Vec.mk sW sH))), SV.int IntKind.i64 (Vec.X (plus (Vec.mk pX pY) (Vec.mk sW sH))), SV.int IntKind.i64 (Vec.Y (plus (Vec.mk pX pY) (Vec.mk sW sH)))]) [])) := by kernel_rfl

theorem ok_implBounds : FsOk Tryz.prog 139 fs_implBounds := fsOk_of tt_ok (tabFs_cons ok_vecPlus (tabFs_cons ok_vecMinus tabFs_nil)) mixed Tryz.func139 (by kernel_rfl) (by kernel_rfl) (by
    intro args LL p r HH h hp
    unfold fs_implBounds at h
    dsimp only at h
    split at h
    case h_2 => cases h
    rename_i sK sW sH pX pY
    simp only [Option.some.injEq, Prod.mk.injEq] at h
    obtain ⟨rfl, rfl, rfl⟩ := h
    refine ⟨by simp [Form, stays], L0, ?_⟩
    rw [vc_implBounds]
    try dsimp only

    repeat' (first | refine ifB_of (fun _ => ?_) (fun _ => ?_) | refine pre_of ?_ (fun _ => ?_))
    all_goals first
      | rfl
      | (simp only [W, bounds, plus, minus, *, cond_true, cond_false, Bool.true_and, Bool.false_and, Bool.and_true, Bool.and_false, Bool.not_true, Bool.not_false, and_self, true_and]; done)
      | (simp_all [W, bounds, plus, minus]; done)
      | (simp_all [W, bounds, plus, minus] <;> omega))


def fs_implHasPoint : Fs := ⟨[], fun args H => match args, H with
  | [.agg [.int .i64 bLX, .int .i64 bLY, .int .i64 bHX, .int .i64 bHY], .agg [.int .i64 pX, .int .i64 pY]], [] => some (none, .bool (hasPoint (Box.mk (Vec.mk bLX bLY) (Vec.mk bHX bHY)) (Vec.mk pX pY)), [])
  | _, _ => none⟩

theorem vc_implHasPoint (bLX : Int) (bLY : Int) (bHX : Int) (bHY : Int) (pX : Int) (pY : Int) (Q : SV → List Ent → Prop) :
    fnVC tt (look [(52, fs_in_)]) L0 Tryz.f164 [.agg [.int .i64 bLX, .int .i64 bLY, .int .i64 bHX, .int .i64 bHY], .agg [.int .i64 pX, .int .i64 pY]] [] Q =
    (ifB (isIn pX bLX bHX) (Q (SV.bool (isIn pY bLY bHY)) []) (Q (SV.bool false) [])) := by kernel_rfl

theorem ok_implHasPoint : FsOk Tryz.prog 164 fs_implHasPoint := fsOk_of tt_ok (tabFs_cons ok_in_ tabFs_nil) mixed Tryz.func164 (by kernel_rfl) (by kernel_rfl) (by
    intro args LL p r HH h hp
    unfold fs_implHasPoint at h
    dsimp only at h
    split at h
    case h_2 => cases h
    rename_i bLX bLY bHX bHY pX pY
    simp only [Option.some.injEq, Prod.mk.injEq] at h
    obtain ⟨rfl, rfl, rfl⟩ := h
    refine ⟨by simp [Form, stays], L0, ?_⟩
    rw [vc_implHasPoint]
    try dsimp only

    repeat' (first | refine ifB_of (fun _ => ?_) (fun _ => ?_) | refine pre_of ?_ (fun _ => ?_))
    all_goals first
      | rfl
      | (simp only [W, hasPoint, *, cond_true, cond_false, Bool.true_and, Bool.false_and, Bool.and_true, Bool.and_false, Bool.not_true, Bool.not_false, and_self, true_and]; done)
      | (simp_all [W, hasPoint]; done)
      | (simp_all [W, hasPoint] <;> omega))

end Go.Proofs.YtnahfbjdicjdpaaGreat.Sym

namespace Go.Proofs.YtnahfbjdicjdpaaGreat.Sym
open Go
set_option linter.unusedVariables false
set_option linter.unusedSimpArgs false
set_option maxRecDepth 100000

def clampTo (m n : Int) : Int := max (-m) (min n m)
def clampV (m : Int) (v : Vec) : Vec := ⟨clampTo m v.X, clampTo m v.Y⟩
def withinI (n m : Int) : Int := max (W (0 - m)) (min n m)
def withinS (n m : Int) : Int := min (max n (W (0 - m))) m
def driveOk (p : Vec) : Bool := isIn p.X (-20000000) 20000000 && isIn p.Y (-20000000) 20000000
def zeroV (p : Vec) : Bool := p.X == 0 && p.Y == 0
def bodyOk (b : Body) : Bool :=
  isIn b.Id 0 999999999 && shapeOk b.Shape && placeOk b.At && driveOk b.Drive && isIn b.Mass 0 1000 && isIn b.Bounce 0 256 && isIn b.Rub 0 256 && isIn b.Quiet 0 8 &&
    (if b.Mass = 0 then zeroV b.Drive && b.Quiet == 0 else decide (b.Quiet < 8) || zeroV b.Drive)
def speed (b : Body) : Vec := if b.Mass = 0 then ⟨0, 0⟩ else ⟨W (b.Drive.X.tdiv b.Mass), W (b.Drive.Y.tdiv b.Mass)⟩
def vecSub (a b : Vec) : Vec := clampV 1000000000 (minus (clampV 1000000000 a) (clampV 1000000000 b))
def dotC (a b : Vec) : Int := clampTo 1000000000 (W ((W (W (a.X * b.X) + W (a.Y * b.Y))).tdiv 256))
def dot (a b : Vec) : Int := dotC (clampV 1000000000 a) (clampV 1000000000 b)
def closing (a b : Body) (way : Vec) : Int := dot (vecSub (speed a) (speed b)) way
theorem W_const {m : Int} (h0 : 0 ≤ m) (h1 : m ≤ 4611686018427387904) : W (0 - m) = -m := by
  have := wrap_small (n := 0 - m) (by omega) (by omega)
  simp only [W, this]
  omega
theorem withinI_const {m : Int} (n : Int) (h0 : 0 ≤ m) (h1 : m ≤ 4611686018427387904) : withinI n m = clampTo m n := by
  simp only [withinI, clampTo, W_const h0 h1]
theorem withinS_const {m : Int} (n : Int) (h0 : 0 ≤ m) (h1 : m ≤ 4611686018427387904) : withinS n m = clampTo m n := by
  simp only [withinS, clampTo, W_const h0 h1]
  omega
theorem clampTo_same {m n : Int} (h0 : 0 ≤ m) : (n == clampTo m n) = isIn n (-m) m := by
  simp only [clampTo, isIn]
  rw [Bool.eq_iff_iff]
  simp
  omega
theorem withinI_big (n : Int) : withinI n 1000000000 = clampTo 1000000000 n := withinI_const n (by omega) (by omega)
theorem withinI_drive (n : Int) : withinI n 20000000 = clampTo 20000000 n := withinI_const n (by omega) (by omega)
def fs_implWithin : Fs := ⟨[], fun args H => match args, H with
  | [.int .i64 n, .int .i64 m], [] => some (none, .int .i64 (withinI n m), [])
  | _, _ => none⟩

theorem vc_implWithin (n : Int) (m : Int) (Q : SV → List Ent → Prop) :
    fnVC tt (look []) L0 Tryz.f130 [.int .i64 n, .int .i64 m] [] Q =
    (Q (SV.int IntKind.i64 (if (if m < n then m else n) > IntKind.wrap IntKind.i64 ((0 : Int) - m) then if m < n then m else n else IntKind.wrap IntKind.i64 ((0 : Int) - m))) []) := by kernel_rfl

theorem ok_implWithin : FsOk Tryz.prog 130 fs_implWithin := fsOk_of tt_ok tabFs_nil mixed Tryz.func130 (by kernel_rfl) (by kernel_rfl) (by
    intro args LL p r HH h hp
    unfold fs_implWithin at h
    dsimp only at h
    split at h
    case h_2 => cases h
    rename_i n m
    simp only [Option.some.injEq, Prod.mk.injEq] at h
    obtain ⟨rfl, rfl, rfl⟩ := h
    refine ⟨by simp [Form, stays], L0, ?_⟩
    rw [vc_implWithin]
    try dsimp only
    simp only [withinI, max_b, min_b, W, and_self])

def fs_specWithin : Fs := ⟨[], fun args H => match args, H with
  | [.int .i64 n, .int .i64 m], [] => some (none, .int .i64 (withinS n m), [])
  | _, _ => none⟩

theorem vc_specWithin (n : Int) (m : Int) (Q : SV → List Ent → Prop) :
    fnVC tt (look [(152, fs_l3More), (131, fs_l3Less)]) L0 Tryz.f127 [.int .i64 n, .int .i64 m] [] Q =
    (Q (SV.int IntKind.i64 (min (max n (IntKind.wrap IntKind.i64 ((0 : Int) - m))) m)) []) := by kernel_rfl

theorem ok_specWithin : FsOk Tryz.prog 127 fs_specWithin := fsOk_of tt_ok (tabFs_cons ok_l3More (tabFs_cons ok_l3Less tabFs_nil)) mixed Tryz.func127 (by kernel_rfl) (by kernel_rfl) (by
    intro args LL p r HH h hp
    unfold fs_specWithin at h
    dsimp only at h
    split at h
    case h_2 => cases h
    rename_i n m
    simp only [Option.some.injEq, Prod.mk.injEq] at h
    obtain ⟨rfl, rfl, rfl⟩ := h
    refine ⟨by simp [Form, stays], L0, ?_⟩
    rw [vc_specWithin]
    try dsimp only

    repeat' (first | refine ifB_of (fun _ => ?_) (fun _ => ?_) | refine pre_of ?_ (fun _ => ?_))
    all_goals first
      | rfl
      | (simp only [W, withinS, *, cond_true, cond_false, Bool.true_and, Bool.false_and, Bool.and_true, Bool.and_false, Bool.not_true, Bool.not_false, and_self, true_and]; done)
      | (simp_all [W, withinS]; done)
      | (simp_all [W, withinS] <;> omega))

def fs_implFixClamp : Fs := ⟨[], fun args H => match args, H with
  | [.int .i64 n], [] => some (none, .int .i64 (clampTo 1000000000 n), [])
  | _, _ => none⟩

theorem vc_implFixClamp (n : Int) (Q : SV → List Ent → Prop) :
    fnVC tt (look [(130, fs_implWithin)]) L0 Tryz.f173 [.int .i64 n] [] Q =
    (Q (SV.int IntKind.i64 (withinI n (1000000000 : Int))) []) := by kernel_rfl

theorem ok_implFixClamp : FsOk Tryz.prog 173 fs_implFixClamp := fsOk_of tt_ok (tabFs_cons ok_implWithin tabFs_nil) mixed Tryz.func173 (by kernel_rfl) (by kernel_rfl) (by
    intro args LL p r HH h hp
    unfold fs_implFixClamp at h
    dsimp only at h
    split at h
    case h_2 => cases h
    rename_i n
    simp only [Option.some.injEq, Prod.mk.injEq] at h
    obtain ⟨rfl, rfl, rfl⟩ := h
    refine ⟨by simp [Form, stays], L0, ?_⟩
    rw [vc_implFixClamp]
    try dsimp only
    rw [withinI_big]
    exact ⟨rfl, rfl⟩)

def fs_specFixClamp : Fs := ⟨[], fun args H => match args, H with
  | [.int .i64 n], [] => some (none, .int .i64 (clampTo 1000000000 n), [])
  | _, _ => none⟩

theorem vc_specFixClamp (n : Int) (Q : SV → List Ent → Prop) :
    fnVC tt (look []) L0 Tryz.f180 [.int .i64 n] [] Q =
    (ifB (decide (n > (1000000000 : Int))) (Q (SV.int IntKind.i64 (1000000000 : Int)) []) (ifB (decide (n < (-1000000000 : Int))) (Q (SV.int IntKind.i64 (-1000000000 : Int)) []) (Q (SV.int IntKind.i64 n) []))) := by kernel_rfl

theorem ok_specFixClamp : FsOk Tryz.prog 180 fs_specFixClamp := fsOk_of tt_ok tabFs_nil mixed Tryz.func180 (by kernel_rfl) (by kernel_rfl) (by
    intro args LL p r HH h hp
    unfold fs_specFixClamp at h
    dsimp only at h
    split at h
    case h_2 => cases h
    rename_i n
    simp only [Option.some.injEq, Prod.mk.injEq] at h
    obtain ⟨rfl, rfl, rfl⟩ := h
    refine ⟨by simp [Form, stays], L0, ?_⟩
    rw [vc_specFixClamp]
    try dsimp only
    refine ifB_of (fun h => ?_) (fun h => ?_)
    · have h : n > 1000000000 := of_decide_eq_true h
      rw [show clampTo 1000000000 n = 1000000000 by simp only [clampTo]; omega]
      exact ⟨rfl, rfl⟩
    have h : ¬ n > 1000000000 := of_decide_eq_false h
    refine ifB_of (fun h2 => ?_) (fun h2 => ?_)
    · have h2 : n < -1000000000 := of_decide_eq_true h2
      rw [show clampTo 1000000000 n = -1000000000 by simp only [clampTo]; omega]
      exact ⟨rfl, rfl⟩
    · have h2 : ¬ n < -1000000000 := of_decide_eq_false h2
      rw [show clampTo 1000000000 n = n by simp only [clampTo]; omega]
      exact ⟨rfl, rfl⟩)

def fs_vecClamped : Fs := ⟨[], fun args H => match args, H with
  | [.agg [.int .i64 vX, .int .i64 vY], .int .i64 m], [] => some (none, .agg [.int .i64 (Vec.mk (withinI (Vec.mk vX vY).X m) (withinI (Vec.mk vX vY).Y m)).X, .int .i64 (Vec.mk (withinI (Vec.mk vX vY).X m) (withinI (Vec.mk vX vY).Y m)).Y], [])
  | _, _ => none⟩

theorem vc_vecClamped (vX : Int) (vY : Int) (m : Int) (Q : SV → List Ent → Prop) :
    fnVC tt (look [(130, fs_implWithin)]) L0 Tryz.f94 [.agg [.int .i64 vX, .int .i64 vY], .int .i64 m] [] Q =
    (Q (SV.agg [SV.int IntKind.i64 (withinI vX m), SV.int IntKind.i64 (withinI vY m)]) []) := by kernel_rfl

theorem ok_vecClamped : FsOk Tryz.prog 94 fs_vecClamped := fsOk_of tt_ok (tabFs_cons ok_implWithin tabFs_nil) mixed Tryz.func94 (by kernel_rfl) (by kernel_rfl) (by
    intro args LL p r HH h hp
    unfold fs_vecClamped at h
    dsimp only at h
    split at h
    case h_2 => cases h
    rename_i vX vY m
    simp only [Option.some.injEq, Prod.mk.injEq] at h
    obtain ⟨rfl, rfl, rfl⟩ := h
    refine ⟨by simp [Form, stays], L0, ?_⟩
    rw [vc_vecClamped]
    try dsimp only

    repeat' (first | refine ifB_of (fun _ => ?_) (fun _ => ?_) | refine pre_of ?_ (fun _ => ?_))
    all_goals first
      | rfl
      | (simp only [W, withinI, *, cond_true, cond_false, Bool.true_and, Bool.false_and, Bool.and_true, Bool.and_false, Bool.not_true, Bool.not_false, and_self, true_and]; done)
      | (simp_all [W, withinI]; done)
      | (simp_all [W, withinI] <;> omega))

def fs_l2Clamp : Fs := ⟨[], fun args H => match args, H with
  | [.agg [.int .i64 vX, .int .i64 vY]], [] => some (none, .agg [.int .i64 (clampV 1000000000 (Vec.mk vX vY)).X, .int .i64 (clampV 1000000000 (Vec.mk vX vY)).Y], [])
  | _, _ => none⟩

theorem vc_l2Clamp (vX : Int) (vY : Int) (Q : SV → List Ent → Prop) :
    fnVC tt (look [(180, fs_specFixClamp)]) L0 Tryz.f179 [.agg [.int .i64 vX, .int .i64 vY]] [] Q =
    (Q (SV.agg [SV.int IntKind.i64 (clampTo (1000000000 : Int) vX), SV.int IntKind.i64 (clampTo (1000000000 : Int) vY)]) []) := by kernel_rfl

theorem ok_l2Clamp : FsOk Tryz.prog 179 fs_l2Clamp := fsOk_of tt_ok (tabFs_cons ok_specFixClamp tabFs_nil) mixed Tryz.func179 (by kernel_rfl) (by kernel_rfl) (by
    intro args LL p r HH h hp
    unfold fs_l2Clamp at h
    dsimp only at h
    split at h
    case h_2 => cases h
    rename_i vX vY
    simp only [Option.some.injEq, Prod.mk.injEq] at h
    obtain ⟨rfl, rfl, rfl⟩ := h
    refine ⟨by simp [Form, stays], L0, ?_⟩
    rw [vc_l2Clamp]
    try dsimp only

    repeat' (first | refine ifB_of (fun _ => ?_) (fun _ => ?_) | refine pre_of ?_ (fun _ => ?_))
    all_goals first
      | rfl
      | (simp only [W, clampV, *, cond_true, cond_false, Bool.true_and, Bool.false_and, Bool.and_true, Bool.and_false, Bool.not_true, Bool.not_false, and_self, true_and]; done)
      | (simp_all [W, clampV]; done)
      | (simp_all [W, clampV] <;> omega))

def fs_isDrive : Fs := ⟨[], fun args H => match args, H with
  | [.agg [.int .i64 vX, .int .i64 vY]], [] => some (none, .bool (driveOk (Vec.mk vX vY)), [])
  | _, _ => none⟩

theorem vc_isDrive (vX : Int) (vY : Int) (Q : SV → List Ent → Prop) :
    fnVC tt (look [(94, fs_vecClamped)]) L0 Tryz.f110 [.agg [.int .i64 vX, .int .i64 vY]] [] Q =
    (Q (SV.bool (vX == withinI vX (20000000 : Int) && vY == withinI vY (20000000 : Int))) []) := by kernel_rfl

theorem ok_isDrive : FsOk Tryz.prog 110 fs_isDrive := fsOk_of tt_ok (tabFs_cons ok_vecClamped tabFs_nil) mixed Tryz.func110 (by kernel_rfl) (by kernel_rfl) (by
    intro args LL p r HH h hp
    unfold fs_isDrive at h
    dsimp only at h
    split at h
    case h_2 => cases h
    rename_i vX vY
    simp only [Option.some.injEq, Prod.mk.injEq] at h
    obtain ⟨rfl, rfl, rfl⟩ := h
    refine ⟨by simp [Form, stays], L0, ?_⟩
    rw [vc_isDrive]
    try dsimp only
    simp only [withinI_drive, clampTo_same (show (0 : Int) ≤ 20000000 by omega), driveOk, and_self])

def fs_l6Drive : Fs := ⟨[], fun args H => match args, H with
  | [.agg [.int .i64 vX, .int .i64 vY]], [] => some (none, .bool (driveOk (Vec.mk vX vY)), [])
  | _, _ => none⟩

theorem vc_l6Drive (vX : Int) (vY : Int) (Q : SV → List Ent → Prop) :
    fnVC tt (look [(62, fs_l1In)]) L0 Tryz.f113 [.agg [.int .i64 vX, .int .i64 vY]] [] Q =
    (ifB (isIn vX (-20000000 : Int) (20000000 : Int)) (Q (SV.bool (isIn vY (-20000000 : Int) (20000000 : Int))) []) (Q (SV.bool false) [])) := by kernel_rfl

theorem ok_l6Drive : FsOk Tryz.prog 113 fs_l6Drive := fsOk_of tt_ok (tabFs_cons ok_l1In tabFs_nil) mixed Tryz.func113 (by kernel_rfl) (by kernel_rfl) (by
    intro args LL p r HH h hp
    unfold fs_l6Drive at h
    dsimp only at h
    split at h
    case h_2 => cases h
    rename_i vX vY
    simp only [Option.some.injEq, Prod.mk.injEq] at h
    obtain ⟨rfl, rfl, rfl⟩ := h
    refine ⟨by simp [Form, stays], L0, ?_⟩
    rw [vc_l6Drive]
    try dsimp only

    repeat' (first | refine ifB_of (fun _ => ?_) (fun _ => ?_) | refine pre_of ?_ (fun _ => ?_))
    all_goals first
      | rfl
      | (simp only [W, driveOk, *, cond_true, cond_false, Bool.true_and, Bool.false_and, Bool.and_true, Bool.and_false, Bool.not_true, Bool.not_false, and_self, true_and]; done)
      | (simp_all [W, driveOk]; done)
      | (simp_all [W, driveOk] <;> omega))

def fs_bodyFixed : Fs := ⟨[], fun args H => match args, H with
  | [.agg [.int .i64 bI, .int .i64 bK, .int .i64 bW, .int .i64 bH, .int .i64 bX, .int .i64 bY, .int .i64 bU, .int .i64 bV, .int .i64 bM, .int .i64 bB, .int .i64 bR, .int .i64 bQ]], [] => some (none, .bool ((Body.mk bI (Shape.mk bK bW bH) (Vec.mk bX bY) (Vec.mk bU bV) bM bB bR bQ).Mass == 0), [])
  | _, _ => none⟩

theorem vc_bodyFixed (bI : Int) (bK : Int) (bW : Int) (bH : Int) (bX : Int) (bY : Int) (bU : Int) (bV : Int) (bM : Int) (bB : Int) (bR : Int) (bQ : Int) (Q : SV → List Ent → Prop) :
    fnVC tt (look []) L0 Tryz.f64 [.agg [.int .i64 bI, .int .i64 bK, .int .i64 bW, .int .i64 bH, .int .i64 bX, .int .i64 bY, .int .i64 bU, .int .i64 bV, .int .i64 bM, .int .i64 bB, .int .i64 bR, .int .i64 bQ]] [] Q =
    (Q (SV.bool (bM == (0 : Int))) []) := by kernel_rfl

theorem ok_bodyFixed : FsOk Tryz.prog 64 fs_bodyFixed := fsOk_of tt_ok tabFs_nil mixed Tryz.func64 (by kernel_rfl) (by kernel_rfl) (by
    intro args LL p r HH h hp
    unfold fs_bodyFixed at h
    dsimp only at h
    split at h
    case h_2 => cases h
    rename_i bI bK bW bH bX bY bU bV bM bB bR bQ
    simp only [Option.some.injEq, Prod.mk.injEq] at h
    obtain ⟨rfl, rfl, rfl⟩ := h
    refine ⟨by simp [Form, stays], L0, ?_⟩
    rw [vc_bodyFixed]
    try dsimp only

    repeat' (first | refine ifB_of (fun _ => ?_) (fun _ => ?_) | refine pre_of ?_ (fun _ => ?_))
    all_goals first
      | rfl
      | (simp only [W, isIn, *, cond_true, cond_false, Bool.true_and, Bool.false_and, Bool.and_true, Bool.and_false, Bool.not_true, Bool.not_false, and_self, true_and]; done)
      | (simp_all [W, isIn]; done)
      | (simp_all [W, isIn] <;> omega))

def fs_bodySleeps : Fs := ⟨[], fun args H => match args, H with
  | [.agg [.int .i64 bI, .int .i64 bK, .int .i64 bW, .int .i64 bH, .int .i64 bX, .int .i64 bY, .int .i64 bU, .int .i64 bV, .int .i64 bM, .int .i64 bB, .int .i64 bR, .int .i64 bQ]], [] => some (none, .bool ((Body.mk bI (Shape.mk bK bW bH) (Vec.mk bX bY) (Vec.mk bU bV) bM bB bR bQ).Quiet == 8), [])
  | _, _ => none⟩

theorem vc_bodySleeps (bI : Int) (bK : Int) (bW : Int) (bH : Int) (bX : Int) (bY : Int) (bU : Int) (bV : Int) (bM : Int) (bB : Int) (bR : Int) (bQ : Int) (Q : SV → List Ent → Prop) :
    fnVC tt (look []) L0 Tryz.f54 [.agg [.int .i64 bI, .int .i64 bK, .int .i64 bW, .int .i64 bH, .int .i64 bX, .int .i64 bY, .int .i64 bU, .int .i64 bV, .int .i64 bM, .int .i64 bB, .int .i64 bR, .int .i64 bQ]] [] Q =
    (Q (SV.bool (bQ == (8 : Int))) []) := by kernel_rfl

theorem ok_bodySleeps : FsOk Tryz.prog 54 fs_bodySleeps := fsOk_of tt_ok tabFs_nil mixed Tryz.func54 (by kernel_rfl) (by kernel_rfl) (by
    intro args LL p r HH h hp
    unfold fs_bodySleeps at h
    dsimp only at h
    split at h
    case h_2 => cases h
    rename_i bI bK bW bH bX bY bU bV bM bB bR bQ
    simp only [Option.some.injEq, Prod.mk.injEq] at h
    obtain ⟨rfl, rfl, rfl⟩ := h
    refine ⟨by simp [Form, stays], L0, ?_⟩
    rw [vc_bodySleeps]
    try dsimp only

    repeat' (first | refine ifB_of (fun _ => ?_) (fun _ => ?_) | refine pre_of ?_ (fun _ => ?_))
    all_goals first
      | rfl
      | (simp only [W, isIn, *, cond_true, cond_false, Bool.true_and, Bool.false_and, Bool.and_true, Bool.and_false, Bool.not_true, Bool.not_false, and_self, true_and]; done)
      | (simp_all [W, isIn]; done)
      | (simp_all [W, isIn] <;> omega))

def fs_specBodyOk : Fs := ⟨[], fun args H => match args, H with
  | [.agg [.int .i64 bI, .int .i64 bK, .int .i64 bW, .int .i64 bH, .int .i64 bX, .int .i64 bY, .int .i64 bU, .int .i64 bV, .int .i64 bM, .int .i64 bB, .int .i64 bR, .int .i64 bQ]], [] => some (none, .bool (bodyOk (Body.mk bI (Shape.mk bK bW bH) (Vec.mk bX bY) (Vec.mk bU bV) bM bB bR bQ)), [])
  | _, _ => none⟩

theorem vc_specBodyOk (bI : Int) (bK : Int) (bW : Int) (bH : Int) (bX : Int) (bY : Int) (bU : Int) (bV : Int) (bM : Int) (bB : Int) (bR : Int) (bQ : Int) (Q : SV → List Ent → Prop) :
    fnVC tt (look [(62, fs_l1In), (111, fs_specShapeOk), (112, fs_l3Place), (113, fs_l6Drive)]) L0 Tryz.f68 [.agg [.int .i64 bI, .int .i64 bK, .int .i64 bW, .int .i64 bH, .int .i64 bX, .int .i64 bY, .int .i64 bU, .int .i64 bV, .int .i64 bM, .int .i64 bB, .int .i64 bR, .int .i64 bQ]] [] Q =
    (ifB (!isIn bI (0 : Int) (999999999 : Int)) (Q (SV.bool false) []) (ifB (!shapeOk (Shape.mk bK bW bH)) (Q (SV.bool false) []) (ifB (!placeOk (Vec.mk bX bY)) (Q (SV.bool false) []) (ifB (!driveOk (Vec.mk bU bV)) (Q (SV.bool false) []) (ifB (!isIn bM (0 : Int) (1000 : Int)) (Q (SV.bool false) []) (ifB (!isIn bB (0 : Int) (256 : Int)) (Q (SV.bool false) []) (ifB (!isIn bR (0 : Int) (256 : Int)) (Q (SV.bool false) []) (ifB (!isIn bQ (0 : Int) (8 : Int)) (Q (SV.bool false) []) (ifB (bM == (0 : Int)) (ifB (bU == (0 : Int) && bV == (0 : Int)) (Q (SV.bool (bQ == (0 : Int))) []) (Q (SV.bool false) [])) (ifB (decide (bQ < (8 : Int))) (Q (SV.bool true) []) (Q (SV.bool (bU == (0 : Int) && bV == (0 : Int))) []))))))))))) := by kernel_rfl

theorem ok_specBodyOk : FsOk Tryz.prog 68 fs_specBodyOk := fsOk_of tt_ok (tabFs_cons ok_l1In (tabFs_cons ok_specShapeOk (tabFs_cons ok_l3Place (tabFs_cons ok_l6Drive tabFs_nil)))) mixed Tryz.func68 (by kernel_rfl) (by kernel_rfl) (by
    intro args LL p r HH h hp
    unfold fs_specBodyOk at h
    dsimp only at h
    split at h
    case h_2 => cases h
    rename_i bI bK bW bH bX bY bU bV bM bB bR bQ
    simp only [Option.some.injEq, Prod.mk.injEq] at h
    obtain ⟨rfl, rfl, rfl⟩ := h
    refine ⟨by simp [Form, stays], L0, ?_⟩
    rw [vc_specBodyOk]
    try dsimp only

    repeat' (first | refine ifB_of (fun _ => ?_) (fun _ => ?_) | refine pre_of ?_ (fun _ => ?_))
    all_goals first
      | rfl
      | (simp only [W, bodyOk, zeroV, *, cond_true, cond_false, Bool.true_and, Bool.false_and, Bool.and_true, Bool.and_false, Bool.not_true, Bool.not_false, and_self, true_and]; done)
      | (simp_all [W, bodyOk, zeroV]; done)
      | (simp_all [W, bodyOk, zeroV] <;> omega))

def fs_implBodyOk : Fs := ⟨[], fun args H => match args, H with
  | [.agg [.int .i64 bI, .int .i64 bK, .int .i64 bW, .int .i64 bH, .int .i64 bX, .int .i64 bY, .int .i64 bU, .int .i64 bV, .int .i64 bM, .int .i64 bB, .int .i64 bR, .int .i64 bQ]], [] => some (none, .bool (bodyOk (Body.mk bI (Shape.mk bK bW bH) (Vec.mk bX bY) (Vec.mk bU bV) bM bB bR bQ)), [])
  | _, _ => none⟩

theorem vc_implBodyOk (bI : Int) (bK : Int) (bW : Int) (bH : Int) (bX : Int) (bY : Int) (bU : Int) (bV : Int) (bM : Int) (bB : Int) (bR : Int) (bQ : Int) (Q : SV → List Ent → Prop) :
    fnVC tt (look [(52, fs_in_), (108, fs_implShapeOk), (109, fs_isPlace), (110, fs_isDrive), (64, fs_bodyFixed), (54, fs_bodySleeps)]) L0 Tryz.f66 [.agg [.int .i64 bI, .int .i64 bK, .int .i64 bW, .int .i64 bH, .int .i64 bX, .int .i64 bY, .int .i64 bU, .int .i64 bV, .int .i64 bM, .int .i64 bB, .int .i64 bR, .int .i64 bQ]] [] Q =
    (ifB (!isIn bI (0 : Int) (999999999 : Int)) (Q (SV.bool false) []) (ifB (!shapeOk (Shape.mk bK bW bH)) (Q (SV.bool false) []) (ifB (!placeOk (Vec.mk bX bY)) (Q (SV.bool false) []) (ifB (!driveOk (Vec.mk bU bV)) (Q (SV.bool false) []) (ifB (!isIn bM (0 : Int) (1000 : Int)) (Q (SV.bool false) []) (ifB (!isIn bB (0 : Int) (256 : Int)) (Q (SV.bool false) []) (ifB (!isIn bR (0 : Int) (256 : Int)) (Q (SV.bool false) []) (ifB (!isIn bQ (0 : Int) (8 : Int)) (Q (SV.bool false) []) (ifB (!bM == (0 : Int)) (ifB (!bQ == (8 : Int)) (Q (SV.bool true) []) (Q (SV.bool (bU == (0 : Int) && bV == (0 : Int))) [])) (ifB (bU == (0 : Int) && bV == (0 : Int)) (ifB (bQ == (0 : Int)) (ifB (!bQ == (8 : Int)) (Q (SV.bool true) []) (Q (SV.bool (bU == (0 : Int) && bV == (0 : Int))) [])) (Q (SV.bool false) [])) (Q (SV.bool false) []))))))))))) := by kernel_rfl

theorem ok_implBodyOk : FsOk Tryz.prog 66 fs_implBodyOk := fsOk_of tt_ok (tabFs_cons ok_in_ (tabFs_cons ok_implShapeOk (tabFs_cons ok_isPlace (tabFs_cons ok_isDrive (tabFs_cons ok_bodyFixed (tabFs_cons ok_bodySleeps tabFs_nil)))))) mixed Tryz.func66 (by kernel_rfl) (by kernel_rfl) (by
    intro args LL p r HH h hp
    unfold fs_implBodyOk at h
    dsimp only at h
    split at h
    case h_2 => cases h
    rename_i bI bK bW bH bX bY bU bV bM bB bR bQ
    simp only [Option.some.injEq, Prod.mk.injEq] at h
    obtain ⟨rfl, rfl, rfl⟩ := h
    refine ⟨by simp [Form, stays], L0, ?_⟩
    rw [vc_implBodyOk]
    try dsimp only

    repeat' (first | refine ifB_of (fun _ => ?_) (fun _ => ?_) | refine pre_of ?_ (fun _ => ?_))
    all_goals first
      | rfl
      | (simp only [W, bodyOk, zeroV, isIn, *, cond_true, cond_false, Bool.true_and, Bool.false_and, Bool.and_true, Bool.and_false, Bool.not_true, Bool.not_false, and_self, true_and]; done)
      | (simp_all [W, bodyOk, zeroV, isIn]; done)
      | (simp_all [W, bodyOk, zeroV, isIn] <;> omega))

def fs_implSpeed : Fs := ⟨[], fun args H => match args, H with
  | [.agg [.int .i64 bI, .int .i64 bK, .int .i64 bW, .int .i64 bH, .int .i64 bX, .int .i64 bY, .int .i64 bU, .int .i64 bV, .int .i64 bM, .int .i64 bB, .int .i64 bR, .int .i64 bQ]], [] => some (none, .agg [.int .i64 (speed (Body.mk bI (Shape.mk bK bW bH) (Vec.mk bX bY) (Vec.mk bU bV) bM bB bR bQ)).X, .int .i64 (speed (Body.mk bI (Shape.mk bK bW bH) (Vec.mk bX bY) (Vec.mk bU bV) bM bB bR bQ)).Y], [])
  | _, _ => none⟩

theorem vc_implSpeed (bI : Int) (bK : Int) (bW : Int) (bH : Int) (bX : Int) (bY : Int) (bU : Int) (bV : Int) (bM : Int) (bB : Int) (bR : Int) (bQ : Int) (Q : SV → List Ent → Prop) :
    fnVC tt (look [(64, fs_bodyFixed)]) L0 Tryz.f58 [.agg [.int .i64 bI, .int .i64 bK, .int .i64 bW, .int .i64 bH, .int .i64 bX, .int .i64 bY, .int .i64 bU, .int .i64 bV, .int .i64 bM, .int .i64 bB, .int .i64 bR, .int .i64 bQ]] [] Q =
    (ifB (bM == (0 : Int)) (Q (SV.agg [SV.int IntKind.i64 (0 : Int), SV.int IntKind.i64 (0 : Int)]) []) (bM ≠ (0 : Int) ∧ bM ≠ (0 : Int) ∧ Q (SV.agg [SV.int IntKind.i64 (IntKind.wrap IntKind.i64 (Int.tdiv bU bM)), SV.int IntKind.i64 (IntKind.wrap IntKind.i64 (Int.tdiv bV bM))]) [])) := by kernel_rfl

theorem ok_implSpeed : FsOk Tryz.prog 58 fs_implSpeed := fsOk_of tt_ok (tabFs_cons ok_bodyFixed tabFs_nil) mixed Tryz.func58 (by kernel_rfl) (by kernel_rfl) (by
    intro args LL p r HH h hp
    unfold fs_implSpeed at h
    dsimp only at h
    split at h
    case h_2 => cases h
    rename_i bI bK bW bH bX bY bU bV bM bB bR bQ
    simp only [Option.some.injEq, Prod.mk.injEq] at h
    obtain ⟨rfl, rfl, rfl⟩ := h
    refine ⟨by simp [Form, stays], L0, ?_⟩
    rw [vc_implSpeed]
    try dsimp only

    repeat' (first | refine ifB_of (fun _ => ?_) (fun _ => ?_) | refine pre_of ?_ (fun _ => ?_))
    all_goals first
      | rfl
      | (simp only [W, speed, *, cond_true, cond_false, Bool.true_and, Bool.false_and, Bool.and_true, Bool.and_false, Bool.not_true, Bool.not_false, and_self, true_and]; done)
      | (simp_all [W, speed]; done)
      | (simp_all [W, speed] <;> omega))

def fs_specSpeed : Fs := ⟨[], fun args H => match args, H with
  | [.agg [.int .i64 bI, .int .i64 bK, .int .i64 bW, .int .i64 bH, .int .i64 bX, .int .i64 bY, .int .i64 bU, .int .i64 bV, .int .i64 bM, .int .i64 bB, .int .i64 bR, .int .i64 bQ]], [] => some (none, .agg [.int .i64 (speed (Body.mk bI (Shape.mk bK bW bH) (Vec.mk bX bY) (Vec.mk bU bV) bM bB bR bQ)).X, .int .i64 (speed (Body.mk bI (Shape.mk bK bW bH) (Vec.mk bX bY) (Vec.mk bU bV) bM bB bR bQ)).Y], [])
  | _, _ => none⟩

theorem vc_specSpeed (bI : Int) (bK : Int) (bW : Int) (bH : Int) (bX : Int) (bY : Int) (bU : Int) (bV : Int) (bM : Int) (bB : Int) (bR : Int) (bQ : Int) (Q : SV → List Ent → Prop) :
    fnVC tt (look []) L0 Tryz.f136 [.agg [.int .i64 bI, .int .i64 bK, .int .i64 bW, .int .i64 bH, .int .i64 bX, .int .i64 bY, .int .i64 bU, .int .i64 bV, .int .i64 bM, .int .i64 bB, .int .i64 bR, .int .i64 bQ]] [] Q =
    (ifB (bM == (0 : Int)) (Q (SV.agg [SV.int IntKind.i64 (0 : Int), SV.int IntKind.i64 (0 : Int)]) []) (bM ≠ (0 : Int) ∧ bM ≠ (0 : Int) ∧ Q (SV.agg [SV.int IntKind.i64 (IntKind.wrap IntKind.i64 (Int.tdiv bU bM)), SV.int IntKind.i64 (IntKind.wrap IntKind.i64 (Int.tdiv bV bM))]) [])) := by kernel_rfl

theorem ok_specSpeed : FsOk Tryz.prog 136 fs_specSpeed := fsOk_of tt_ok tabFs_nil mixed Tryz.func136 (by kernel_rfl) (by kernel_rfl) (by
    intro args LL p r HH h hp
    unfold fs_specSpeed at h
    dsimp only at h
    split at h
    case h_2 => cases h
    rename_i bI bK bW bH bX bY bU bV bM bB bR bQ
    simp only [Option.some.injEq, Prod.mk.injEq] at h
    obtain ⟨rfl, rfl, rfl⟩ := h
    refine ⟨by simp [Form, stays], L0, ?_⟩
    rw [vc_specSpeed]
    try dsimp only

    repeat' (first | refine ifB_of (fun _ => ?_) (fun _ => ?_) | refine pre_of ?_ (fun _ => ?_))
    all_goals first
      | rfl
      | (simp only [W, speed, *, cond_true, cond_false, Bool.true_and, Bool.false_and, Bool.and_true, Bool.and_false, Bool.not_true, Bool.not_false, and_self, true_and]; done)
      | (simp_all [W, speed]; done)
      | (simp_all [W, speed] <;> omega))

def fs_implVecSub : Fs := ⟨[], fun args H => match args, H with
  | [.agg [.int .i64 aX, .int .i64 aY], .agg [.int .i64 bX, .int .i64 bY]], [] => some (none, .agg [.int .i64 (vecSub (Vec.mk aX aY) (Vec.mk bX bY)).X, .int .i64 (vecSub (Vec.mk aX aY) (Vec.mk bX bY)).Y], [])
  | _, _ => none⟩

theorem vc_implVecSub (aX : Int) (aY : Int) (bX : Int) (bY : Int) (Q : SV → List Ent → Prop) :
    fnVC tt (look [(94, fs_vecClamped), (159, fs_vecMinus)]) L0 Tryz.f154 [.agg [.int .i64 aX, .int .i64 aY], .agg [.int .i64 bX, .int .i64 bY]] [] Q =
    (Q (SV.agg [SV.int IntKind.i64 (withinI (Vec.X (minus (Vec.mk (withinI aX (1000000000 : Int)) (withinI aY (1000000000 : Int))) (Vec.mk (withinI bX (1000000000 : Int)) (withinI bY (1000000000 : Int))))) (1000000000 : Int)), SV.int IntKind.i64 (withinI (Vec.Y (minus (Vec.mk (withinI aX (1000000000 : Int)) (withinI aY (1000000000 : Int))) (Vec.mk (withinI bX (1000000000 : Int)) (withinI bY (1000000000 : Int))))) (1000000000 : Int))]) []) := by kernel_rfl

theorem ok_implVecSub : FsOk Tryz.prog 154 fs_implVecSub := fsOk_of tt_ok (tabFs_cons ok_vecClamped (tabFs_cons ok_vecMinus tabFs_nil)) mixed Tryz.func154 (by kernel_rfl) (by kernel_rfl) (by
    intro args LL p r HH h hp
    unfold fs_implVecSub at h
    dsimp only at h
    split at h
    case h_2 => cases h
    rename_i aX aY bX bY
    simp only [Option.some.injEq, Prod.mk.injEq] at h
    obtain ⟨rfl, rfl, rfl⟩ := h
    refine ⟨by simp [Form, stays], L0, ?_⟩
    rw [vc_implVecSub]
    try dsimp only
    simp only [withinI_big, vecSub, clampV, and_self])

def fs_specVecSub : Fs := ⟨[], fun args H => match args, H with
  | [.agg [.int .i64 aX, .int .i64 aY], .agg [.int .i64 bX, .int .i64 bY]], [] => some (none, .agg [.int .i64 (vecSub (Vec.mk aX aY) (Vec.mk bX bY)).X, .int .i64 (vecSub (Vec.mk aX aY) (Vec.mk bX bY)).Y], [])
  | _, _ => none⟩

theorem vc_specVecSub (aX : Int) (aY : Int) (bX : Int) (bY : Int) (Q : SV → List Ent → Prop) :
    fnVC tt (look [(179, fs_l2Clamp)]) L0 Tryz.f177 [.agg [.int .i64 aX, .int .i64 aY], .agg [.int .i64 bX, .int .i64 bY]] [] Q =
    (Q (SV.agg [SV.int IntKind.i64 (Vec.X (clampV (1000000000 : Int) (Vec.mk (IntKind.wrap IntKind.i64 (Vec.X (clampV (1000000000 : Int) (Vec.mk aX aY)) - Vec.X (clampV (1000000000 : Int) (Vec.mk bX bY)))) (IntKind.wrap IntKind.i64 (Vec.Y (clampV (1000000000 : Int) (Vec.mk aX aY)) - Vec.Y (clampV (1000000000 : Int) (Vec.mk bX bY))))))), SV.int IntKind.i64 (Vec.Y (clampV (1000000000 : Int) (Vec.mk (IntKind.wrap IntKind.i64 (Vec.X (clampV (1000000000 : Int) (Vec.mk aX aY)) - Vec.X (clampV (1000000000 : Int) (Vec.mk bX bY)))) (IntKind.wrap IntKind.i64 (Vec.Y (clampV (1000000000 : Int) (Vec.mk aX aY)) - Vec.Y (clampV (1000000000 : Int) (Vec.mk bX bY)))))))]) []) := by kernel_rfl

theorem ok_specVecSub : FsOk Tryz.prog 177 fs_specVecSub := fsOk_of tt_ok (tabFs_cons ok_l2Clamp tabFs_nil) mixed Tryz.func177 (by kernel_rfl) (by kernel_rfl) (by
    intro args LL p r HH h hp
    unfold fs_specVecSub at h
    dsimp only at h
    split at h
    case h_2 => cases h
    rename_i aX aY bX bY
    simp only [Option.some.injEq, Prod.mk.injEq] at h
    obtain ⟨rfl, rfl, rfl⟩ := h
    refine ⟨by simp [Form, stays], L0, ?_⟩
    rw [vc_specVecSub]
    try dsimp only

    repeat' (first | refine ifB_of (fun _ => ?_) (fun _ => ?_) | refine pre_of ?_ (fun _ => ?_))
    all_goals first
      | rfl
      | (simp only [W, vecSub, minus, *, cond_true, cond_false, Bool.true_and, Bool.false_and, Bool.and_true, Bool.and_false, Bool.not_true, Bool.not_false, and_self, true_and]; done)
      | (simp_all [W, vecSub, minus]; done)
      | (simp_all [W, vecSub, minus] <;> omega))

def fs_implVecDot : Fs := ⟨[], fun args H => match args, H with
  | [.agg [.int .i64 aX, .int .i64 aY], .agg [.int .i64 bX, .int .i64 bY]], [] => some (none, .int .i64 (dot (Vec.mk aX aY) (Vec.mk bX bY)), [])
  | _, _ => none⟩

theorem vc_implVecDot (aX : Int) (aY : Int) (bX : Int) (bY : Int) (Q : SV → List Ent → Prop) :
    fnVC tt (look [(94, fs_vecClamped), (173, fs_implFixClamp)]) L0 Tryz.f153 [.agg [.int .i64 aX, .int .i64 aY], .agg [.int .i64 bX, .int .i64 bY]] [] Q =
    (Q (SV.int IntKind.i64 (clampTo (1000000000 : Int) (IntKind.wrap IntKind.i64 (Int.tdiv (IntKind.wrap IntKind.i64 (IntKind.wrap IntKind.i64 (withinI aX (1000000000 : Int) * withinI bX (1000000000 : Int)) + IntKind.wrap IntKind.i64 (withinI aY (1000000000 : Int) * withinI bY (1000000000 : Int)))) (256 : Int))))) []) := by kernel_rfl

theorem ok_implVecDot : FsOk Tryz.prog 153 fs_implVecDot := fsOk_of tt_ok (tabFs_cons ok_vecClamped (tabFs_cons ok_implFixClamp tabFs_nil)) mixed Tryz.func153 (by kernel_rfl) (by kernel_rfl) (by
    intro args LL p r HH h hp
    unfold fs_implVecDot at h
    dsimp only at h
    split at h
    case h_2 => cases h
    rename_i aX aY bX bY
    simp only [Option.some.injEq, Prod.mk.injEq] at h
    obtain ⟨rfl, rfl, rfl⟩ := h
    refine ⟨by simp [Form, stays], L0, ?_⟩
    rw [vc_implVecDot]
    try dsimp only
    simp only [withinI_big, dot, dotC, clampV, W, and_self])

def fs_specVecDot : Fs := ⟨[], fun args H => match args, H with
  | [.agg [.int .i64 aX, .int .i64 aY], .agg [.int .i64 bX, .int .i64 bY]], [] => some (none, .int .i64 (dot (Vec.mk aX aY) (Vec.mk bX bY)), [])
  | _, _ => none⟩

theorem vc_specVecDot (aX : Int) (aY : Int) (bX : Int) (bY : Int) (Q : SV → List Ent → Prop) :
    fnVC tt (look [(179, fs_l2Clamp), (180, fs_specFixClamp)]) L0 Tryz.f176 [.agg [.int .i64 aX, .int .i64 aY], .agg [.int .i64 bX, .int .i64 bY]] [] Q =
    (Q (SV.int IntKind.i64 (clampTo (1000000000 : Int) (IntKind.wrap IntKind.i64 (Int.tdiv (IntKind.wrap IntKind.i64 (IntKind.wrap IntKind.i64 (Vec.X (clampV (1000000000 : Int) (Vec.mk aX aY)) * Vec.X (clampV (1000000000 : Int) (Vec.mk bX bY))) + IntKind.wrap IntKind.i64 (Vec.Y (clampV (1000000000 : Int) (Vec.mk aX aY)) * Vec.Y (clampV (1000000000 : Int) (Vec.mk bX bY))))) (256 : Int))))) []) := by kernel_rfl

theorem ok_specVecDot : FsOk Tryz.prog 176 fs_specVecDot := fsOk_of tt_ok (tabFs_cons ok_l2Clamp (tabFs_cons ok_specFixClamp tabFs_nil)) mixed Tryz.func176 (by kernel_rfl) (by kernel_rfl) (by
    intro args LL p r HH h hp
    unfold fs_specVecDot at h
    dsimp only at h
    split at h
    case h_2 => cases h
    rename_i aX aY bX bY
    simp only [Option.some.injEq, Prod.mk.injEq] at h
    obtain ⟨rfl, rfl, rfl⟩ := h
    refine ⟨by simp [Form, stays], L0, ?_⟩
    rw [vc_specVecDot]
    try dsimp only

    repeat' (first | refine ifB_of (fun _ => ?_) (fun _ => ?_) | refine pre_of ?_ (fun _ => ?_))
    all_goals first
      | rfl
      | (simp only [W, dot, dotC, clampV, *, cond_true, cond_false, Bool.true_and, Bool.false_and, Bool.and_true, Bool.and_false, Bool.not_true, Bool.not_false, and_self, true_and]; done)
      | (simp_all [W, dot, dotC, clampV]; done)
      | (simp_all [W, dot, dotC, clampV] <;> omega))

def fs_implClosingIn : Fs := ⟨[], fun args H => match args, H with
  | [.agg [.int .i64 aI, .int .i64 aK, .int .i64 aW, .int .i64 aH, .int .i64 aX, .int .i64 aY, .int .i64 aU, .int .i64 aV, .int .i64 aM, .int .i64 aB, .int .i64 aR, .int .i64 aQ], .agg [.int .i64 bI, .int .i64 bK, .int .i64 bW, .int .i64 bH, .int .i64 bX, .int .i64 bY, .int .i64 bU, .int .i64 bV, .int .i64 bM, .int .i64 bB, .int .i64 bR, .int .i64 bQ], .agg [.int .i64 wX, .int .i64 wY]], [] => some (none, .int .i64 (closing (Body.mk aI (Shape.mk aK aW aH) (Vec.mk aX aY) (Vec.mk aU aV) aM aB aR aQ) (Body.mk bI (Shape.mk bK bW bH) (Vec.mk bX bY) (Vec.mk bU bV) bM bB bR bQ) (Vec.mk wX wY)), [])
  | _, _ => none⟩

theorem vc_implClosingIn (aI : Int) (aK : Int) (aW : Int) (aH : Int) (aX : Int) (aY : Int) (aU : Int) (aV : Int) (aM : Int) (aB : Int) (aR : Int) (aQ : Int) (bI : Int) (bK : Int) (bW : Int) (bH : Int) (bX : Int) (bY : Int) (bU : Int) (bV : Int) (bM : Int) (bB : Int) (bR : Int) (bQ : Int) (wX : Int) (wY : Int) (Q : SV → List Ent → Prop) :
    fnVC tt (look [(58, fs_implSpeed), (154, fs_implVecSub), (153, fs_implVecDot)]) L0 Tryz.f128 [.agg [.int .i64 aI, .int .i64 aK, .int .i64 aW, .int .i64 aH, .int .i64 aX, .int .i64 aY, .int .i64 aU, .int .i64 aV, .int .i64 aM, .int .i64 aB, .int .i64 aR, .int .i64 aQ], .agg [.int .i64 bI, .int .i64 bK, .int .i64 bW, .int .i64 bH, .int .i64 bX, .int .i64 bY, .int .i64 bU, .int .i64 bV, .int .i64 bM, .int .i64 bB, .int .i64 bR, .int .i64 bQ], .agg [.int .i64 wX, .int .i64 wY]] [] Q =
    (Q (SV.int IntKind.i64 (dot (vecSub (speed (Body.mk aI (Shape.mk aK aW aH) (Vec.mk aX aY) (Vec.mk aU aV) aM aB aR aQ)) (speed (Body.mk bI (Shape.mk bK bW bH) (Vec.mk bX bY) (Vec.mk bU bV) bM bB bR bQ))) (Vec.mk wX wY))) []) := by kernel_rfl

theorem ok_implClosingIn : FsOk Tryz.prog 128 fs_implClosingIn := fsOk_of tt_ok (tabFs_cons ok_implSpeed (tabFs_cons ok_implVecSub (tabFs_cons ok_implVecDot tabFs_nil))) mixed Tryz.func128 (by kernel_rfl) (by kernel_rfl) (by
    intro args LL p r HH h hp
    unfold fs_implClosingIn at h
    dsimp only at h
    split at h
    case h_2 => cases h
    rename_i aI aK aW aH aX aY aU aV aM aB aR aQ bI bK bW bH bX bY bU bV bM bB bR bQ wX wY
    simp only [Option.some.injEq, Prod.mk.injEq] at h
    obtain ⟨rfl, rfl, rfl⟩ := h
    refine ⟨by simp [Form, stays], L0, ?_⟩
    rw [vc_implClosingIn]
    try dsimp only

    repeat' (first | refine ifB_of (fun _ => ?_) (fun _ => ?_) | refine pre_of ?_ (fun _ => ?_))
    all_goals first
      | rfl
      | (simp only [W, closing, *, cond_true, cond_false, Bool.true_and, Bool.false_and, Bool.and_true, Bool.and_false, Bool.not_true, Bool.not_false, and_self, true_and]; done)
      | (simp_all [W, closing]; done)
      | (simp_all [W, closing] <;> omega))

def fs_l8Closing : Fs := ⟨[], fun args H => match args, H with
  | [.agg [.int .i64 aI, .int .i64 aK, .int .i64 aW, .int .i64 aH, .int .i64 aX, .int .i64 aY, .int .i64 aU, .int .i64 aV, .int .i64 aM, .int .i64 aB, .int .i64 aR, .int .i64 aQ], .agg [.int .i64 bI, .int .i64 bK, .int .i64 bW, .int .i64 bH, .int .i64 bX, .int .i64 bY, .int .i64 bU, .int .i64 bV, .int .i64 bM, .int .i64 bB, .int .i64 bR, .int .i64 bQ], .agg [.int .i64 hX, .int .i64 hY, .int .i64 hD]], [] => some (none, .int .i64 (closing (Body.mk aI (Shape.mk aK aW aH) (Vec.mk aX aY) (Vec.mk aU aV) aM aB aR aQ) (Body.mk bI (Shape.mk bK bW bH) (Vec.mk bX bY) (Vec.mk bU bV) bM bB bR bQ) (Hit.mk (Vec.mk hX hY) hD).Way), [])
  | _, _ => none⟩

theorem vc_l8Closing (aI : Int) (aK : Int) (aW : Int) (aH : Int) (aX : Int) (aY : Int) (aU : Int) (aV : Int) (aM : Int) (aB : Int) (aR : Int) (aQ : Int) (bI : Int) (bK : Int) (bW : Int) (bH : Int) (bX : Int) (bY : Int) (bU : Int) (bV : Int) (bM : Int) (bB : Int) (bR : Int) (bQ : Int) (hX : Int) (hY : Int) (hD : Int) (Q : SV → List Ent → Prop) :
    fnVC tt (look [(136, fs_specSpeed), (177, fs_specVecSub), (176, fs_specVecDot)]) L0 Tryz.f174 [.agg [.int .i64 aI, .int .i64 aK, .int .i64 aW, .int .i64 aH, .int .i64 aX, .int .i64 aY, .int .i64 aU, .int .i64 aV, .int .i64 aM, .int .i64 aB, .int .i64 aR, .int .i64 aQ], .agg [.int .i64 bI, .int .i64 bK, .int .i64 bW, .int .i64 bH, .int .i64 bX, .int .i64 bY, .int .i64 bU, .int .i64 bV, .int .i64 bM, .int .i64 bB, .int .i64 bR, .int .i64 bQ], .agg [.int .i64 hX, .int .i64 hY, .int .i64 hD]] [] Q =
    (Q (SV.int IntKind.i64 (dot (vecSub (speed (Body.mk aI (Shape.mk aK aW aH) (Vec.mk aX aY) (Vec.mk aU aV) aM aB aR aQ)) (speed (Body.mk bI (Shape.mk bK bW bH) (Vec.mk bX bY) (Vec.mk bU bV) bM bB bR bQ))) (Vec.mk hX hY))) []) := by kernel_rfl

theorem ok_l8Closing : FsOk Tryz.prog 174 fs_l8Closing := fsOk_of tt_ok (tabFs_cons ok_specSpeed (tabFs_cons ok_specVecSub (tabFs_cons ok_specVecDot tabFs_nil))) mixed Tryz.func174 (by kernel_rfl) (by kernel_rfl) (by
    intro args LL p r HH h hp
    unfold fs_l8Closing at h
    dsimp only at h
    split at h
    case h_2 => cases h
    rename_i aI aK aW aH aX aY aU aV aM aB aR aQ bI bK bW bH bX bY bU bV bM bB bR bQ hX hY hD
    simp only [Option.some.injEq, Prod.mk.injEq] at h
    obtain ⟨rfl, rfl, rfl⟩ := h
    refine ⟨by simp [Form, stays], L0, ?_⟩
    rw [vc_l8Closing]
    try dsimp only

    repeat' (first | refine ifB_of (fun _ => ?_) (fun _ => ?_) | refine pre_of ?_ (fun _ => ?_))
    all_goals first
      | rfl
      | (simp only [W, closing, *, cond_true, cond_false, Bool.true_and, Bool.false_and, Bool.and_true, Bool.and_false, Bool.not_true, Bool.not_false, and_self, true_and]; done)
      | (simp_all [W, closing]; done)
      | (simp_all [W, closing] <;> omega))


end Go.Proofs.YtnahfbjdicjdpaaGreat.Sym

