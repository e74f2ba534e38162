/-
  What the rows of this claim stand on, part 4: the machine, the walks, the plain laws, as far as they are used.
  No condition.
-/
import Derived.Test.YtdhbkcaaijgocaaGreatCE3
import Derived.Test.YtdhbkcaaijgocaaGreatProg
namespace Go.Proofs.YtdhbkcaaijgocaaGreat.Sym
open Go
def types : List (Nat × TI) :=
  [(2, ⟨1, false, [], 0, none, some .i64, [.int .i64 0], 8, false, [none]⟩),
   (3, ⟨1, false, [], 0, none, some .i64, [.int .i64 0], 8, false, [none]⟩),
   (4, ⟨1, false, [], 0, none, none, [.bool false], 1, false, [none]⟩),
   (5, ⟨1, false, [], 0, none, some .u8, [.int .u8 0], 1, false, [none]⟩),
   (12, ⟨1, false, [], 0, none, some .u64, [.int .u64 0], 8, false, [none]⟩),
   (21, ⟨1, false, [], 0, none, some .i32, [.int .i32 0], 4, false, [none]⟩),
   (22, ⟨1, false, [], 116, some .body, none, [.nilsl], 24, false, [some .body]⟩),
   (24, ⟨1, false, [], 59, some .body, none, [.nilsl], 24, false, [some .body]⟩),
   (32, ⟨1, false, [], 184, some .pair, none, [.nilsl], 24, false, [some .pair]⟩),
   (33, ⟨4, true, [(0, 1), (1, 1), (2, 1), (3, 1)], 0, none, none, [.int .i64 0, .int .i64 0, .nilsl, .nilsl], 64, false, [none, none, some .body, some .pair]⟩),
   (34, ⟨4, true, [(0, 1), (1, 1), (2, 1), (3, 1)], 0, none, none, [.int .i64 0, .int .i64 0, .nilsl, .nilsl], 64, false, [none, none, some .body, some .pair]⟩),
   (36, ⟨1, false, [], 94, some .pair, none, [.nilsl], 24, false, [some .pair]⟩),
   (37, ⟨4, true, [(0, 1), (1, 1), (2, 1), (3, 1)], 0, none, none, [.int .i64 0, .int .i64 0, .nilsl, .nilsl], 64, false, [none, none, some .body, some .pair]⟩),
   (38, ⟨4, true, [(0, 1), (1, 1), (2, 1), (3, 1)], 0, none, none, [.int .i64 0, .int .i64 0, .nilsl, .nilsl], 64, false, [none, none, some .body, some .pair]⟩),
   (39, ⟨1, false, [], 136, some .event, none, [.nilsl], 24, false, [some .event]⟩),
   (48, ⟨1, false, [], 5, some .byte, none, [.nilsl], 24, false, [some .byte]⟩),
   (49, ⟨1, false, [], 63, some .contact, none, [.nilsl], 24, false, [some .contact]⟩),
   (54, ⟨3, true, [(0, 1), (1, 1), (2, 1)], 0, none, none, [.int .i64 0, .int .i64 0, .int .i64 0], 24, true, [none, none, none]⟩),
   (55, ⟨3, true, [(0, 1), (1, 1), (2, 1)], 0, none, none, [.int .i64 0, .int .i64 0, .int .i64 0], 24, true, [none, none, none]⟩),
   (56, ⟨2, true, [(0, 1), (1, 1)], 0, none, none, [.int .i64 0, .int .i64 0], 16, true, [none, none]⟩),
   (57, ⟨2, true, [(0, 1), (1, 1)], 0, none, none, [.int .i64 0, .int .i64 0], 16, true, [none, none]⟩),
   (58, ⟨12, true, [(0, 1), (1, 3), (4, 2), (6, 2), (8, 1), (9, 1), (10, 1), (11, 1)], 0, none, none, [.int .i64 0, .int .i64 0, .int .i64 0, .int .i64 0, .int .i64 0, .int .i64 0, .int .i64 0, .int .i64 0, .int .i64 0, .int .i64 0, .int .i64 0, .int .i64 0], 96, true, [none, none, none, none, none, none, none, none, none, none, none, none]⟩),
   (59, ⟨12, true, [(0, 1), (1, 3), (4, 2), (6, 2), (8, 1), (9, 1), (10, 1), (11, 1)], 0, none, none, [.int .i64 0, .int .i64 0, .int .i64 0, .int .i64 0, .int .i64 0, .int .i64 0, .int .i64 0, .int .i64 0, .int .i64 0, .int .i64 0, .int .i64 0, .int .i64 0], 96, true, [none, none, none, none, none, none, none, none, none, none, none, none]⟩),
   (60, ⟨3, true, [(0, 2), (2, 1)], 0, none, none, [.int .i64 0, .int .i64 0, .int .i64 0], 24, true, [none, none, none]⟩),
   (61, ⟨3, true, [(0, 2), (2, 1)], 0, none, none, [.int .i64 0, .int .i64 0, .int .i64 0], 24, true, [none, none, none]⟩),
   (62, ⟨5, true, [(0, 1), (1, 1), (2, 3)], 0, none, none, [.int .i64 0, .int .i64 0, .int .i64 0, .int .i64 0, .int .i64 0], 40, true, [none, none, none, none, none]⟩),
   (63, ⟨5, true, [(0, 1), (1, 1), (2, 3)], 0, none, none, [.int .i64 0, .int .i64 0, .int .i64 0, .int .i64 0, .int .i64 0], 40, true, [none, none, none, none, none]⟩),
   (66, ⟨4, true, [(0, 2), (2, 2)], 0, none, none, [.int .i64 0, .int .i64 0, .int .i64 0, .int .i64 0], 32, true, [none, none, none, none]⟩),
   (67, ⟨4, true, [(0, 2), (2, 2)], 0, none, none, [.int .i64 0, .int .i64 0, .int .i64 0, .int .i64 0], 32, true, [none, none, none, none]⟩),
   (70, ⟨1, false, [], 3, some .int, none, [.nilsl], 24, false, [some .int]⟩),
   (85, ⟨1, false, [], 91, some .item, none, [.nilsl], 24, false, [some .item]⟩),
   (86, ⟨1, true, [(0, 1)], 0, none, none, [.nilsl], 24, false, [some .item]⟩),
   (87, ⟨1, true, [(0, 1)], 0, none, none, [.nilsl], 24, false, [some .item]⟩),
   (90, ⟨5, true, [(0, 1), (1, 4)], 0, none, none, [.int .i64 0, .int .i64 0, .int .i64 0, .int .i64 0, .int .i64 0], 40, true, [none, none, none, none, none]⟩),
   (91, ⟨5, true, [(0, 1), (1, 4)], 0, none, none, [.int .i64 0, .int .i64 0, .int .i64 0, .int .i64 0, .int .i64 0], 40, true, [none, none, none, none, none]⟩),
   (93, ⟨2, true, [(0, 1), (1, 1)], 0, none, none, [.int .i64 0, .int .i64 0], 16, true, [none, none]⟩),
   (94, ⟨2, true, [(0, 1), (1, 1)], 0, none, none, [.int .i64 0, .int .i64 0], 16, true, [none, none]⟩),
   (98, ⟨4, true, [(0, 2), (2, 2)], 0, none, none, [.int .i64 0, .int .i64 0, .int .i64 0, .int .i64 0], 32, true, [none, none, none, none]⟩),
   (99, ⟨4, true, [(0, 2), (2, 2)], 0, none, none, [.int .i64 0, .int .i64 0, .int .i64 0, .int .i64 0], 32, true, [none, none, none, none]⟩),
   (113, ⟨3, true, [(0, 1), (1, 1), (2, 1)], 0, none, none, [.int .i64 0, .int .i64 0, .int .i64 0], 24, true, [none, none, none]⟩),
   (114, ⟨2, true, [(0, 1), (1, 1)], 0, none, none, [.int .i64 0, .int .i64 0], 16, true, [none, none]⟩),
   (115, ⟨12, true, [(0, 1), (1, 3), (4, 2), (6, 2), (8, 1), (9, 1), (10, 1), (11, 1)], 0, none, none, [.int .i64 0, .int .i64 0, .int .i64 0, .int .i64 0, .int .i64 0, .int .i64 0, .int .i64 0, .int .i64 0, .int .i64 0, .int .i64 0, .int .i64 0, .int .i64 0], 96, true, [none, none, none, none, none, none, none, none, none, none, none, none]⟩),
   (116, ⟨12, true, [(0, 1), (1, 3), (4, 2), (6, 2), (8, 1), (9, 1), (10, 1), (11, 1)], 0, none, none, [.int .i64 0, .int .i64 0, .int .i64 0, .int .i64 0, .int .i64 0, .int .i64 0, .int .i64 0, .int .i64 0, .int .i64 0, .int .i64 0, .int .i64 0, .int .i64 0], 96, true, [none, none, none, none, none, none, none, none, none, none, none, none]⟩),
   (119, ⟨1, false, [], 4, some .bool, none, [.nilsl], 24, false, [some .bool]⟩),
   (121, ⟨1, false, [], 0, none, none, [.nilp], 8, false, [none]⟩),
   (135, ⟨3, true, [(0, 1), (1, 2)], 0, none, none, [.bool false, .int .i64 0, .int .i64 0], 24, true, [none, none, none]⟩),
   (136, ⟨3, true, [(0, 1), (1, 2)], 0, none, none, [.bool false, .int .i64 0, .int .i64 0], 24, true, [none, none, none]⟩),
   (139, ⟨1, false, [], 0, none, none, [.nilp], 8, false, [none]⟩),
   (184, ⟨2, true, [(0, 1), (1, 1)], 0, none, none, [.int .i64 0, .int .i64 0], 16, true, [none, none]⟩),
   (186, ⟨2, true, [(0, 1), (1, 1)], 0, none, none, [.nilsl, .int .i64 0], 32, false, [some .byte, none]⟩),
   (187, ⟨2, true, [(0, 1), (1, 1)], 0, none, none, [.nilsl, .int .i64 0], 32, false, [some .byte, none]⟩),
   (200, ⟨1, false, [], 61, some .hit, none, [.nilsl], 24, false, [some .hit]⟩),
   (203, ⟨1, false, [], 0, none, none, [.nilp], 8, false, [none]⟩),
   (216, ⟨1, false, [], 0, none, some .u64, [.int .u64 0], 8, false, [none]⟩),
   (237, ⟨1, false, [], 0, none, none, [.nilp], 8, false, [none]⟩)]
def tt (t : Nat) : Option TI := look types t
theorem types_ok : typesOk Go.Proofs.Tryz.prog types = true := by kernel_rfl
end Go.Proofs.YtdhbkcaaijgocaaGreat.Sym

namespace Go.Proofs.YtdhbkcaaijgocaaGreat.Sym
open Go
set_option linter.unusedVariables false
set_option linter.unusedSimpArgs false
set_option maxRecDepth 100000

theorem pre_of {p q : Prop} (h1 : p) (h2 : p → q) : p ∧ q := ⟨h1, h2 h1⟩

abbrev W (n : Int) : Int := IntKind.i64.wrap n

def isIn (n a b : Int) : Bool := decide (a ≤ n) && decide (n ≤ b)
def placeOk (p : Vec) : Bool := isIn p.X (-2560000) 2560000 && isIn p.Y (-2560000) 2560000
def vecOk (p : Vec) : Bool := isIn p.X (-1000000000) 1000000000 && isIn p.Y (-1000000000) 1000000000
def plus (a b : Vec) : Vec := ⟨W (a.X + b.X), W (a.Y + b.Y)⟩
def minus (a b : Vec) : Vec := ⟨W (a.X - b.X), W (a.Y - b.Y)⟩
def square (a : Vec) : Int := W (W (a.X * a.X) + W (a.Y * a.Y))
def scaled (a : Vec) (n : Int) : Vec := ⟨W ((W (a.X * n)).tdiv 256), W ((W (a.Y * n)).tdiv 256)⟩
theorem mixed : Tryz.prog.follows .mixedOrders = true := by kernel_rfl
theorem tt_ok : TabOk Tryz.prog tt := tabOk_of types_ok

def fs_in_ : Fs := ⟨[], fun args H => match args, H with
  | [.int .i64 n, .int .i64 a, .int .i64 b], [] => some (none, .bool (isIn n a b), [])
  | _, _ => none⟩

theorem vc_in_ (n : Int) (a : Int) (b : Int) (Q : SV → List Ent → Prop) :
    fnVC tt (look []) L0 Tryz.f77 [.int .i64 n, .int .i64 a, .int .i64 b] [] Q =
    (ifB (decide (n ≥ a)) (Q (SV.bool (decide (n ≤ b))) []) (Q (SV.bool false) [])) := by kernel_rfl

theorem ok_in_ : FsOk Tryz.prog 77 fs_in_ := fsOk_of tt_ok tabFs_nil mixed Tryz.func77 (by kernel_rfl) (by kernel_rfl) (by
    intro args LL p r HH h hp
    unfold fs_in_ at h
    dsimp only at h
    split at h
    case h_2 => cases h
    rename_i n a b
    simp only [Option.some.injEq, Prod.mk.injEq] at h
    obtain ⟨rfl, rfl, rfl⟩ := h
    refine ⟨by simp [Form, stays], L0, ?_⟩
    rw [vc_in_]
    try dsimp only

    repeat' (first | refine ifB_of (fun _ => ?_) (fun _ => ?_) | refine pre_of ?_ (fun _ => ?_))
    all_goals first
      | rfl
      | (simp only [W, isIn, *, cond_true, cond_false, Bool.true_and, Bool.false_and, Bool.and_true, Bool.and_false, Bool.not_true, Bool.not_false, and_self, true_and]; done)
      | (simp_all [W, isIn]; done)
      | (simp_all [W, isIn] <;> omega))

def fs_l1In : Fs := ⟨[], fun args H => match args, H with
  | [.int .i64 n, .int .i64 a, .int .i64 b], [] => some (none, .bool (isIn n a b), [])
  | _, _ => none⟩

theorem vc_l1In (n : Int) (a : Int) (b : Int) (Q : SV → List Ent → Prop) :
    fnVC tt (look []) L0 Tryz.f74 [.int .i64 n, .int .i64 a, .int .i64 b] [] Q =
    (ifB (decide (n ≥ a)) (Q (SV.bool (decide (n ≤ b))) []) (Q (SV.bool false) [])) := by kernel_rfl

theorem ok_l1In : FsOk Tryz.prog 74 fs_l1In := fsOk_of tt_ok tabFs_nil mixed Tryz.func74 (by kernel_rfl) (by kernel_rfl) (by
    intro args LL p r HH h hp
    unfold fs_l1In at h
    dsimp only at h
    split at h
    case h_2 => cases h
    rename_i n a b
    simp only [Option.some.injEq, Prod.mk.injEq] at h
    obtain ⟨rfl, rfl, rfl⟩ := h
    refine ⟨by simp [Form, stays], L0, ?_⟩
    rw [vc_l1In]
    try dsimp only

    repeat' (first | refine ifB_of (fun _ => ?_) (fun _ => ?_) | refine pre_of ?_ (fun _ => ?_))
    all_goals first
      | rfl
      | (simp only [W, isIn, *, cond_true, cond_false, Bool.true_and, Bool.false_and, Bool.and_true, Bool.and_false, Bool.not_true, Bool.not_false, and_self, true_and]; done)
      | (simp_all [W, isIn]; done)
      | (simp_all [W, isIn] <;> omega))

def fs_isPlace : Fs := ⟨[], fun args H => match args, H with
  | [.agg [.int .i64 pX, .int .i64 pY]], [] => some (none, .bool (placeOk (Vec.mk pX pY)), [])
  | _, _ => none⟩

theorem vc_isPlace (pX : Int) (pY : Int) (Q : SV → List Ent → Prop) :
    fnVC tt (look [(77, fs_in_)]) L0 Tryz.f127 [.agg [.int .i64 pX, .int .i64 pY]] [] Q =
    (ifB (isIn pX (-2560000 : Int) (2560000 : Int)) (Q (SV.bool (isIn pY (-2560000 : Int) (2560000 : Int))) []) (Q (SV.bool false) [])) := by kernel_rfl

theorem ok_isPlace : FsOk Tryz.prog 127 fs_isPlace := fsOk_of tt_ok (tabFs_cons ok_in_ tabFs_nil) mixed Tryz.func127 (by kernel_rfl) (by kernel_rfl) (by
    intro args LL p r HH h hp
    unfold fs_isPlace at h
    dsimp only at h
    split at h
    case h_2 => cases h
    rename_i pX pY
    simp only [Option.some.injEq, Prod.mk.injEq] at h
    obtain ⟨rfl, rfl, rfl⟩ := h
    refine ⟨by simp [Form, stays], L0, ?_⟩
    rw [vc_isPlace]
    try dsimp only

    repeat' (first | refine ifB_of (fun _ => ?_) (fun _ => ?_) | refine pre_of ?_ (fun _ => ?_))
    all_goals first
      | rfl
      | (simp only [W, placeOk, *, cond_true, cond_false, Bool.true_and, Bool.false_and, Bool.and_true, Bool.and_false, Bool.not_true, Bool.not_false, and_self, true_and]; done)
      | (simp_all [W, placeOk]; done)
      | (simp_all [W, placeOk] <;> omega))

def fs_l3Place : Fs := ⟨[], fun args H => match args, H with
  | [.agg [.int .i64 pX, .int .i64 pY]], [] => some (none, .bool (placeOk (Vec.mk pX pY)), [])
  | _, _ => none⟩

theorem vc_l3Place (pX : Int) (pY : Int) (Q : SV → List Ent → Prop) :
    fnVC tt (look [(74, fs_l1In)]) L0 Tryz.f130 [.agg [.int .i64 pX, .int .i64 pY]] [] Q =
    (ifB (isIn pX (-2560000 : Int) (2560000 : Int)) (Q (SV.bool (isIn pY (-2560000 : Int) (2560000 : Int))) []) (Q (SV.bool false) [])) := by kernel_rfl

theorem ok_l3Place : FsOk Tryz.prog 130 fs_l3Place := fsOk_of tt_ok (tabFs_cons ok_l1In tabFs_nil) mixed Tryz.func130 (by kernel_rfl) (by kernel_rfl) (by
    intro args LL p r HH h hp
    unfold fs_l3Place at h
    dsimp only at h
    split at h
    case h_2 => cases h
    rename_i pX pY
    simp only [Option.some.injEq, Prod.mk.injEq] at h
    obtain ⟨rfl, rfl, rfl⟩ := h
    refine ⟨by simp [Form, stays], L0, ?_⟩
    rw [vc_l3Place]
    try dsimp only

    repeat' (first | refine ifB_of (fun _ => ?_) (fun _ => ?_) | refine pre_of ?_ (fun _ => ?_))
    all_goals first
      | rfl
      | (simp only [W, placeOk, *, cond_true, cond_false, Bool.true_and, Bool.false_and, Bool.and_true, Bool.and_false, Bool.not_true, Bool.not_false, and_self, true_and]; done)
      | (simp_all [W, placeOk]; done)
      | (simp_all [W, placeOk] <;> omega))

def fs_implVecOk : Fs := ⟨[], fun args H => match args, H with
  | [.agg [.int .i64 pX, .int .i64 pY]], [] => some (none, .bool (vecOk (Vec.mk pX pY)), [])
  | _, _ => none⟩

theorem vc_implVecOk (pX : Int) (pY : Int) (Q : SV → List Ent → Prop) :
    fnVC tt (look [(77, fs_in_)]) L0 Tryz.f194 [.agg [.int .i64 pX, .int .i64 pY]] [] Q =
    (ifB (isIn pX (-1000000000 : Int) (1000000000 : Int)) (Q (SV.bool (isIn pY (-1000000000 : Int) (1000000000 : Int))) []) (Q (SV.bool false) [])) := by kernel_rfl

theorem ok_implVecOk : FsOk Tryz.prog 194 fs_implVecOk := fsOk_of tt_ok (tabFs_cons ok_in_ tabFs_nil) mixed Tryz.func194 (by kernel_rfl) (by kernel_rfl) (by
    intro args LL p r HH h hp
    unfold fs_implVecOk at h
    dsimp only at h
    split at h
    case h_2 => cases h
    rename_i pX pY
    simp only [Option.some.injEq, Prod.mk.injEq] at h
    obtain ⟨rfl, rfl, rfl⟩ := h
    refine ⟨by simp [Form, stays], L0, ?_⟩
    rw [vc_implVecOk]
    try dsimp only

    repeat' (first | refine ifB_of (fun _ => ?_) (fun _ => ?_) | refine pre_of ?_ (fun _ => ?_))
    all_goals first
      | rfl
      | (simp only [W, vecOk, *, cond_true, cond_false, Bool.true_and, Bool.false_and, Bool.and_true, Bool.and_false, Bool.not_true, Bool.not_false, and_self, true_and]; done)
      | (simp_all [W, vecOk]; done)
      | (simp_all [W, vecOk] <;> omega))

def fs_specVecOk : Fs := ⟨[], fun args H => match args, H with
  | [.agg [.int .i64 pX, .int .i64 pY]], [] => some (none, .bool (vecOk (Vec.mk pX pY)), [])
  | _, _ => none⟩

theorem vc_specVecOk (pX : Int) (pY : Int) (Q : SV → List Ent → Prop) :
    fnVC tt (look [(74, fs_l1In)]) L0 Tryz.f125 [.agg [.int .i64 pX, .int .i64 pY]] [] Q =
    (ifB (isIn pX (-1000000000 : Int) (1000000000 : Int)) (Q (SV.bool (isIn pY (-1000000000 : Int) (1000000000 : Int))) []) (Q (SV.bool false) [])) := by kernel_rfl

theorem ok_specVecOk : FsOk Tryz.prog 125 fs_specVecOk := fsOk_of tt_ok (tabFs_cons ok_l1In tabFs_nil) mixed Tryz.func125 (by kernel_rfl) (by kernel_rfl) (by
    intro args LL p r HH h hp
    unfold fs_specVecOk at h
    dsimp only at h
    split at h
    case h_2 => cases h
    rename_i pX pY
    simp only [Option.some.injEq, Prod.mk.injEq] at h
    obtain ⟨rfl, rfl, rfl⟩ := h
    refine ⟨by simp [Form, stays], L0, ?_⟩
    rw [vc_specVecOk]
    try dsimp only

    repeat' (first | refine ifB_of (fun _ => ?_) (fun _ => ?_) | refine pre_of ?_ (fun _ => ?_))
    all_goals first
      | rfl
      | (simp only [W, vecOk, *, cond_true, cond_false, Bool.true_and, Bool.false_and, Bool.and_true, Bool.and_false, Bool.not_true, Bool.not_false, and_self, true_and]; done)
      | (simp_all [W, vecOk]; done)
      | (simp_all [W, vecOk] <;> omega))

def fs_vecPlus : Fs := ⟨[], fun args H => match args, H with
  | [.agg [.int .i64 aX, .int .i64 aY], .agg [.int .i64 bX, .int .i64 bY]], [] => some (none, .agg [.int .i64 (plus (Vec.mk aX aY) (Vec.mk bX bY)).X, .int .i64 (plus (Vec.mk aX aY) (Vec.mk bX bY)).Y], [])
  | _, _ => none⟩

theorem vc_vecPlus (aX : Int) (aY : Int) (bX : Int) (bY : Int) (Q : SV → List Ent → Prop) :
    fnVC tt (look []) L0 Tryz.f112 [.agg [.int .i64 aX, .int .i64 aY], .agg [.int .i64 bX, .int .i64 bY]] [] Q =
    (Q (SV.agg [SV.int IntKind.i64 (IntKind.wrap IntKind.i64 (aX + bX)), SV.int IntKind.i64 (IntKind.wrap IntKind.i64 (aY + bY))]) []) := by kernel_rfl

theorem ok_vecPlus : FsOk Tryz.prog 112 fs_vecPlus := fsOk_of tt_ok tabFs_nil mixed Tryz.func112 (by kernel_rfl) (by kernel_rfl) (by
    intro args LL p r HH h hp
    unfold fs_vecPlus at h
    dsimp only at h
    split at h
    case h_2 => cases h
    rename_i aX aY bX bY
    simp only [Option.some.injEq, Prod.mk.injEq] at h
    obtain ⟨rfl, rfl, rfl⟩ := h
    refine ⟨by simp [Form, stays], L0, ?_⟩
    rw [vc_vecPlus]
    try dsimp only

    repeat' (first | refine ifB_of (fun _ => ?_) (fun _ => ?_) | refine pre_of ?_ (fun _ => ?_))
    all_goals first
      | rfl
      | (simp only [W, plus, *, cond_true, cond_false, Bool.true_and, Bool.false_and, Bool.and_true, Bool.and_false, Bool.not_true, Bool.not_false, and_self, true_and]; done)
      | (simp_all [W, plus]; done)
      | (simp_all [W, plus] <;> omega))

def fs_vecMinus : Fs := ⟨[], fun args H => match args, H with
  | [.agg [.int .i64 aX, .int .i64 aY], .agg [.int .i64 bX, .int .i64 bY]], [] => some (none, .agg [.int .i64 (minus (Vec.mk aX aY) (Vec.mk bX bY)).X, .int .i64 (minus (Vec.mk aX aY) (Vec.mk bX bY)).Y], [])
  | _, _ => none⟩

theorem vc_vecMinus (aX : Int) (aY : Int) (bX : Int) (bY : Int) (Q : SV → List Ent → Prop) :
    fnVC tt (look []) L0 Tryz.f132 [.agg [.int .i64 aX, .int .i64 aY], .agg [.int .i64 bX, .int .i64 bY]] [] Q =
    (Q (SV.agg [SV.int IntKind.i64 (IntKind.wrap IntKind.i64 (aX - bX)), SV.int IntKind.i64 (IntKind.wrap IntKind.i64 (aY - bY))]) []) := by kernel_rfl

theorem ok_vecMinus : FsOk Tryz.prog 132 fs_vecMinus := fsOk_of tt_ok tabFs_nil mixed Tryz.func132 (by kernel_rfl) (by kernel_rfl) (by
    intro args LL p r HH h hp
    unfold fs_vecMinus at h
    dsimp only at h
    split at h
    case h_2 => cases h
    rename_i aX aY bX bY
    simp only [Option.some.injEq, Prod.mk.injEq] at h
    obtain ⟨rfl, rfl, rfl⟩ := h
    refine ⟨by simp [Form, stays], L0, ?_⟩
    rw [vc_vecMinus]
    try dsimp only

    repeat' (first | refine ifB_of (fun _ => ?_) (fun _ => ?_) | refine pre_of ?_ (fun _ => ?_))
    all_goals first
      | rfl
      | (simp only [W, minus, *, cond_true, cond_false, Bool.true_and, Bool.false_and, Bool.and_true, Bool.and_false, Bool.not_true, Bool.not_false, and_self, true_and]; done)
      | (simp_all [W, minus]; done)
      | (simp_all [W, minus] <;> omega))

def fs_vecSquare : Fs := ⟨[], fun args H => match args, H with
  | [.agg [.int .i64 aX, .int .i64 aY]], [] => some (none, .int .i64 (square (Vec.mk aX aY)), [])
  | _, _ => none⟩

theorem vc_vecSquare (aX : Int) (aY : Int) (Q : SV → List Ent → Prop) :
    fnVC tt (look []) L0 Tryz.f133 [.agg [.int .i64 aX, .int .i64 aY]] [] Q =
    (Q (SV.int IntKind.i64 (IntKind.wrap IntKind.i64 (IntKind.wrap IntKind.i64 (aX * aX) + IntKind.wrap IntKind.i64 (aY * aY)))) []) := by kernel_rfl

theorem ok_vecSquare : FsOk Tryz.prog 133 fs_vecSquare := fsOk_of tt_ok tabFs_nil mixed Tryz.func133 (by kernel_rfl) (by kernel_rfl) (by
    intro args LL p r HH h hp
    unfold fs_vecSquare at h
    dsimp only at h
    split at h
    case h_2 => cases h
    rename_i aX aY
    simp only [Option.some.injEq, Prod.mk.injEq] at h
    obtain ⟨rfl, rfl, rfl⟩ := h
    refine ⟨by simp [Form, stays], L0, ?_⟩
    rw [vc_vecSquare]
    try dsimp only

    repeat' (first | refine ifB_of (fun _ => ?_) (fun _ => ?_) | refine pre_of ?_ (fun _ => ?_))
    all_goals first
      | rfl
      | (simp only [W, square, *, cond_true, cond_false, Bool.true_and, Bool.false_and, Bool.and_true, Bool.and_false, Bool.not_true, Bool.not_false, and_self, true_and]; done)
      | (simp_all [W, square]; done)
      | (simp_all [W, square] <;> omega))

def fs_l2Square : Fs := ⟨[], fun args H => match args, H with
  | [.agg [.int .i64 aX, .int .i64 aY]], [] => some (none, .int .i64 (square (Vec.mk aX aY)), [])
  | _, _ => none⟩

theorem vc_l2Square (aX : Int) (aY : Int) (Q : SV → List Ent → Prop) :
    fnVC tt (look []) L0 Tryz.f197 [.agg [.int .i64 aX, .int .i64 aY]] [] Q =
    (Q (SV.int IntKind.i64 (IntKind.wrap IntKind.i64 (IntKind.wrap IntKind.i64 (aX * aX) + IntKind.wrap IntKind.i64 (aY * aY)))) []) := by kernel_rfl

theorem ok_l2Square : FsOk Tryz.prog 197 fs_l2Square := fsOk_of tt_ok tabFs_nil mixed Tryz.func197 (by kernel_rfl) (by kernel_rfl) (by
    intro args LL p r HH h hp
    unfold fs_l2Square at h
    dsimp only at h
    split at h
    case h_2 => cases h
    rename_i aX aY
    simp only [Option.some.injEq, Prod.mk.injEq] at h
    obtain ⟨rfl, rfl, rfl⟩ := h
    refine ⟨by simp [Form, stays], L0, ?_⟩
    rw [vc_l2Square]
    try dsimp only

    repeat' (first | refine ifB_of (fun _ => ?_) (fun _ => ?_) | refine pre_of ?_ (fun _ => ?_))
    all_goals first
      | rfl
      | (simp only [W, square, *, cond_true, cond_false, Bool.true_and, Bool.false_and, Bool.and_true, Bool.and_false, Bool.not_true, Bool.not_false, and_self, true_and]; done)
      | (simp_all [W, square]; done)
      | (simp_all [W, square] <;> omega))

def fs_vecScaled : Fs := ⟨[], fun args H => match args, H with
  | [.agg [.int .i64 aX, .int .i64 aY], .int .i64 n], [] => some (none, .agg [.int .i64 (scaled (Vec.mk aX aY) n).X, .int .i64 (scaled (Vec.mk aX aY) n).Y], [])
  | _, _ => none⟩

theorem vc_vecScaled (aX : Int) (aY : Int) (n : Int) (Q : SV → List Ent → Prop) :
    fnVC tt (look []) L0 Tryz.f174 [.agg [.int .i64 aX, .int .i64 aY], .int .i64 n] [] Q =
    (Q (SV.agg [SV.int IntKind.i64 (IntKind.wrap IntKind.i64 (Int.tdiv (IntKind.wrap IntKind.i64 (aX * n)) (256 : Int))), SV.int IntKind.i64 (IntKind.wrap IntKind.i64 (Int.tdiv (IntKind.wrap IntKind.i64 (aY * n)) (256 : Int)))]) []) := by kernel_rfl

theorem ok_vecScaled : FsOk Tryz.prog 174 fs_vecScaled := fsOk_of tt_ok tabFs_nil mixed Tryz.func174 (by kernel_rfl) (by kernel_rfl) (by
    intro args LL p r HH h hp
    unfold fs_vecScaled at h
    dsimp only at h
    split at h
    case h_2 => cases h
    rename_i aX aY n
    simp only [Option.some.injEq, Prod.mk.injEq] at h
    obtain ⟨rfl, rfl, rfl⟩ := h
    refine ⟨by simp [Form, stays], L0, ?_⟩
    rw [vc_vecScaled]
    try dsimp only

    repeat' (first | refine ifB_of (fun _ => ?_) (fun _ => ?_) | refine pre_of ?_ (fun _ => ?_))
    all_goals first
      | rfl
      | (simp only [W, scaled, *, cond_true, cond_false, Bool.true_and, Bool.false_and, Bool.and_true, Bool.and_false, Bool.not_true, Bool.not_false, and_self, true_and]; done)
      | (simp_all [W, scaled]; done)
      | (simp_all [W, scaled] <;> omega))

end Go.Proofs.YtdhbkcaaijgocaaGreat.Sym

namespace Go.Proofs.YtdhbkcaaijgocaaGreat.Sym
open Go
set_option linter.unusedVariables false
set_option linter.unusedSimpArgs false
set_option maxRecDepth 100000

def rayOk (r : Ray) : Bool := placeOk r.From && placeOk r.Way && !(r.Way.X == 0 && r.Way.Y == 0)
def rayAt (r : Ray) (t : Int) : Vec := plus r.From (scaled r.Way t)
def bounds (s : Shape) (p : Vec) : Box :=
  bif s.Kind == 1 then ⟨⟨W (p.X - s.Wide), W (p.Y - s.Wide)⟩, ⟨W (p.X + s.Wide), W (p.Y + s.Wide)⟩⟩
  else ⟨⟨W (p.X - s.Wide), W (p.Y - s.High)⟩, ⟨W (p.X + s.Wide), W (p.Y + s.High)⟩⟩
def hasPoint (b : Box) (p : Vec) : Bool := isIn p.X b.Low.X b.High.X && isIn p.Y b.Low.Y b.High.Y
def shapeHas (s : Shape) (p q : Vec) : Bool :=
  bif s.Kind == 2 then hasPoint (bounds s p) q else decide (square (minus q p) ≤ W (s.Wide * s.Wide))

def roundAt (r : Ray) (p : Vec) (wide t : Int) : Bool := decide (square (minus (rayAt r t) p) ≤ W (wide * wide))
def roundFrom (r : Ray) (p : Vec) (wide : Int) : Nat → Int × Bool
  | 0 => (0, false)
  | k + 1 => bif roundAt r p wide (257 - (k + 1)) then (257 - (k + 1), true) else roundFrom r p wide k
def rayRound (r : Ray) (p : Vec) (wide : Int) : Int × Bool :=
  bif rayOk r && placeOk p && isIn wide 1 25600 then roundFrom r p wide 257 else (0, false)

theorem wrap_small {n : Int} (h1 : -9223372036854775808 ≤ n) (h2 : n ≤ 9223372036854775807) : IntKind.i64.wrap n = n := by
  rw [IntKind.wrap_i64]
  omega

theorem roundFrom_step {r : Ray} {p : Vec} {wide t : Int} (h0 : 0 ≤ t) (h1 : t < 257) :
    roundFrom r p wide (257 - t).toNat = bif roundAt r p wide t then (t, true) else roundFrom r p wide (257 - (t + 1)).toNat := by
  have e : (257 - t).toNat = (257 - (t + 1)).toNat + 1 := by omega
  rw [e, roundFrom]
  have e2 : (257 : Int) - (((257 - (t + 1)).toNat : Int) + 1) = t := by omega
  rw [e2]

def fs_implRayOk : Fs := ⟨[], fun args H => match args, H with
  | [.agg [.int .i64 rFX, .int .i64 rFY, .int .i64 rWX, .int .i64 rWY]], [] => some (none, .bool (rayOk (Ray.mk (Vec.mk rFX rFY) (Vec.mk rWX rWY))), [])
  | _, _ => none⟩

theorem vc_implRayOk (rFX : Int) (rFY : Int) (rWX : Int) (rWY : Int) (Q : SV → List Ent → Prop) :
    fnVC tt (look [(127, fs_isPlace)]) L0 Tryz.f149 [.agg [.int .i64 rFX, .int .i64 rFY, .int .i64 rWX, .int .i64 rWY]] [] Q =
    (ifB (placeOk (Vec.mk rFX rFY)) (ifB (placeOk (Vec.mk rWX rWY)) (Q (SV.bool !(rWX == (0 : Int) && rWY == (0 : Int))) []) (Q (SV.bool false) [])) (Q (SV.bool false) [])) := by kernel_rfl

theorem ok_implRayOk : FsOk Tryz.prog 149 fs_implRayOk := fsOk_of tt_ok (tabFs_cons ok_isPlace tabFs_nil) mixed Tryz.func149 (by kernel_rfl) (by kernel_rfl) (by
    intro args LL p r HH h hp
    unfold fs_implRayOk at h
    dsimp only at h
    split at h
    case h_2 => cases h
    rename_i rFX rFY rWX rWY
    simp only [Option.some.injEq, Prod.mk.injEq] at h
    obtain ⟨rfl, rfl, rfl⟩ := h
    refine ⟨by simp [Form, stays], L0, ?_⟩
    rw [vc_implRayOk]
    try dsimp only

    repeat' (first | refine ifB_of (fun _ => ?_) (fun _ => ?_) | refine pre_of ?_ (fun _ => ?_))
    all_goals first
      | rfl
      | (simp only [W, rayOk, *, cond_true, cond_false, Bool.true_and, Bool.false_and, Bool.and_true, Bool.and_false, Bool.not_true, Bool.not_false, and_self, true_and]; done)
      | (simp_all [W, rayOk]; done)
      | (simp_all [W, rayOk] <;> omega))

def fs_specRayOk : Fs := ⟨[], fun args H => match args, H with
  | [.agg [.int .i64 rFX, .int .i64 rFY, .int .i64 rWX, .int .i64 rWY]], [] => some (none, .bool (rayOk (Ray.mk (Vec.mk rFX rFY) (Vec.mk rWX rWY))), [])
  | _, _ => none⟩

theorem vc_specRayOk (rFX : Int) (rFY : Int) (rWX : Int) (rWY : Int) (Q : SV → List Ent → Prop) :
    fnVC tt (look [(130, fs_l3Place)]) L0 Tryz.f147 [.agg [.int .i64 rFX, .int .i64 rFY, .int .i64 rWX, .int .i64 rWY]] [] Q =
    (ifB (placeOk (Vec.mk rFX rFY)) (ifB (placeOk (Vec.mk rWX rWY)) (Q (SV.bool !(rWX == (0 : Int) && rWY == (0 : Int))) []) (Q (SV.bool false) [])) (Q (SV.bool false) [])) := by kernel_rfl

theorem ok_specRayOk : FsOk Tryz.prog 147 fs_specRayOk := fsOk_of tt_ok (tabFs_cons ok_l3Place tabFs_nil) mixed Tryz.func147 (by kernel_rfl) (by kernel_rfl) (by
    intro args LL p r HH h hp
    unfold fs_specRayOk at h
    dsimp only at h
    split at h
    case h_2 => cases h
    rename_i rFX rFY rWX rWY
    simp only [Option.some.injEq, Prod.mk.injEq] at h
    obtain ⟨rfl, rfl, rfl⟩ := h
    refine ⟨by simp [Form, stays], L0, ?_⟩
    rw [vc_specRayOk]
    try dsimp only

    repeat' (first | refine ifB_of (fun _ => ?_) (fun _ => ?_) | refine pre_of ?_ (fun _ => ?_))
    all_goals first
      | rfl
      | (simp only [W, rayOk, *, cond_true, cond_false, Bool.true_and, Bool.false_and, Bool.and_true, Bool.and_false, Bool.not_true, Bool.not_false, and_self, true_and]; done)
      | (simp_all [W, rayOk]; done)
      | (simp_all [W, rayOk] <;> omega))

def fs_implRayAt : Fs := ⟨[], fun args H => match args, H with
  | [.agg [.int .i64 rFX, .int .i64 rFY, .int .i64 rWX, .int .i64 rWY], .int .i64 t], [] => some (none, .agg [.int .i64 (rayAt (Ray.mk (Vec.mk rFX rFY) (Vec.mk rWX rWY)) t).X, .int .i64 (rayAt (Ray.mk (Vec.mk rFX rFY) (Vec.mk rWX rWY)) t).Y], [])
  | _, _ => none⟩

theorem vc_implRayAt (rFX : Int) (rFY : Int) (rWX : Int) (rWY : Int) (t : Int) (Q : SV → List Ent → Prop) :
    fnVC tt (look [(112, fs_vecPlus), (174, fs_vecScaled)]) L0 Tryz.f207 [.agg [.int .i64 rFX, .int .i64 rFY, .int .i64 rWX, .int .i64 rWY], .int .i64 t] [] Q =
    (Q (SV.agg [SV.int IntKind.i64 (Vec.X (plus (Vec.mk rFX rFY) (scaled (Vec.mk rWX rWY) t))), SV.int IntKind.i64 (Vec.Y (plus (Vec.mk rFX rFY) (scaled (Vec.mk rWX rWY) t)))]) []) := by kernel_rfl

theorem ok_implRayAt : FsOk Tryz.prog 207 fs_implRayAt := fsOk_of tt_ok (tabFs_cons ok_vecPlus (tabFs_cons ok_vecScaled tabFs_nil)) mixed Tryz.func207 (by kernel_rfl) (by kernel_rfl) (by
    intro args LL p r HH h hp
    unfold fs_implRayAt at h
    dsimp only at h
    split at h
    case h_2 => cases h
    rename_i rFX rFY rWX rWY t
    simp only [Option.some.injEq, Prod.mk.injEq] at h
    obtain ⟨rfl, rfl, rfl⟩ := h
    refine ⟨by simp [Form, stays], L0, ?_⟩
    rw [vc_implRayAt]
    try dsimp only

    repeat' (first | refine ifB_of (fun _ => ?_) (fun _ => ?_) | refine pre_of ?_ (fun _ => ?_))
    all_goals first
      | rfl
      | (simp only [W, rayAt, *, cond_true, cond_false, Bool.true_and, Bool.false_and, Bool.and_true, Bool.and_false, Bool.not_true, Bool.not_false, and_self, true_and]; done)
      | (simp_all [W, rayAt]; done)
      | (simp_all [W, rayAt] <;> omega))

def fs_l5On : Fs := ⟨[], fun args H => match args, H with
  | [.agg [.int .i64 rFX, .int .i64 rFY, .int .i64 rWX, .int .i64 rWY], .int .i64 t], [] => some (none, .agg [.int .i64 (rayAt (Ray.mk (Vec.mk rFX rFY) (Vec.mk rWX rWY)) t).X, .int .i64 (rayAt (Ray.mk (Vec.mk rFX rFY) (Vec.mk rWX rWY)) t).Y], [])
  | _, _ => none⟩

theorem vc_l5On (rFX : Int) (rFY : Int) (rWX : Int) (rWY : Int) (t : Int) (Q : SV → List Ent → Prop) :
    fnVC tt (look []) L0 Tryz.f234 [.agg [.int .i64 rFX, .int .i64 rFY, .int .i64 rWX, .int .i64 rWY], .int .i64 t] [] Q =
    (Q (SV.agg [SV.int IntKind.i64 (IntKind.wrap IntKind.i64 (rFX + IntKind.wrap IntKind.i64 (Int.tdiv (IntKind.wrap IntKind.i64 (rWX * t)) (256 : Int)))), SV.int IntKind.i64 (IntKind.wrap IntKind.i64 (rFY + IntKind.wrap IntKind.i64 (Int.tdiv (IntKind.wrap IntKind.i64 (rWY * t)) (256 : Int))))]) []) := by kernel_rfl

theorem ok_l5On : FsOk Tryz.prog 234 fs_l5On := fsOk_of tt_ok tabFs_nil mixed Tryz.func234 (by kernel_rfl) (by kernel_rfl) (by
    intro args LL p r HH h hp
    unfold fs_l5On at h
    dsimp only at h
    split at h
    case h_2 => cases h
    rename_i rFX rFY rWX rWY t
    simp only [Option.some.injEq, Prod.mk.injEq] at h
    obtain ⟨rfl, rfl, rfl⟩ := h
    refine ⟨by simp [Form, stays], L0, ?_⟩
    rw [vc_l5On]
    try dsimp only

    repeat' (first | refine ifB_of (fun _ => ?_) (fun _ => ?_) | refine pre_of ?_ (fun _ => ?_))
    all_goals first
      | rfl
      | (simp only [W, rayAt, plus, scaled, *, cond_true, cond_false, Bool.true_and, Bool.false_and, Bool.and_true, Bool.and_false, Bool.not_true, Bool.not_false, and_self, true_and]; done)
      | (simp_all [W, rayAt, plus, scaled]; done)
      | (simp_all [W, rayAt, plus, scaled] <;> omega))

def fs_l3Bounds : Fs := ⟨[], fun args H => match args, H with
  | [.agg [.int .i64 sK, .int .i64 sW, .int .i64 sH], .agg [.int .i64 pX, .int .i64 pY]], [] => some (none, .agg [.int .i64 (bounds (Shape.mk sK sW sH) (Vec.mk pX pY)).Low.X, .int .i64 (bounds (Shape.mk sK sW sH) (Vec.mk pX pY)).Low.Y, .int .i64 (bounds (Shape.mk sK sW sH) (Vec.mk pX pY)).High.X, .int .i64 (bounds (Shape.mk sK sW sH) (Vec.mk pX pY)).High.Y], [])
  | _, _ => none⟩

theorem vc_l3Bounds (sK : Int) (sW : Int) (sH : Int) (pX : Int) (pY : Int) (Q : SV → List Ent → Prop) :
    fnVC tt (look []) L0 Tryz.f122 [.agg [.int .i64 sK, .int .i64 sW, .int .i64 sH], .agg [.int .i64 pX, .int .i64 pY]] [] Q =
    (ifB (sK == (1 : Int)) (Q (SV.agg [SV.int IntKind.i64 (IntKind.wrap IntKind.i64 (pX - sW)), SV.int IntKind.i64 (IntKind.wrap IntKind.i64 (pY - sW)), SV.int IntKind.i64 (IntKind.wrap IntKind.i64 (pX + sW)), SV.int IntKind.i64 (IntKind.wrap IntKind.i64 (pY + sW))]) []) (Q (SV.agg [SV.int IntKind.i64 (IntKind.wrap IntKind.i64 (pX - sW)), SV.int IntKind.i64 (IntKind.wrap IntKind.i64 (pY - sH)), SV.int IntKind.i64 (IntKind.wrap IntKind.i64 (pX + sW)), SV.int IntKind.i64 (IntKind.wrap IntKind.i64 (pY + sH))]) [])) := by kernel_rfl

theorem ok_l3Bounds : FsOk Tryz.prog 122 fs_l3Bounds := fsOk_of tt_ok tabFs_nil mixed Tryz.func122 (by kernel_rfl) (by kernel_rfl) (by
    intro args LL p r HH h hp
    unfold fs_l3Bounds at h
    dsimp only at h
    split at h
    case h_2 => cases h
    rename_i sK sW sH pX pY
    simp only [Option.some.injEq, Prod.mk.injEq] at h
    obtain ⟨rfl, rfl, rfl⟩ := h
    refine ⟨by simp [Form, stays], L0, ?_⟩
    rw [vc_l3Bounds]
    try dsimp only

    repeat' (first | refine ifB_of (fun _ => ?_) (fun _ => ?_) | refine pre_of ?_ (fun _ => ?_))
    all_goals first
      | rfl
      | (simp only [W, bounds, *, cond_true, cond_false, Bool.true_and, Bool.false_and, Bool.and_true, Bool.and_false, Bool.not_true, Bool.not_false, and_self, true_and]; done)
      | (simp_all [W, bounds]; done)
      | (simp_all [W, bounds] <;> omega))

def fs_l3Point : Fs := ⟨[], fun args H => match args, H with
  | [.agg [.int .i64 bLX, .int .i64 bLY, .int .i64 bHX, .int .i64 bHY], .agg [.int .i64 pX, .int .i64 pY]], [] => some (none, .bool (hasPoint (Box.mk (Vec.mk bLX bLY) (Vec.mk bHX bHY)) (Vec.mk pX pY)), [])
  | _, _ => none⟩

theorem vc_l3Point (bLX : Int) (bLY : Int) (bHX : Int) (bHY : Int) (pX : Int) (pY : Int) (Q : SV → List Ent → Prop) :
    fnVC tt (look [(74, fs_l1In)]) L0 Tryz.f196 [.agg [.int .i64 bLX, .int .i64 bLY, .int .i64 bHX, .int .i64 bHY], .agg [.int .i64 pX, .int .i64 pY]] [] Q =
    (ifB (isIn pX bLX bHX) (Q (SV.bool (isIn pY bLY bHY)) []) (Q (SV.bool false) [])) := by kernel_rfl

theorem ok_l3Point : FsOk Tryz.prog 196 fs_l3Point := fsOk_of tt_ok (tabFs_cons ok_l1In tabFs_nil) mixed Tryz.func196 (by kernel_rfl) (by kernel_rfl) (by
    intro args LL p r HH h hp
    unfold fs_l3Point at h
    dsimp only at h
    split at h
    case h_2 => cases h
    rename_i bLX bLY bHX bHY pX pY
    simp only [Option.some.injEq, Prod.mk.injEq] at h
    obtain ⟨rfl, rfl, rfl⟩ := h
    refine ⟨by simp [Form, stays], L0, ?_⟩
    rw [vc_l3Point]
    try dsimp only

    repeat' (first | refine ifB_of (fun _ => ?_) (fun _ => ?_) | refine pre_of ?_ (fun _ => ?_))
    all_goals first
      | rfl
      | (simp only [W, hasPoint, *, cond_true, cond_false, Bool.true_and, Bool.false_and, Bool.and_true, Bool.and_false, Bool.not_true, Bool.not_false, and_self, true_and]; done)
      | (simp_all [W, hasPoint]; done)
      | (simp_all [W, hasPoint] <;> omega))

def fs_l3Has : Fs := ⟨[], fun args H => match args, H with
  | [.agg [.int .i64 sK, .int .i64 sW, .int .i64 sH], .agg [.int .i64 pX, .int .i64 pY], .agg [.int .i64 qX, .int .i64 qY]], [] => some (none, .bool (shapeHas (Shape.mk sK sW sH) (Vec.mk pX pY) (Vec.mk qX qY)), [])
  | _, _ => none⟩

theorem vc_l3Has (sK : Int) (sW : Int) (sH : Int) (pX : Int) (pY : Int) (qX : Int) (qY : Int) (Q : SV → List Ent → Prop) :
    fnVC tt (look [(122, fs_l3Bounds), (196, fs_l3Point), (197, fs_l2Square)]) L0 Tryz.f131 [.agg [.int .i64 sK, .int .i64 sW, .int .i64 sH], .agg [.int .i64 pX, .int .i64 pY], .agg [.int .i64 qX, .int .i64 qY]] [] Q =
    (ifB (sK == (2 : Int)) (Q (SV.bool (hasPoint (bounds (Shape.mk sK sW sH) (Vec.mk pX pY)) (Vec.mk qX qY))) []) (Q (SV.bool (decide (square (Vec.mk (IntKind.wrap IntKind.i64 (qX - pX)) (IntKind.wrap IntKind.i64 (qY - pY))) ≤ IntKind.wrap IntKind.i64 (sW * sW)))) [])) := by kernel_rfl

theorem ok_l3Has : FsOk Tryz.prog 131 fs_l3Has := fsOk_of tt_ok (tabFs_cons ok_l3Bounds (tabFs_cons ok_l3Point (tabFs_cons ok_l2Square tabFs_nil))) mixed Tryz.func131 (by kernel_rfl) (by kernel_rfl) (by
    intro args LL p r HH h hp
    unfold fs_l3Has at h
    dsimp only at h
    split at h
    case h_2 => cases h
    rename_i sK sW sH pX pY qX qY
    simp only [Option.some.injEq, Prod.mk.injEq] at h
    obtain ⟨rfl, rfl, rfl⟩ := h
    refine ⟨by simp [Form, stays], L0, ?_⟩
    rw [vc_l3Has]
    try dsimp only
    refine ifB_of (fun h => ?_) (fun h => ?_)
    · simp only [shapeHas, h, cond_true, and_self]
    · refine ⟨?_, rfl⟩
      simp only [shapeHas, h, cond_false]
      rfl)

def LSl5RayRound (r : Ray) (p : Vec) (wide : Int) : LS where
  S := Int × Ray × Vec × Int
  live := [(2, [none]), (3, [none]), (4, [none]), (8, [none])]
  shape := fun s => ([.int .i64 s.1, .ptr 0 0 0, .ptr 1 0 0, .int .i64 s.2.2.2], [(true, .box [.int .i64 s.2.1.From.X, .int .i64 s.2.1.From.Y, .int .i64 s.2.1.Way.X, .int .i64 s.2.1.Way.Y]), (true, .box [.int .i64 s.2.2.1.X, .int .i64 s.2.2.1.Y])])
  get := fun v h => match v, h with
    | [.int .i64 wide', .ptr 0 0 0, .ptr 1 0 0, .int .i64 t], [(true, .box [.int .i64 r'FX, .int .i64 r'FY, .int .i64 r'WX, .int .i64 r'WY]), (true, .box [.int .i64 p'X, .int .i64 p'Y])] => some (wide', (Ray.mk (Vec.mk r'FX r'FY) (Vec.mk r'WX r'WY)), (Vec.mk p'X p'Y), t)
    | _, _ => none
  inv := fun s0 s => Holds (s.1 = wide ∧ s.2.1 = r ∧ s.2.2.1 = p ∧ 0 ≤ s.2.2.2 ∧ s.2.2.2 ≤ 257 ∧ roundFrom r p wide 257 = roundFrom r p wide (257 - s.2.2.2).toNat)
  mu := fun s => (257 - s.2.2.2).toNat
  ok := by
    intro v h s hg
    try dsimp only at hg
    split at hg <;> cases hg
    rfl

def L_l5RayRound (r : Ray) (p : Vec) (wide : Int) : Loops := fun n => match n with
  | 2 => some (LSl5RayRound r p wide)
  | _ => none
def fs_l5RayRound : Fs := ⟨[], fun args H => match args, H with
  | [.agg [.int .i64 rFX, .int .i64 rFY, .int .i64 rWX, .int .i64 rWY], .agg [.int .i64 pX, .int .i64 pY], .int .i64 wide], [] => some (none, .tup [.int .i64 ((roundFrom (Ray.mk (Vec.mk rFX rFY) (Vec.mk rWX rWY)) (Vec.mk pX pY) wide 257).1), .bool ((roundFrom (Ray.mk (Vec.mk rFX rFY) (Vec.mk rWX rWY)) (Vec.mk pX pY) wide 257).2)], [])
  | _, _ => none⟩

theorem vc_l5RayRound (rFX : Int) (rFY : Int) (rWX : Int) (rWY : Int) (pX : Int) (pY : Int) (wide : Int) (Q : SV → List Ent → Prop) :
    fnVC tt (look [(234, fs_l5On), (131, fs_l3Has)]) (L_l5RayRound (Ray.mk (Vec.mk rFX rFY) (Vec.mk rWX rWY)) (Vec.mk pX pY) wide) Tryz.f205 [.agg [.int .i64 rFX, .int .i64 rFY, .int .i64 rWX, .int .i64 rWY], .agg [.int .i64 pX, .int .i64 pY], .int .i64 wide] [] Q =
    (Holds (wide = wide ∧ Ray.mk (Vec.mk rFX rFY) (Vec.mk rWX rWY) = Ray.mk (Vec.mk rFX rFY) (Vec.mk rWX rWY) ∧ Vec.mk pX pY = Vec.mk pX pY ∧ (0 : Int) ≤ (0 : Int) ∧ (0 : Int) ≤ (257 : Int) ∧ roundFrom (Ray.mk (Vec.mk rFX rFY) (Vec.mk rWX rWY)) (Vec.mk pX pY) wide (257 : Nat) = roundFrom (Ray.mk (Vec.mk rFX rFY) (Vec.mk rWX rWY)) (Vec.mk pX pY) wide (Int.toNat ((257 : Int) - (0 : Int)))) ∧ ∀ (x : Int × Ray × Vec × Int), Holds (Prod.fst x = wide ∧ Prod.fst (Prod.snd x) = Ray.mk (Vec.mk rFX rFY) (Vec.mk rWX rWY) ∧ Prod.fst (Prod.snd (Prod.snd x)) = Vec.mk pX pY ∧ (0 : Int) ≤ Prod.snd (Prod.snd (Prod.snd x)) ∧ Prod.snd (Prod.snd (Prod.snd x)) ≤ (257 : Int) ∧ roundFrom (Ray.mk (Vec.mk rFX rFY) (Vec.mk rWX rWY)) (Vec.mk pX pY) wide (257 : Nat) = roundFrom (Ray.mk (Vec.mk rFX rFY) (Vec.mk rWX rWY)) (Vec.mk pX pY) wide (Int.toNat ((257 : Int) - Prod.snd (Prod.snd (Prod.snd x))))) → ifB (decide (Prod.snd (Prod.snd (Prod.snd x)) ≤ (256 : Int))) (ifB (shapeHas (Shape.mk (1 : Int) (Prod.fst x) (0 : Int)) (Prod.fst (Prod.snd (Prod.snd x))) (rayAt (Prod.fst (Prod.snd x)) (Prod.snd (Prod.snd (Prod.snd x))))) (Q (SV.tup [SV.int IntKind.i64 (Prod.snd (Prod.snd (Prod.snd x))), SV.bool true]) []) (Holds (Prod.fst x = wide ∧ Prod.fst (Prod.snd x) = Ray.mk (Vec.mk rFX rFY) (Vec.mk rWX rWY) ∧ Prod.fst (Prod.snd (Prod.snd x)) = Vec.mk pX pY ∧ (0 : Int) ≤ IntKind.wrap IntKind.i64 (Prod.snd (Prod.snd (Prod.snd x)) + (1 : Int)) ∧ IntKind.wrap IntKind.i64 (Prod.snd (Prod.snd (Prod.snd x)) + (1 : Int)) ≤ (257 : Int) ∧ roundFrom (Ray.mk (Vec.mk rFX rFY) (Vec.mk rWX rWY)) (Vec.mk pX pY) wide (257 : Nat) = roundFrom (Ray.mk (Vec.mk rFX rFY) (Vec.mk rWX rWY)) (Vec.mk pX pY) wide (Int.toNat ((257 : Int) - IntKind.wrap IntKind.i64 (Prod.snd (Prod.snd (Prod.snd x)) + (1 : Int))))) ∧ Int.toNat ((257 : Int) - IntKind.wrap IntKind.i64 (Prod.snd (Prod.snd (Prod.snd x)) + (1 : Int))) < Int.toNat ((257 : Int) - Prod.snd (Prod.snd (Prod.snd x))))) (Q (SV.tup [SV.int IntKind.i64 (0 : Int), SV.bool false]) [])) := by kernel_rfl

theorem ok_l5RayRound : FsOk Tryz.prog 205 fs_l5RayRound := fsOk_of tt_ok (tabFs_cons ok_l5On (tabFs_cons ok_l3Has tabFs_nil)) mixed Tryz.func205 (by kernel_rfl) (by kernel_rfl) (by
    intro args LL p r HH h hp
    unfold fs_l5RayRound at h
    dsimp only at h
    split at h
    case h_2 => cases h
    rename_i rFX rFY rWX rWY pX pY wide
    simp only [Option.some.injEq, Prod.mk.injEq] at h
    obtain ⟨rfl, rfl, rfl⟩ := h
    refine ⟨by simp [Form, stays], (L_l5RayRound (Ray.mk (Vec.mk rFX rFY) (Vec.mk rWX rWY)) (Vec.mk pX pY) wide), ?_⟩
    rw [vc_l5RayRound]
    try dsimp only
    refine ⟨⟨rfl, rfl, rfl, by omega, by omega, rfl⟩, ?_⟩
    rintro ⟨wide', r', p', t⟩ ⟨h⟩
    obtain ⟨rfl, rfl, rfl, h0, h1, h2⟩ := h
    dsimp only at h0 h1 h2 ⊢
    refine ifB_of (fun c => ?_) (fun c => ?_)
    · have ht : t ≤ 256 := of_decide_eq_true c
      have hs := roundFrom_step (r := ⟨⟨rFX, rFY⟩, ⟨rWX, rWY⟩⟩) (p := ⟨pX, pY⟩) (wide := wide') h0 (show t < 257 by omega)
      refine ifB_of (fun c => ?_) (fun c => ?_)
      · have c : roundAt ⟨⟨rFX, rFY⟩, ⟨rWX, rWY⟩⟩ ⟨pX, pY⟩ wide' t = true := c
        rw [h2, hs, c]
        exact ⟨rfl, rfl⟩
      · have c : roundAt ⟨⟨rFX, rFY⟩, ⟨rWX, rWY⟩⟩ ⟨pX, pY⟩ wide' t = false := c
        have hw : IntKind.i64.wrap (t + 1) = t + 1 := wrap_small (by omega) (by omega)
        rw [hw]
        refine ⟨⟨rfl, rfl, rfl, by omega, by omega, ?_⟩, by omega⟩
        rw [h2, hs, c]
        rfl
    · have ht : ¬ t ≤ 256 := of_decide_eq_false c
      have : t = 257 := by omega
      subst this
      rw [h2]
      exact ⟨rfl, rfl⟩)

def LSimplRayRound (r : Ray) (p : Vec) (wide : Int) : LS where
  S := Int × Ray × Vec × Int
  live := [(2, [none]), (3, [none]), (4, [none]), (22, [none])]
  shape := fun s => ([.int .i64 s.1, .ptr 0 0 0, .ptr 1 0 0, .int .i64 s.2.2.2], [(true, .box [.int .i64 s.2.1.From.X, .int .i64 s.2.1.From.Y, .int .i64 s.2.1.Way.X, .int .i64 s.2.1.Way.Y]), (true, .box [.int .i64 s.2.2.1.X, .int .i64 s.2.2.1.Y])])
  get := fun v h => match v, h with
    | [.int .i64 wide', .ptr 0 0 0, .ptr 1 0 0, .int .i64 t], [(true, .box [.int .i64 r'FX, .int .i64 r'FY, .int .i64 r'WX, .int .i64 r'WY]), (true, .box [.int .i64 p'X, .int .i64 p'Y])] => some (wide', (Ray.mk (Vec.mk r'FX r'FY) (Vec.mk r'WX r'WY)), (Vec.mk p'X p'Y), t)
    | _, _ => none
  inv := fun s0 s => Holds (s.1 = wide ∧ s.2.1 = r ∧ s.2.2.1 = p ∧ 0 ≤ s.2.2.2 ∧ s.2.2.2 ≤ 257 ∧ roundFrom r p wide 257 = roundFrom r p wide (257 - s.2.2.2).toNat)
  mu := fun s => (257 - s.2.2.2).toNat
  ok := by
    intro v h s hg
    try dsimp only at hg
    split at hg <;> cases hg
    rfl

def L_implRayRound (r : Ray) (p : Vec) (wide : Int) : Loops := fun n => match n with
  | 4 => some (LSimplRayRound r p wide)
  | _ => none
def fs_implRayRound : Fs := ⟨[], fun args H => match args, H with
  | [.agg [.int .i64 rFX, .int .i64 rFY, .int .i64 rWX, .int .i64 rWY], .agg [.int .i64 pX, .int .i64 pY], .int .i64 wide], [] => some (none, .tup [.int .i64 ((rayRound (Ray.mk (Vec.mk rFX rFY) (Vec.mk rWX rWY)) (Vec.mk pX pY) wide).1), .bool ((rayRound (Ray.mk (Vec.mk rFX rFY) (Vec.mk rWX rWY)) (Vec.mk pX pY) wide).2)], [])
  | _, _ => none⟩

theorem vc_implRayRound (rFX : Int) (rFY : Int) (rWX : Int) (rWY : Int) (pX : Int) (pY : Int) (wide : Int) (Q : SV → List Ent → Prop) :
    fnVC tt (look [(149, fs_implRayOk), (127, fs_isPlace), (77, fs_in_), (207, fs_implRayAt), (132, fs_vecMinus), (133, fs_vecSquare)]) (L_implRayRound (Ray.mk (Vec.mk rFX rFY) (Vec.mk rWX rWY)) (Vec.mk pX pY) wide) Tryz.f150 [.agg [.int .i64 rFX, .int .i64 rFY, .int .i64 rWX, .int .i64 rWY], .agg [.int .i64 pX, .int .i64 pY], .int .i64 wide] [] Q =
    (ifB (!rayOk (Ray.mk (Vec.mk rFX rFY) (Vec.mk rWX rWY))) (Q (SV.tup [SV.int IntKind.i64 (0 : Int), SV.bool false]) []) (ifB (!placeOk (Vec.mk pX pY)) (Q (SV.tup [SV.int IntKind.i64 (0 : Int), SV.bool false]) []) (ifB (!isIn wide (1 : Int) (25600 : Int)) (Q (SV.tup [SV.int IntKind.i64 (0 : Int), SV.bool false]) []) (Holds (wide = wide ∧ Ray.mk (Vec.mk rFX rFY) (Vec.mk rWX rWY) = Ray.mk (Vec.mk rFX rFY) (Vec.mk rWX rWY) ∧ Vec.mk pX pY = Vec.mk pX pY ∧ (0 : Int) ≤ (0 : Int) ∧ (0 : Int) ≤ (257 : Int) ∧ roundFrom (Ray.mk (Vec.mk rFX rFY) (Vec.mk rWX rWY)) (Vec.mk pX pY) wide (257 : Nat) = roundFrom (Ray.mk (Vec.mk rFX rFY) (Vec.mk rWX rWY)) (Vec.mk pX pY) wide (Int.toNat ((257 : Int) - (0 : Int)))) ∧ ∀ (x : Int × Ray × Vec × Int), Holds (Prod.fst x = wide ∧ Prod.fst (Prod.snd x) = Ray.mk (Vec.mk rFX rFY) (Vec.mk rWX rWY) ∧ Prod.fst (Prod.snd (Prod.snd x)) = Vec.mk pX pY ∧ (0 : Int) ≤ Prod.snd (Prod.snd (Prod.snd x)) ∧ Prod.snd (Prod.snd (Prod.snd x)) ≤ (257 : Int) ∧ roundFrom (Ray.mk (Vec.mk rFX rFY) (Vec.mk rWX rWY)) (Vec.mk pX pY) wide (257 : Nat) = roundFrom (Ray.mk (Vec.mk rFX rFY) (Vec.mk rWX rWY)) (Vec.mk pX pY) wide (Int.toNat ((257 : Int) - Prod.snd (Prod.snd (Prod.snd x))))) → ifB (decide (Prod.snd (Prod.snd (Prod.snd x)) < (257 : Int))) (ifB (decide (square (minus (rayAt (Prod.fst (Prod.snd x)) (Prod.snd (Prod.snd (Prod.snd x)))) (Prod.fst (Prod.snd (Prod.snd x)))) ≤ IntKind.wrap IntKind.i64 (Prod.fst x * Prod.fst x))) (Q (SV.tup [SV.int IntKind.i64 (Prod.snd (Prod.snd (Prod.snd x))), SV.bool true]) []) (Holds (Prod.fst x = wide ∧ Prod.fst (Prod.snd x) = Ray.mk (Vec.mk rFX rFY) (Vec.mk rWX rWY) ∧ Prod.fst (Prod.snd (Prod.snd x)) = Vec.mk pX pY ∧ (0 : Int) ≤ IntKind.wrap IntKind.i64 (Prod.snd (Prod.snd (Prod.snd x)) + (1 : Int)) ∧ IntKind.wrap IntKind.i64 (Prod.snd (Prod.snd (Prod.snd x)) + (1 : Int)) ≤ (257 : Int) ∧ roundFrom (Ray.mk (Vec.mk rFX rFY) (Vec.mk rWX rWY)) (Vec.mk pX pY) wide (257 : Nat) = roundFrom (Ray.mk (Vec.mk rFX rFY) (Vec.mk rWX rWY)) (Vec.mk pX pY) wide (Int.toNat ((257 : Int) - IntKind.wrap IntKind.i64 (Prod.snd (Prod.snd (Prod.snd x)) + (1 : Int))))) ∧ Int.toNat ((257 : Int) - IntKind.wrap IntKind.i64 (Prod.snd (Prod.snd (Prod.snd x)) + (1 : Int))) < Int.toNat ((257 : Int) - Prod.snd (Prod.snd (Prod.snd x))))) (Q (SV.tup [SV.int IntKind.i64 (0 : Int), SV.bool false]) []))))) := by kernel_rfl

theorem ok_implRayRound : FsOk Tryz.prog 150 fs_implRayRound := fsOk_of tt_ok (tabFs_cons ok_implRayOk (tabFs_cons ok_isPlace (tabFs_cons ok_in_ (tabFs_cons ok_implRayAt (tabFs_cons ok_vecMinus (tabFs_cons ok_vecSquare tabFs_nil)))))) mixed Tryz.func150 (by kernel_rfl) (by kernel_rfl) (by
    intro args LL p r HH h hp
    unfold fs_implRayRound at h
    dsimp only at h
    split at h
    case h_2 => cases h
    rename_i rFX rFY rWX rWY pX pY wide
    simp only [Option.some.injEq, Prod.mk.injEq] at h
    obtain ⟨rfl, rfl, rfl⟩ := h
    refine ⟨by simp [Form, stays], (L_implRayRound (Ray.mk (Vec.mk rFX rFY) (Vec.mk rWX rWY)) (Vec.mk pX pY) wide), ?_⟩
    rw [vc_implRayRound]
    try dsimp only
    refine ifB_of (fun h1 => ?_) (fun h1 => ?_)
    · have h1 : rayOk ⟨⟨rFX, rFY⟩, ⟨rWX, rWY⟩⟩ = false := by simpa using h1
      simp [rayRound, h1]
    refine ifB_of (fun h2 => ?_) (fun h2 => ?_)
    · have h2 : placeOk ⟨pX, pY⟩ = false := by simpa using h2
      simp [rayRound, h2]
    refine ifB_of (fun h3 => ?_) (fun h3 => ?_)
    · have h3 : isIn wide 1 25600 = false := by simpa using h3
      simp [rayRound, h3]
    have e : rayRound ⟨⟨rFX, rFY⟩, ⟨rWX, rWY⟩⟩ ⟨pX, pY⟩ wide = roundFrom ⟨⟨rFX, rFY⟩, ⟨rWX, rWY⟩⟩ ⟨pX, pY⟩ wide 257 := by
      have h1 : rayOk ⟨⟨rFX, rFY⟩, ⟨rWX, rWY⟩⟩ = true := by simpa using h1
      have h2 : placeOk ⟨pX, pY⟩ = true := by simpa using h2
      have h3 : isIn wide 1 25600 = true := by simpa using h3
      simp [rayRound, h1, h2, h3]
    rw [e]
    refine ⟨⟨rfl, rfl, rfl, by omega, by omega, rfl⟩, ?_⟩
    rintro ⟨wide', r', p', t⟩ ⟨h⟩
    obtain ⟨rfl, rfl, rfl, h0, h1, h2⟩ := h
    dsimp only at h0 h1 h2 ⊢
    refine ifB_of (fun c => ?_) (fun c => ?_)
    · have ht : t < 257 := of_decide_eq_true c
      have hs := roundFrom_step (r := ⟨⟨rFX, rFY⟩, ⟨rWX, rWY⟩⟩) (p := ⟨pX, pY⟩) (wide := wide') h0 ht
      refine ifB_of (fun c => ?_) (fun c => ?_)
      · have c : roundAt ⟨⟨rFX, rFY⟩, ⟨rWX, rWY⟩⟩ ⟨pX, pY⟩ wide' t = true := c
        rw [h2, hs, c]
        exact ⟨rfl, rfl⟩
      · have c : roundAt ⟨⟨rFX, rFY⟩, ⟨rWX, rWY⟩⟩ ⟨pX, pY⟩ wide' t = false := c
        have hw : IntKind.i64.wrap (t + 1) = t + 1 := wrap_small (by omega) (by omega)
        rw [hw]
        refine ⟨⟨rfl, rfl, rfl, by omega, by omega, ?_⟩, by omega⟩
        rw [h2, hs, c]
        rfl
    · have ht : ¬ t < 257 := of_decide_eq_false c
      have : t = 257 := by omega
      subst this
      rw [h2]
      exact ⟨rfl, rfl⟩)



end Go.Proofs.YtdhbkcaaijgocaaGreat.Sym

namespace Go.Proofs.YtdhbkcaaijgocaaGreat.Sym
open Go
set_option linter.unusedVariables false
set_option linter.unusedSimpArgs false
set_option maxRecDepth 100000

def down (a b : Int) : Int :=
  if a.tmod b ≠ 0 ∧ ¬ ((a < 0) ↔ (b < 0)) then W (W (a.tdiv b) - 1) else W (a.tdiv b)
def slab (f w lo hi a b : Int) : Int × Int × Bool :=
  if w = 0 then (a, b, isIn f lo hi)
  else if w < 0 then
    let x := down (W (W (hi - f) * 256)) w
    let y := W (0 - down (W (W (f - lo) * 256)) w)
    let a' := max a x
    let b' := min b y
    (a', b', decide (a' ≤ b'))
  else
    let x := down (W (W (lo - f) * 256)) w
    let y := W (0 - down (W (W (f - hi) * 256)) w)
    let a' := max a x
    let b' := min b y
    (a', b', decide (a' ≤ b'))
def rayBox (r : Ray) (b : Box) : Int × Bool :=
  let s := slab r.From.X r.Way.X b.Low.X b.High.X 0 256
  if s.2.2 then
    let t := slab r.From.Y r.Way.Y b.Low.Y b.High.Y s.1 s.2.1
    if t.2.2 then (t.1, true) else (0, false)
  else (0, false)
def boxOk (b : Box) : Bool := vecOk b.Low && vecOk b.High && decide (b.Low.X ≤ b.High.X) && decide (b.Low.Y ≤ b.High.Y)
def shapeOk (s : Shape) : Bool :=
  if s.Kind = 1 then isIn s.Wide 1 25600 && s.High == 0 else if s.Kind = 2 then isIn s.Wide 1 25600 && isIn s.High 1 25600 else false
def rayShape (r : Ray) (s : Shape) (p : Vec) : Int × Bool :=
  if rayOk r && shapeOk s && placeOk p then (if s.Kind = 1 then rayRound r p s.Wide else rayBox r (bounds s p)) else (0, false)

theorem W_neg (a b : Int) : W (0 - W (a - b)) = W (b - a) := by
  simp only [W, IntKind.wrap_i64]
  omega

theorem W_neg' (a b : Int) : IntKind.i64.wrap (0 - IntKind.i64.wrap (a - b)) = IntKind.i64.wrap (b - a) := W_neg a b

theorem max_b {a x : Int} : (if x > a then x else a) = max a x := by
  split
  · rw [Int.max_eq_right (by omega)]
  · rw [Int.max_eq_left (by omega)]
theorem min_b {b y : Int} : (if y < b then y else b) = min b y := by
  split
  · rw [Int.min_eq_right (by omega)]
  · rw [Int.min_eq_left (by omega)]

def fs_implDown : Fs := ⟨[], fun args H => match args, H with
  | [.int .i64 a, .int .i64 b], [] => some ((some (b ≠ 0)), .int .i64 (down a b), [])
  | _, _ => none⟩

theorem vc_implDown (a : Int) (b : Int) (Q : SV → List Ent → Prop) :
    fnVC tt (look []) L0 Tryz.f236 [.int .i64 a, .int .i64 b] [] Q =
    (b ≠ (0 : Int) ∧ b ≠ (0 : Int) ∧ ifB (Int.tmod a b != (0 : Int)) (ifB (!decide (a < (0 : Int)) == decide (b < (0 : Int))) (Q (SV.int IntKind.i64 (IntKind.wrap IntKind.i64 (IntKind.wrap IntKind.i64 (Int.tdiv a b) - (1 : Int)))) []) (Q (SV.int IntKind.i64 (IntKind.wrap IntKind.i64 (Int.tdiv a b))) [])) (Q (SV.int IntKind.i64 (IntKind.wrap IntKind.i64 (Int.tdiv a b))) [])) := by kernel_rfl

theorem ok_implDown : FsOk Tryz.prog 236 fs_implDown := fsOk_of tt_ok tabFs_nil mixed Tryz.func236 (by kernel_rfl) (by kernel_rfl) (by
    intro args LL p r HH h hp
    unfold fs_implDown at h
    dsimp only at h
    split at h
    case h_2 => cases h
    rename_i a b
    simp only [Option.some.injEq, Prod.mk.injEq] at h
    obtain ⟨rfl, rfl, rfl⟩ := h
    refine ⟨by simp [Form, stays], L0, ?_⟩
    rw [vc_implDown]
    try dsimp only
    have hb := hp _ rfl
    repeat' (first | refine ifB_of (fun _ => ?_) (fun _ => ?_) | refine pre_of ?_ (fun _ => ?_))
    all_goals first
      | rfl
      | (simp only [W, down, *, cond_true, cond_false, Bool.true_and, Bool.false_and, Bool.and_true, Bool.and_false, Bool.not_true, Bool.not_false, and_self, true_and]; done)
      | (simp_all [W, down]; done)
      | (simp_all [W, down] <;> omega))

def fs_l5Down : Fs := ⟨[], fun args H => match args, H with
  | [.int .i64 a, .int .i64 b], [] => some ((some (b ≠ 0)), .int .i64 (down a b), [])
  | _, _ => none⟩

theorem vc_l5Down (a : Int) (b : Int) (Q : SV → List Ent → Prop) :
    fnVC tt (look []) L0 Tryz.f252 [.int .i64 a, .int .i64 b] [] Q =
    (b ≠ (0 : Int) ∧ b ≠ (0 : Int) ∧ ifB (Int.tmod a b != (0 : Int)) (ifB (!decide (a < (0 : Int)) == decide (b < (0 : Int))) (Q (SV.int IntKind.i64 (IntKind.wrap IntKind.i64 (IntKind.wrap IntKind.i64 (Int.tdiv a b) - (1 : Int)))) []) (Q (SV.int IntKind.i64 (IntKind.wrap IntKind.i64 (Int.tdiv a b))) [])) (Q (SV.int IntKind.i64 (IntKind.wrap IntKind.i64 (Int.tdiv a b))) [])) := by kernel_rfl

theorem ok_l5Down : FsOk Tryz.prog 252 fs_l5Down := fsOk_of tt_ok tabFs_nil mixed Tryz.func252 (by kernel_rfl) (by kernel_rfl) (by
    intro args LL p r HH h hp
    unfold fs_l5Down at h
    dsimp only at h
    split at h
    case h_2 => cases h
    rename_i a b
    simp only [Option.some.injEq, Prod.mk.injEq] at h
    obtain ⟨rfl, rfl, rfl⟩ := h
    refine ⟨by simp [Form, stays], L0, ?_⟩
    rw [vc_l5Down]
    try dsimp only
    have hb := hp _ rfl
    repeat' (first | refine ifB_of (fun _ => ?_) (fun _ => ?_) | refine pre_of ?_ (fun _ => ?_))
    all_goals first
      | rfl
      | (simp only [W, down, *, cond_true, cond_false, Bool.true_and, Bool.false_and, Bool.and_true, Bool.and_false, Bool.not_true, Bool.not_false, and_self, true_and]; done)
      | (simp_all [W, down]; done)
      | (simp_all [W, down] <;> omega))

def fs_l3More : Fs := ⟨[], fun args H => match args, H with
  | [.int .i64 a, .int .i64 b], [] => some (none, .int .i64 (max a b), [])
  | _, _ => none⟩

theorem vc_l3More (a : Int) (b : Int) (Q : SV → List Ent → Prop) :
    fnVC tt (look []) L0 Tryz.f237 [.int .i64 a, .int .i64 b] [] Q =
    (ifB (decide (a > b)) (Q (SV.int IntKind.i64 a) []) (Q (SV.int IntKind.i64 b) [])) := by kernel_rfl

theorem ok_l3More : FsOk Tryz.prog 237 fs_l3More := fsOk_of tt_ok tabFs_nil mixed Tryz.func237 (by kernel_rfl) (by kernel_rfl) (by
    intro args LL p r HH h hp
    unfold fs_l3More at h
    dsimp only at h
    split at h
    case h_2 => cases h
    rename_i a b
    simp only [Option.some.injEq, Prod.mk.injEq] at h
    obtain ⟨rfl, rfl, rfl⟩ := h
    refine ⟨by simp [Form, stays], L0, ?_⟩
    rw [vc_l3More]
    try dsimp only
    refine ifB_of (fun h => ?_) (fun h => ?_)
    · have h : a > b := of_decide_eq_true h
      rw [Int.max_eq_left (by omega)]
      exact ⟨rfl, rfl⟩
    · have h : ¬ a > b := of_decide_eq_false h
      rw [Int.max_eq_right (by omega)]
      exact ⟨rfl, rfl⟩)

def fs_l3Less : Fs := ⟨[], fun args H => match args, H with
  | [.int .i64 a, .int .i64 b], [] => some (none, .int .i64 (min a b), [])
  | _, _ => none⟩

theorem vc_l3Less (a : Int) (b : Int) (Q : SV → List Ent → Prop) :
    fnVC tt (look []) L0 Tryz.f213 [.int .i64 a, .int .i64 b] [] Q =
    (ifB (decide (a < b)) (Q (SV.int IntKind.i64 a) []) (Q (SV.int IntKind.i64 b) [])) := by kernel_rfl

theorem ok_l3Less : FsOk Tryz.prog 213 fs_l3Less := fsOk_of tt_ok tabFs_nil mixed Tryz.func213 (by kernel_rfl) (by kernel_rfl) (by
    intro args LL p r HH h hp
    unfold fs_l3Less at h
    dsimp only at h
    split at h
    case h_2 => cases h
    rename_i a b
    simp only [Option.some.injEq, Prod.mk.injEq] at h
    obtain ⟨rfl, rfl, rfl⟩ := h
    refine ⟨by simp [Form, stays], L0, ?_⟩
    rw [vc_l3Less]
    try dsimp only
    refine ifB_of (fun h => ?_) (fun h => ?_)
    · have h : a < b := of_decide_eq_true h
      rw [Int.min_eq_left (by omega)]
      exact ⟨rfl, rfl⟩
    · have h : ¬ a < b := of_decide_eq_false h
      rw [Int.min_eq_right (by omega)]
      exact ⟨rfl, rfl⟩)

def fs_l5Slab : Fs := ⟨[], fun args H => match args, H with
  | [.int .i64 f, .int .i64 w, .int .i64 lo, .int .i64 hi, .int .i64 a, .int .i64 b], [] => some (none, .tup [.int .i64 ((slab f w lo hi a b).1), .int .i64 ((slab f w lo hi a b).2.1), .bool ((slab f w lo hi a b).2.2)], [])
  | _, _ => none⟩

theorem vc_l5Slab (f : Int) (w : Int) (lo : Int) (hi : Int) (a : Int) (b : Int) (Q : SV → List Ent → Prop) :
    fnVC tt (look [(74, fs_l1In), (252, fs_l5Down), (237, fs_l3More), (213, fs_l3Less)]) L0 Tryz.f235 [.int .i64 f, .int .i64 w, .int .i64 lo, .int .i64 hi, .int .i64 a, .int .i64 b] [] Q =
    (ifB (w == (0 : Int)) (Q (SV.tup [SV.int IntKind.i64 a, SV.int IntKind.i64 b, SV.bool (isIn f lo hi)]) []) (ifB (decide (w < (0 : Int))) (w ≠ (0 : Int) ∧ w ≠ (0 : Int) ∧ Q (SV.tup [SV.int IntKind.i64 (max a (down (IntKind.wrap IntKind.i64 (IntKind.wrap IntKind.i64 (hi - f) * (256 : Int))) w)), SV.int IntKind.i64 (min b (IntKind.wrap IntKind.i64 ((0 : Int) - down (IntKind.wrap IntKind.i64 (IntKind.wrap IntKind.i64 (f - lo) * (256 : Int))) w))), SV.bool (decide (max a (down (IntKind.wrap IntKind.i64 (IntKind.wrap IntKind.i64 (hi - f) * (256 : Int))) w) ≤ min b (IntKind.wrap IntKind.i64 ((0 : Int) - down (IntKind.wrap IntKind.i64 (IntKind.wrap IntKind.i64 (f - lo) * (256 : Int))) w))))]) []) (w ≠ (0 : Int) ∧ w ≠ (0 : Int) ∧ Q (SV.tup [SV.int IntKind.i64 (max a (down (IntKind.wrap IntKind.i64 (IntKind.wrap IntKind.i64 (lo - f) * (256 : Int))) w)), SV.int IntKind.i64 (min b (IntKind.wrap IntKind.i64 ((0 : Int) - down (IntKind.wrap IntKind.i64 (IntKind.wrap IntKind.i64 (f - hi) * (256 : Int))) w))), SV.bool (decide (max a (down (IntKind.wrap IntKind.i64 (IntKind.wrap IntKind.i64 (lo - f) * (256 : Int))) w) ≤ min b (IntKind.wrap IntKind.i64 ((0 : Int) - down (IntKind.wrap IntKind.i64 (IntKind.wrap IntKind.i64 (f - hi) * (256 : Int))) w))))]) []))) := by kernel_rfl

theorem ok_l5Slab : FsOk Tryz.prog 235 fs_l5Slab := fsOk_of tt_ok (tabFs_cons ok_l1In (tabFs_cons ok_l5Down (tabFs_cons ok_l3More (tabFs_cons ok_l3Less tabFs_nil)))) mixed Tryz.func235 (by kernel_rfl) (by kernel_rfl) (by
    intro args LL p r HH h hp
    unfold fs_l5Slab at h
    dsimp only at h
    split at h
    case h_2 => cases h
    rename_i f w lo hi a b
    simp only [Option.some.injEq, Prod.mk.injEq] at h
    obtain ⟨rfl, rfl, rfl⟩ := h
    refine ⟨by simp [Form, stays], L0, ?_⟩
    rw [vc_l5Slab]
    try dsimp only
    refine ifB_of (fun h => ?_) (fun h => ?_)
    · have h : w = 0 := by simpa using h
      subst h
      exact ⟨rfl, rfl⟩
    have hw : w ≠ 0 := by simpa using h
    refine ifB_of (fun h2 => ?_) (fun h2 => ?_)
    · have h2 : w < 0 := of_decide_eq_true h2
      refine ⟨hw, hw, ?_⟩
      simp only [slab, hw, h2, if_true, if_false, max_b, min_b, W_neg', and_self] <;> first | exact ⟨rfl, rfl⟩ | exact ⟨rfl, trivial⟩ | exact ⟨trivial, rfl⟩
    · have h2 : ¬ w < 0 := of_decide_eq_false h2
      refine ⟨hw, hw, ?_⟩
      simp only [slab, hw, h2, if_false, max_b, min_b, W_neg', and_self] <;> first | exact ⟨rfl, rfl⟩ | exact ⟨rfl, trivial⟩ | exact ⟨trivial, rfl⟩)

def fs_implSide : Fs := ⟨[], fun args H => match args, H with
  | [.int .i64 f, .int .i64 w, .int .i64 lo, .int .i64 hi, .ptr 0 0 0, .ptr 1 0 0], [(true, .box [.int .i64 a]), (true, .box [.int .i64 b])] => some (none, .bool (slab f w lo hi a b).2.2, [(true, .box [.int .i64 (slab f w lo hi a b).1]), (true, .box [.int .i64 (slab f w lo hi a b).2.1])])
  | _, _ => none⟩

theorem vc_implSide (f : Int) (w : Int) (lo : Int) (hi : Int) (a : Int) (b : Int) (Q : SV → List Ent → Prop) :
    fnVC tt (look [(77, fs_in_), (236, fs_implDown)]) L0 Tryz.f208 [.int .i64 f, .int .i64 w, .int .i64 lo, .int .i64 hi, .ptr 0 0 0, .ptr 1 0 0] [(true, .box [.int .i64 a]), (true, .box [.int .i64 b])] Q =
    (ifB (w == (0 : Int)) (Q (SV.bool (isIn f lo hi)) [(true, Blk.box [SV.int IntKind.i64 a]), (true, Blk.box [SV.int IntKind.i64 b])]) (ifB (decide (w < (0 : Int))) (w ≠ (0 : Int) ∧ w ≠ (0 : Int) ∧ Q (SV.bool (decide ((if down (IntKind.wrap IntKind.i64 (IntKind.wrap IntKind.i64 (hi - f) * (256 : Int))) w > a then down (IntKind.wrap IntKind.i64 (IntKind.wrap IntKind.i64 (hi - f) * (256 : Int))) w else a) ≤ if IntKind.wrap IntKind.i64 ((0 : Int) - down (IntKind.wrap IntKind.i64 (IntKind.wrap IntKind.i64 ((0 : Int) - IntKind.wrap IntKind.i64 (lo - f)) * (256 : Int))) w) < b then IntKind.wrap IntKind.i64 ((0 : Int) - down (IntKind.wrap IntKind.i64 (IntKind.wrap IntKind.i64 ((0 : Int) - IntKind.wrap IntKind.i64 (lo - f)) * (256 : Int))) w) else b))) [(true, Blk.box [SV.int IntKind.i64 (if down (IntKind.wrap IntKind.i64 (IntKind.wrap IntKind.i64 (hi - f) * (256 : Int))) w > a then down (IntKind.wrap IntKind.i64 (IntKind.wrap IntKind.i64 (hi - f) * (256 : Int))) w else a)]), (true, Blk.box [SV.int IntKind.i64 (if IntKind.wrap IntKind.i64 ((0 : Int) - down (IntKind.wrap IntKind.i64 (IntKind.wrap IntKind.i64 ((0 : Int) - IntKind.wrap IntKind.i64 (lo - f)) * (256 : Int))) w) < b then IntKind.wrap IntKind.i64 ((0 : Int) - down (IntKind.wrap IntKind.i64 (IntKind.wrap IntKind.i64 ((0 : Int) - IntKind.wrap IntKind.i64 (lo - f)) * (256 : Int))) w) else b)])]) (w ≠ (0 : Int) ∧ w ≠ (0 : Int) ∧ Q (SV.bool (decide ((if down (IntKind.wrap IntKind.i64 (IntKind.wrap IntKind.i64 (lo - f) * (256 : Int))) w > a then down (IntKind.wrap IntKind.i64 (IntKind.wrap IntKind.i64 (lo - f) * (256 : Int))) w else a) ≤ if IntKind.wrap IntKind.i64 ((0 : Int) - down (IntKind.wrap IntKind.i64 (IntKind.wrap IntKind.i64 ((0 : Int) - IntKind.wrap IntKind.i64 (hi - f)) * (256 : Int))) w) < b then IntKind.wrap IntKind.i64 ((0 : Int) - down (IntKind.wrap IntKind.i64 (IntKind.wrap IntKind.i64 ((0 : Int) - IntKind.wrap IntKind.i64 (hi - f)) * (256 : Int))) w) else b))) [(true, Blk.box [SV.int IntKind.i64 (if down (IntKind.wrap IntKind.i64 (IntKind.wrap IntKind.i64 (lo - f) * (256 : Int))) w > a then down (IntKind.wrap IntKind.i64 (IntKind.wrap IntKind.i64 (lo - f) * (256 : Int))) w else a)]), (true, Blk.box [SV.int IntKind.i64 (if IntKind.wrap IntKind.i64 ((0 : Int) - down (IntKind.wrap IntKind.i64 (IntKind.wrap IntKind.i64 ((0 : Int) - IntKind.wrap IntKind.i64 (hi - f)) * (256 : Int))) w) < b then IntKind.wrap IntKind.i64 ((0 : Int) - down (IntKind.wrap IntKind.i64 (IntKind.wrap IntKind.i64 ((0 : Int) - IntKind.wrap IntKind.i64 (hi - f)) * (256 : Int))) w) else b)])]))) := by kernel_rfl

theorem ok_implSide : FsOk Tryz.prog 208 fs_implSide := fsOk_of tt_ok (tabFs_cons ok_in_ (tabFs_cons ok_implDown tabFs_nil)) mixed Tryz.func208 (by kernel_rfl) (by kernel_rfl) (by
    intro args LL p r HH h hp
    unfold fs_implSide at h
    dsimp only at h
    split at h
    case h_2 => cases h
    rename_i f w lo hi a b
    simp only [Option.some.injEq, Prod.mk.injEq] at h
    obtain ⟨rfl, rfl, rfl⟩ := h
    refine ⟨by simp [Form, stays], L0, ?_⟩
    rw [vc_implSide]
    try dsimp only
    refine ifB_of (fun h => ?_) (fun h => ?_)
    · have h : w = 0 := by simpa using h
      subst h
      exact ⟨rfl, rfl⟩
    have hw : w ≠ 0 := by simpa using h
    refine ifB_of (fun h2 => ?_) (fun h2 => ?_)
    · have h2 : w < 0 := of_decide_eq_true h2
      refine ⟨hw, hw, ?_⟩
      simp only [slab, hw, h2, if_true, if_false, max_b, min_b, W_neg', and_self] <;> first | exact ⟨rfl, rfl⟩ | exact ⟨rfl, trivial⟩ | exact ⟨trivial, rfl⟩
    · have h2 : ¬ w < 0 := of_decide_eq_false h2
      refine ⟨hw, hw, ?_⟩
      simp only [slab, hw, h2, if_false, max_b, min_b, W_neg', and_self] <;> first | exact ⟨rfl, rfl⟩ | exact ⟨rfl, trivial⟩ | exact ⟨trivial, rfl⟩)


def fs_l5RayBox : Fs := ⟨[], fun args H => match args, H with
  | [.agg [.int .i64 rFX, .int .i64 rFY, .int .i64 rWX, .int .i64 rWY], .agg [.int .i64 bLX, .int .i64 bLY, .int .i64 bHX, .int .i64 bHY]], [] => some (none, .tup [.int .i64 ((rayBox (Ray.mk (Vec.mk rFX rFY) (Vec.mk rWX rWY)) (Box.mk (Vec.mk bLX bLY) (Vec.mk bHX bHY))).1), .bool ((rayBox (Ray.mk (Vec.mk rFX rFY) (Vec.mk rWX rWY)) (Box.mk (Vec.mk bLX bLY) (Vec.mk bHX bHY))).2)], [])
  | _, _ => none⟩

theorem vc_l5RayBox (rFX : Int) (rFY : Int) (rWX : Int) (rWY : Int) (bLX : Int) (bLY : Int) (bHX : Int) (bHY : Int) (Q : SV → List Ent → Prop) :
    fnVC tt (look [(235, fs_l5Slab)]) L0 Tryz.f206 [.agg [.int .i64 rFX, .int .i64 rFY, .int .i64 rWX, .int .i64 rWY], .agg [.int .i64 bLX, .int .i64 bLY, .int .i64 bHX, .int .i64 bHY]] [] Q =
    (ifB (!Prod.snd (Prod.snd (slab rFX rWX bLX bHX (0 : Int) (256 : Int)))) (Q (SV.tup [SV.int IntKind.i64 (0 : Int), SV.bool false]) []) (ifB (!Prod.snd (Prod.snd (slab rFY rWY bLY bHY (Prod.fst (slab rFX rWX bLX bHX (0 : Int) (256 : Int))) (Prod.fst (Prod.snd (slab rFX rWX bLX bHX (0 : Int) (256 : Int))))))) (Q (SV.tup [SV.int IntKind.i64 (0 : Int), SV.bool false]) []) (Q (SV.tup [SV.int IntKind.i64 (Prod.fst (slab rFY rWY bLY bHY (Prod.fst (slab rFX rWX bLX bHX (0 : Int) (256 : Int))) (Prod.fst (Prod.snd (slab rFX rWX bLX bHX (0 : Int) (256 : Int)))))), SV.bool true]) []))) := by kernel_rfl

theorem ok_l5RayBox : FsOk Tryz.prog 206 fs_l5RayBox := fsOk_of tt_ok (tabFs_cons ok_l5Slab tabFs_nil) mixed Tryz.func206 (by kernel_rfl) (by kernel_rfl) (by
    intro args LL p r HH h hp
    unfold fs_l5RayBox at h
    dsimp only at h
    split at h
    case h_2 => cases h
    rename_i rFX rFY rWX rWY bLX bLY bHX bHY
    simp only [Option.some.injEq, Prod.mk.injEq] at h
    obtain ⟨rfl, rfl, rfl⟩ := h
    refine ⟨by simp [Form, stays], L0, ?_⟩
    rw [vc_l5RayBox]
    try dsimp only

    repeat' (first | refine ifB_of (fun _ => ?_) (fun _ => ?_) | refine pre_of ?_ (fun _ => ?_))
    all_goals first
      | rfl
      | (simp only [W, rayBox, *, cond_true, cond_false, Bool.true_and, Bool.false_and, Bool.and_true, Bool.and_false, Bool.not_true, Bool.not_false, and_self, true_and]; done)
      | (simp_all [W, rayBox]; done)
      | (simp_all [W, rayBox] <;> omega))

def fs_implRayBoxIn : Fs := ⟨[], fun args H => match args, H with
  | [.agg [.int .i64 rFX, .int .i64 rFY, .int .i64 rWX, .int .i64 rWY], .agg [.int .i64 bLX, .int .i64 bLY, .int .i64 bHX, .int .i64 bHY]], [] => some (none, .tup [.int .i64 ((rayBox (Ray.mk (Vec.mk rFX rFY) (Vec.mk rWX rWY)) (Box.mk (Vec.mk bLX bLY) (Vec.mk bHX bHY))).1), .bool ((rayBox (Ray.mk (Vec.mk rFX rFY) (Vec.mk rWX rWY)) (Box.mk (Vec.mk bLX bLY) (Vec.mk bHX bHY))).2)], [])
  | _, _ => none⟩

theorem vc_implRayBoxIn (rFX : Int) (rFY : Int) (rWX : Int) (rWY : Int) (bLX : Int) (bLY : Int) (bHX : Int) (bHY : Int) (Q : SV → List Ent → Prop) :
    fnVC tt (look [(208, fs_implSide)]) L0 Tryz.f151 [.agg [.int .i64 rFX, .int .i64 rFY, .int .i64 rWX, .int .i64 rWY], .agg [.int .i64 bLX, .int .i64 bLY, .int .i64 bHX, .int .i64 bHY]] [] Q =
    (ifB (!Prod.snd (Prod.snd (slab rFX rWX bLX bHX (0 : Int) (256 : Int)))) (Q (SV.tup [SV.int IntKind.i64 (0 : Int), SV.bool false]) []) (ifB (!Prod.snd (Prod.snd (slab rFY rWY bLY bHY (Prod.fst (slab rFX rWX bLX bHX (0 : Int) (256 : Int))) (Prod.fst (Prod.snd (slab rFX rWX bLX bHX (0 : Int) (256 : Int))))))) (Q (SV.tup [SV.int IntKind.i64 (0 : Int), SV.bool false]) []) (Q (SV.tup [SV.int IntKind.i64 (Prod.fst (slab rFY rWY bLY bHY (Prod.fst (slab rFX rWX bLX bHX (0 : Int) (256 : Int))) (Prod.fst (Prod.snd (slab rFX rWX bLX bHX (0 : Int) (256 : Int)))))), SV.bool true]) []))) := by kernel_rfl

theorem ok_implRayBoxIn : FsOk Tryz.prog 151 fs_implRayBoxIn := fsOk_of tt_ok (tabFs_cons ok_implSide tabFs_nil) mixed Tryz.func151 (by kernel_rfl) (by kernel_rfl) (by
    intro args LL p r HH h hp
    unfold fs_implRayBoxIn at h
    dsimp only at h
    split at h
    case h_2 => cases h
    rename_i rFX rFY rWX rWY bLX bLY bHX bHY
    simp only [Option.some.injEq, Prod.mk.injEq] at h
    obtain ⟨rfl, rfl, rfl⟩ := h
    refine ⟨by simp [Form, stays], L0, ?_⟩
    rw [vc_implRayBoxIn]
    try dsimp only

    repeat' (first | refine ifB_of (fun _ => ?_) (fun _ => ?_) | refine pre_of ?_ (fun _ => ?_))
    all_goals first
      | rfl
      | (simp only [W, rayBox, *, cond_true, cond_false, Bool.true_and, Bool.false_and, Bool.and_true, Bool.and_false, Bool.not_true, Bool.not_false, and_self, true_and]; done)
      | (simp_all [W, rayBox]; done)
      | (simp_all [W, rayBox] <;> omega))

def fs_specBoxOk : Fs := ⟨[], fun args H => match args, H with
  | [.agg [.int .i64 bLX, .int .i64 bLY, .int .i64 bHX, .int .i64 bHY]], [] => some (none, .bool (boxOk (Box.mk (Vec.mk bLX bLY) (Vec.mk bHX bHY))), [])
  | _, _ => none⟩

theorem vc_specBoxOk (bLX : Int) (bLY : Int) (bHX : Int) (bHY : Int) (Q : SV → List Ent → Prop) :
    fnVC tt (look [(125, fs_specVecOk)]) L0 Tryz.f47 [.agg [.int .i64 bLX, .int .i64 bLY, .int .i64 bHX, .int .i64 bHY]] [] Q =
    (ifB (vecOk (Vec.mk bLX bLY)) (ifB (vecOk (Vec.mk bHX bHY)) (ifB (decide (bLX ≤ bHX)) (Q (SV.bool (decide (bLY ≤ bHY))) []) (Q (SV.bool false) [])) (Q (SV.bool false) [])) (Q (SV.bool false) [])) := by kernel_rfl

theorem ok_specBoxOk : FsOk Tryz.prog 47 fs_specBoxOk := fsOk_of tt_ok (tabFs_cons ok_specVecOk tabFs_nil) mixed Tryz.func47 (by kernel_rfl) (by kernel_rfl) (by
    intro args LL p r HH h hp
    unfold fs_specBoxOk at h
    dsimp only at h
    split at h
    case h_2 => cases h
    rename_i bLX bLY bHX bHY
    simp only [Option.some.injEq, Prod.mk.injEq] at h
    obtain ⟨rfl, rfl, rfl⟩ := h
    refine ⟨by simp [Form, stays], L0, ?_⟩
    rw [vc_specBoxOk]
    try dsimp only

    repeat' (first | refine ifB_of (fun _ => ?_) (fun _ => ?_) | refine pre_of ?_ (fun _ => ?_))
    all_goals first
      | rfl
      | (simp only [W, boxOk, *, cond_true, cond_false, Bool.true_and, Bool.false_and, Bool.and_true, Bool.and_false, Bool.not_true, Bool.not_false, and_self, true_and]; done)
      | (simp_all [W, boxOk]; done)
      | (simp_all [W, boxOk] <;> omega))

def fs_implBoxOk : Fs := ⟨[], fun args H => match args, H with
  | [.agg [.int .i64 bLX, .int .i64 bLY, .int .i64 bHX, .int .i64 bHY]], [] => some (none, .bool (boxOk (Box.mk (Vec.mk bLX bLY) (Vec.mk bHX bHY))), [])
  | _, _ => none⟩

theorem vc_implBoxOk (bLX : Int) (bLY : Int) (bHX : Int) (bHY : Int) (Q : SV → List Ent → Prop) :
    fnVC tt (look [(194, fs_implVecOk)]) L0 Tryz.f116 [.agg [.int .i64 bLX, .int .i64 bLY, .int .i64 bHX, .int .i64 bHY]] [] Q =
    (ifB (vecOk (Vec.mk bLX bLY)) (ifB (vecOk (Vec.mk bHX bHY)) (ifB (decide (bLX ≤ bHX)) (Q (SV.bool (decide (bLY ≤ bHY))) []) (Q (SV.bool false) [])) (Q (SV.bool false) [])) (Q (SV.bool false) [])) := by kernel_rfl

theorem ok_implBoxOk : FsOk Tryz.prog 116 fs_implBoxOk := fsOk_of tt_ok (tabFs_cons ok_implVecOk tabFs_nil) mixed Tryz.func116 (by kernel_rfl) (by kernel_rfl) (by
    intro args LL p r HH h hp
    unfold fs_implBoxOk at h
    dsimp only at h
    split at h
    case h_2 => cases h
    rename_i bLX bLY bHX bHY
    simp only [Option.some.injEq, Prod.mk.injEq] at h
    obtain ⟨rfl, rfl, rfl⟩ := h
    refine ⟨by simp [Form, stays], L0, ?_⟩
    rw [vc_implBoxOk]
    try dsimp only

    repeat' (first | refine ifB_of (fun _ => ?_) (fun _ => ?_) | refine pre_of ?_ (fun _ => ?_))
    all_goals first
      | rfl
      | (simp only [W, boxOk, *, cond_true, cond_false, Bool.true_and, Bool.false_and, Bool.and_true, Bool.and_false, Bool.not_true, Bool.not_false, and_self, true_and]; done)
      | (simp_all [W, boxOk]; done)
      | (simp_all [W, boxOk] <;> omega))

def fs_specShapeOk : Fs := ⟨[], fun args H => match args, H with
  | [.agg [.int .i64 sK, .int .i64 sW, .int .i64 sH]], [] => some (none, .bool (shapeOk (Shape.mk sK sW sH)), [])
  | _, _ => none⟩

theorem vc_specShapeOk (sK : Int) (sW : Int) (sH : Int) (Q : SV → List Ent → Prop) :
    fnVC tt (look [(74, fs_l1In)]) L0 Tryz.f190 [.agg [.int .i64 sK, .int .i64 sW, .int .i64 sH]] [] Q =
    (ifB (sK == (1 : Int)) (ifB (isIn sW (1 : Int) (25600 : Int)) (Q (SV.bool (sH == (0 : Int))) []) (Q (SV.bool false) [])) (ifB (sK == (2 : Int)) (ifB (isIn sW (1 : Int) (25600 : Int)) (Q (SV.bool (isIn sH (1 : Int) (25600 : Int))) []) (Q (SV.bool false) [])) (Q (SV.bool false) []))) := by kernel_rfl

theorem ok_specShapeOk : FsOk Tryz.prog 190 fs_specShapeOk := fsOk_of tt_ok (tabFs_cons ok_l1In tabFs_nil) mixed Tryz.func190 (by kernel_rfl) (by kernel_rfl) (by
    intro args LL p r HH h hp
    unfold fs_specShapeOk at h
    dsimp only at h
    split at h
    case h_2 => cases h
    rename_i sK sW sH
    simp only [Option.some.injEq, Prod.mk.injEq] at h
    obtain ⟨rfl, rfl, rfl⟩ := h
    refine ⟨by simp [Form, stays], L0, ?_⟩
    rw [vc_specShapeOk]
    try dsimp only

    repeat' (first | refine ifB_of (fun _ => ?_) (fun _ => ?_) | refine pre_of ?_ (fun _ => ?_))
    all_goals first
      | rfl
      | (simp only [W, shapeOk, *, cond_true, cond_false, Bool.true_and, Bool.false_and, Bool.and_true, Bool.and_false, Bool.not_true, Bool.not_false, and_self, true_and]; done)
      | (simp_all [W, shapeOk]; done)
      | (simp_all [W, shapeOk] <;> omega))

def fs_implShapeOk : Fs := ⟨[], fun args H => match args, H with
  | [.agg [.int .i64 sK, .int .i64 sW, .int .i64 sH]], [] => some (none, .bool (shapeOk (Shape.mk sK sW sH)), [])
  | _, _ => none⟩

theorem vc_implShapeOk (sK : Int) (sW : Int) (sH : Int) (Q : SV → List Ent → Prop) :
    fnVC tt (look [(77, fs_in_)]) L0 Tryz.f126 [.agg [.int .i64 sK, .int .i64 sW, .int .i64 sH]] [] Q =
    (ifB (sK == (1 : Int)) (ifB (isIn sW (1 : Int) (25600 : Int)) (Q (SV.bool (sH == (0 : Int))) []) (Q (SV.bool false) [])) (ifB (sK == (2 : Int)) (ifB (isIn sW (1 : Int) (25600 : Int)) (Q (SV.bool (isIn sH (1 : Int) (25600 : Int))) []) (Q (SV.bool false) [])) (Q (SV.bool false) []))) := by kernel_rfl

theorem ok_implShapeOk : FsOk Tryz.prog 126 fs_implShapeOk := fsOk_of tt_ok (tabFs_cons ok_in_ tabFs_nil) mixed Tryz.func126 (by kernel_rfl) (by kernel_rfl) (by
    intro args LL p r HH h hp
    unfold fs_implShapeOk at h
    dsimp only at h
    split at h
    case h_2 => cases h
    rename_i sK sW sH
    simp only [Option.some.injEq, Prod.mk.injEq] at h
    obtain ⟨rfl, rfl, rfl⟩ := h
    refine ⟨by simp [Form, stays], L0, ?_⟩
    rw [vc_implShapeOk]
    try dsimp only

    repeat' (first | refine ifB_of (fun _ => ?_) (fun _ => ?_) | refine pre_of ?_ (fun _ => ?_))
    all_goals first
      | rfl
      | (simp only [W, shapeOk, *, cond_true, cond_false, Bool.true_and, Bool.false_and, Bool.and_true, Bool.and_false, Bool.not_true, Bool.not_false, and_self, true_and]; done)
      | (simp_all [W, shapeOk]; done)
      | (simp_all [W, shapeOk] <;> omega))

def fs_implBounds : Fs := ⟨[], fun args H => match args, H with
  | [.agg [.int .i64 sK, .int .i64 sW, .int .i64 sH], .agg [.int .i64 pX, .int .i64 pY]], [] => some (none, .agg [.int .i64 (bounds (Shape.mk sK sW sH) (Vec.mk pX pY)).Low.X, .int .i64 (bounds (Shape.mk sK sW sH) (Vec.mk pX pY)).Low.Y, .int .i64 (bounds (Shape.mk sK sW sH) (Vec.mk pX pY)).High.X, .int .i64 (bounds (Shape.mk sK sW sH) (Vec.mk pX pY)).High.Y], [])
  | _, _ => none⟩

theorem vc_implBounds (sK : Int) (sW : Int) (sH : Int) (pX : Int) (pY : Int) (Q : SV → List Ent → Prop) :
    fnVC tt (look [(112, fs_vecPlus), (132, fs_vecMinus)]) L0 Tryz.f119 [.agg [.int .i64 sK, .int .i64 sW, .int .i64 sH], .agg [.int .i64 pX, .int .i64 pY]] [] Q =
    (ifB (sK == (1 : Int)) (Q (SV.agg [SV.int IntKind.i64 (Vec.X (minus (Vec.mk pX pY) (Vec.mk sW sW))), SV.int IntKind.i64 (Vec.Y (minus (Vec.mk pX pY) (Vec.mk sW sW))), SV.int IntKind.i64 (Vec.X (plus (Vec.mk pX pY) (Vec.mk sW sW))), SV.int IntKind.i64 (Vec.Y (plus (Vec.mk pX pY) (Vec.mk sW sW)))]) []) (Q (SV.agg [SV.int IntKind.i64 (Vec.X (minus (Vec.mk pX pY) (Vec.mk sW sH))), SV.int IntKind.i64 (Vec.Y (minus (Vec.mk pX pY) (Vec.mk sW sH))), SV.int IntKind.i64 (Vec.X (plus (Vec.mk pX pY) (Vec.mk sW sH))), SV.int IntKind.i64 (Vec.Y (plus (Vec.mk pX pY) (Vec.mk sW sH)))]) [])) := by kernel_rfl

theorem ok_implBounds : FsOk Tryz.prog 119 fs_implBounds := fsOk_of tt_ok (tabFs_cons ok_vecPlus (tabFs_cons ok_vecMinus tabFs_nil)) mixed Tryz.func119 (by kernel_rfl) (by kernel_rfl) (by
    intro args LL p r HH h hp
    unfold fs_implBounds at h
    dsimp only at h
    split at h
    case h_2 => cases h
    rename_i sK sW sH pX pY
    simp only [Option.some.injEq, Prod.mk.injEq] at h
    obtain ⟨rfl, rfl, rfl⟩ := h
    refine ⟨by simp [Form, stays], L0, ?_⟩
    rw [vc_implBounds]
    try dsimp only

    repeat' (first | refine ifB_of (fun _ => ?_) (fun _ => ?_) | refine pre_of ?_ (fun _ => ?_))
    all_goals first
      | rfl
      | (simp only [W, bounds, plus, minus, *, cond_true, cond_false, Bool.true_and, Bool.false_and, Bool.and_true, Bool.and_false, Bool.not_true, Bool.not_false, and_self, true_and]; done)
      | (simp_all [W, bounds, plus, minus]; done)
      | (simp_all [W, bounds, plus, minus] <;> omega))

def fs_specRayShape : Fs := ⟨[], fun args H => match args, H with
  | [.agg [.int .i64 rFX, .int .i64 rFY, .int .i64 rWX, .int .i64 rWY], .agg [.int .i64 sK, .int .i64 sW, .int .i64 sH], .agg [.int .i64 pX, .int .i64 pY]], [] => some (none, .tup [.int .i64 ((rayShape (Ray.mk (Vec.mk rFX rFY) (Vec.mk rWX rWY)) (Shape.mk sK sW sH) (Vec.mk pX pY)).1), .bool ((rayShape (Ray.mk (Vec.mk rFX rFY) (Vec.mk rWX rWY)) (Shape.mk sK sW sH) (Vec.mk pX pY)).2)], [])
  | _, _ => none⟩

theorem vc_specRayShape (rFX : Int) (rFY : Int) (rWX : Int) (rWY : Int) (sK : Int) (sW : Int) (sH : Int) (pX : Int) (pY : Int) (Q : SV → List Ent → Prop) :
    fnVC tt (look [(190, fs_specShapeOk), (130, fs_l3Place), (147, fs_specRayOk), (205, fs_l5RayRound), (206, fs_l5RayBox), (122, fs_l3Bounds)]) L0 Tryz.f148 [.agg [.int .i64 rFX, .int .i64 rFY, .int .i64 rWX, .int .i64 rWY], .agg [.int .i64 sK, .int .i64 sW, .int .i64 sH], .agg [.int .i64 pX, .int .i64 pY]] [] Q =
    (ifB (!shapeOk (Shape.mk sK sW sH)) (Q (SV.tup [SV.int IntKind.i64 (0 : Int), SV.bool false]) []) (ifB (!placeOk (Vec.mk pX pY)) (Q (SV.tup [SV.int IntKind.i64 (0 : Int), SV.bool false]) []) (ifB (!rayOk (Ray.mk (Vec.mk rFX rFY) (Vec.mk rWX rWY))) (Q (SV.tup [SV.int IntKind.i64 (0 : Int), SV.bool false]) []) (ifB (sK == (1 : Int)) (Q (SV.tup [SV.int IntKind.i64 (Prod.fst (roundFrom (Ray.mk (Vec.mk rFX rFY) (Vec.mk rWX rWY)) (Vec.mk pX pY) sW (257 : Nat))), SV.bool (Prod.snd (roundFrom (Ray.mk (Vec.mk rFX rFY) (Vec.mk rWX rWY)) (Vec.mk pX pY) sW (257 : Nat)))]) []) (Q (SV.tup [SV.int IntKind.i64 (Prod.fst (rayBox (Ray.mk (Vec.mk rFX rFY) (Vec.mk rWX rWY)) (bounds (Shape.mk sK sW sH) (Vec.mk pX pY)))), SV.bool (Prod.snd (rayBox (Ray.mk (Vec.mk rFX rFY) (Vec.mk rWX rWY)) (bounds (Shape.mk sK sW sH) (Vec.mk pX pY))))]) []))))) := by kernel_rfl

theorem ok_specRayShape : FsOk Tryz.prog 148 fs_specRayShape := fsOk_of tt_ok (tabFs_cons ok_specShapeOk (tabFs_cons ok_l3Place (tabFs_cons ok_specRayOk (tabFs_cons ok_l5RayRound (tabFs_cons ok_l5RayBox (tabFs_cons ok_l3Bounds tabFs_nil)))))) mixed Tryz.func148 (by kernel_rfl) (by kernel_rfl) (by
    intro args LL p r HH h hp
    unfold fs_specRayShape at h
    dsimp only at h
    split at h
    case h_2 => cases h
    rename_i rFX rFY rWX rWY sK sW sH pX pY
    simp only [Option.some.injEq, Prod.mk.injEq] at h
    obtain ⟨rfl, rfl, rfl⟩ := h
    refine ⟨by simp [Form, stays], L0, ?_⟩
    rw [vc_specRayShape]
    try dsimp only
    refine ifB_of (fun h1 => ?_) (fun h1 => ?_)
    · simp_all [rayShape]
    refine ifB_of (fun h2 => ?_) (fun h2 => ?_)
    · simp_all [rayShape]
    refine ifB_of (fun h3 => ?_) (fun h3 => ?_)
    · simp_all [rayShape]
    refine ifB_of (fun h4 => ?_) (fun h4 => ?_)
    · have h4 : sK = 1 := by simpa using h4
      subst h4
      have hw : isIn sW 1 25600 = true := by simp [shapeOk] at h1; exact h1.1
      simp_all [rayShape, rayRound]
    · simp_all [rayShape])

def fs_implRayShape : Fs := ⟨[], fun args H => match args, H with
  | [.agg [.int .i64 rFX, .int .i64 rFY, .int .i64 rWX, .int .i64 rWY], .agg [.int .i64 sK, .int .i64 sW, .int .i64 sH], .agg [.int .i64 pX, .int .i64 pY]], [] => some (none, .tup [.int .i64 ((rayShape (Ray.mk (Vec.mk rFX rFY) (Vec.mk rWX rWY)) (Shape.mk sK sW sH) (Vec.mk pX pY)).1), .bool ((rayShape (Ray.mk (Vec.mk rFX rFY) (Vec.mk rWX rWY)) (Shape.mk sK sW sH) (Vec.mk pX pY)).2)], [])
  | _, _ => none⟩

theorem vc_implRayShape (rFX : Int) (rFY : Int) (rWX : Int) (rWY : Int) (sK : Int) (sW : Int) (sH : Int) (pX : Int) (pY : Int) (Q : SV → List Ent → Prop) :
    fnVC tt (look [(149, fs_implRayOk), (126, fs_implShapeOk), (127, fs_isPlace), (150, fs_implRayRound), (151, fs_implRayBoxIn), (119, fs_implBounds)]) L0 Tryz.f67 [.agg [.int .i64 rFX, .int .i64 rFY, .int .i64 rWX, .int .i64 rWY], .agg [.int .i64 sK, .int .i64 sW, .int .i64 sH], .agg [.int .i64 pX, .int .i64 pY]] [] Q =
    (ifB (!rayOk (Ray.mk (Vec.mk rFX rFY) (Vec.mk rWX rWY))) (Q (SV.tup [SV.int IntKind.i64 (0 : Int), SV.bool false]) []) (ifB (!shapeOk (Shape.mk sK sW sH)) (Q (SV.tup [SV.int IntKind.i64 (0 : Int), SV.bool false]) []) (ifB (!placeOk (Vec.mk pX pY)) (Q (SV.tup [SV.int IntKind.i64 (0 : Int), SV.bool false]) []) (ifB (sK == (1 : Int)) (Q (SV.tup [SV.int IntKind.i64 (Prod.fst (rayRound (Ray.mk (Vec.mk rFX rFY) (Vec.mk rWX rWY)) (Vec.mk pX pY) sW)), SV.bool (Prod.snd (rayRound (Ray.mk (Vec.mk rFX rFY) (Vec.mk rWX rWY)) (Vec.mk pX pY) sW))]) []) (Q (SV.tup [SV.int IntKind.i64 (Prod.fst (rayBox (Ray.mk (Vec.mk rFX rFY) (Vec.mk rWX rWY)) (bounds (Shape.mk sK sW sH) (Vec.mk pX pY)))), SV.bool (Prod.snd (rayBox (Ray.mk (Vec.mk rFX rFY) (Vec.mk rWX rWY)) (bounds (Shape.mk sK sW sH) (Vec.mk pX pY))))]) []))))) := by kernel_rfl

theorem ok_implRayShape : FsOk Tryz.prog 67 fs_implRayShape := fsOk_of tt_ok (tabFs_cons ok_implRayOk (tabFs_cons ok_implShapeOk (tabFs_cons ok_isPlace (tabFs_cons ok_implRayRound (tabFs_cons ok_implRayBoxIn (tabFs_cons ok_implBounds tabFs_nil)))))) mixed Tryz.func67 (by kernel_rfl) (by kernel_rfl) (by
    intro args LL p r HH h hp
    unfold fs_implRayShape at h
    dsimp only at h
    split at h
    case h_2 => cases h
    rename_i rFX rFY rWX rWY sK sW sH pX pY
    simp only [Option.some.injEq, Prod.mk.injEq] at h
    obtain ⟨rfl, rfl, rfl⟩ := h
    refine ⟨by simp [Form, stays], L0, ?_⟩
    rw [vc_implRayShape]
    try dsimp only

    repeat' (first | refine ifB_of (fun _ => ?_) (fun _ => ?_) | refine pre_of ?_ (fun _ => ?_))
    all_goals first
      | rfl
      | (simp only [W, rayShape, *, cond_true, cond_false, Bool.true_and, Bool.false_and, Bool.and_true, Bool.and_false, Bool.not_true, Bool.not_false, and_self, true_and]; done)
      | (simp_all [W, rayShape]; done)
      | (simp_all [W, rayShape] <;> omega))


def fs_implHasPoint : Fs := ⟨[], fun args H => match args, H with
  | [.agg [.int .i64 bLX, .int .i64 bLY, .int .i64 bHX, .int .i64 bHY], .agg [.int .i64 pX, .int .i64 pY]], [] => some (none, .bool (hasPoint (Box.mk (Vec.mk bLX bLY) (Vec.mk bHX bHY)) (Vec.mk pX pY)), [])
  | _, _ => none⟩

theorem vc_implHasPoint (bLX : Int) (bLY : Int) (bHX : Int) (bHY : Int) (pX : Int) (pY : Int) (Q : SV → List Ent → Prop) :
    fnVC tt (look [(77, fs_in_)]) L0 Tryz.f134 [.agg [.int .i64 bLX, .int .i64 bLY, .int .i64 bHX, .int .i64 bHY], .agg [.int .i64 pX, .int .i64 pY]] [] Q =
    (ifB (isIn pX bLX bHX) (Q (SV.bool (isIn pY bLY bHY)) []) (Q (SV.bool false) [])) := by kernel_rfl

theorem ok_implHasPoint : FsOk Tryz.prog 134 fs_implHasPoint := fsOk_of tt_ok (tabFs_cons ok_in_ tabFs_nil) mixed Tryz.func134 (by kernel_rfl) (by kernel_rfl) (by
    intro args LL p r HH h hp
    unfold fs_implHasPoint at h
    dsimp only at h
    split at h
    case h_2 => cases h
    rename_i bLX bLY bHX bHY pX pY
    simp only [Option.some.injEq, Prod.mk.injEq] at h
    obtain ⟨rfl, rfl, rfl⟩ := h
    refine ⟨by simp [Form, stays], L0, ?_⟩
    rw [vc_implHasPoint]
    try dsimp only

    repeat' (first | refine ifB_of (fun _ => ?_) (fun _ => ?_) | refine pre_of ?_ (fun _ => ?_))
    all_goals first
      | rfl
      | (simp only [W, hasPoint, *, cond_true, cond_false, Bool.true_and, Bool.false_and, Bool.and_true, Bool.and_false, Bool.not_true, Bool.not_false, and_self, true_and]; done)
      | (simp_all [W, hasPoint]; done)
      | (simp_all [W, hasPoint] <;> omega))

end Go.Proofs.YtdhbkcaaijgocaaGreat.Sym

namespace Go.Proofs.YtdhbkcaaijgocaaGreat.Sym
open Go
set_option linter.unusedVariables false
set_option linter.unusedSimpArgs false
set_option maxRecDepth 100000

def clampTo (m n : Int) : Int := max (-m) (min n m)
def clampV (m : Int) (v : Vec) : Vec := ⟨clampTo m v.X, clampTo m v.Y⟩
def withinI (n m : Int) : Int := max (W (0 - m)) (min n m)
def withinS (n m : Int) : Int := min (max n (W (0 - m))) m
def driveOk (p : Vec) : Bool := isIn p.X (-20000000) 20000000 && isIn p.Y (-20000000) 20000000
def zeroV (p : Vec) : Bool := p.X == 0 && p.Y == 0
def bodyOk (b : Body) : Bool :=
  isIn b.Id 0 999999999 && shapeOk b.Shape && placeOk b.At && driveOk b.Drive && isIn b.Mass 0 1000 && isIn b.Bounce 0 256 && isIn b.Rub 0 256 && isIn b.Quiet 0 8 &&
    (if b.Mass = 0 then zeroV b.Drive && b.Quiet == 0 else decide (b.Quiet < 8) || zeroV b.Drive)
def speed (b : Body) : Vec := if b.Mass = 0 then ⟨0, 0⟩ else ⟨W (b.Drive.X.tdiv b.Mass), W (b.Drive.Y.tdiv b.Mass)⟩
def vecSub (a b : Vec) : Vec := clampV 1000000000 (minus (clampV 1000000000 a) (clampV 1000000000 b))
def dotC (a b : Vec) : Int := clampTo 1000000000 (W ((W (W (a.X * b.X) + W (a.Y * b.Y))).tdiv 256))
def dot (a b : Vec) : Int := dotC (clampV 1000000000 a) (clampV 1000000000 b)
def closing (a b : Body) (way : Vec) : Int := dot (vecSub (speed a) (speed b)) way
theorem W_const {m : Int} (h0 : 0 ≤ m) (h1 : m ≤ 4611686018427387904) : W (0 - m) = -m := by
  have := wrap_small (n := 0 - m) (by omega) (by omega)
  simp only [W, this]
  omega
theorem withinI_const {m : Int} (n : Int) (h0 : 0 ≤ m) (h1 : m ≤ 4611686018427387904) : withinI n m = clampTo m n := by
  simp only [withinI, clampTo, W_const h0 h1]
theorem withinS_const {m : Int} (n : Int) (h0 : 0 ≤ m) (h1 : m ≤ 4611686018427387904) : withinS n m = clampTo m n := by
  simp only [withinS, clampTo, W_const h0 h1]
  omega
theorem clampTo_same {m n : Int} (h0 : 0 ≤ m) : (n == clampTo m n) = isIn n (-m) m := by
  simp only [clampTo, isIn]
  rw [Bool.eq_iff_iff]
  simp
  omega
theorem withinI_big (n : Int) : withinI n 1000000000 = clampTo 1000000000 n := withinI_const n (by omega) (by omega)
theorem withinI_drive (n : Int) : withinI n 20000000 = clampTo 20000000 n := withinI_const n (by omega) (by omega)
def fs_implWithin : Fs := ⟨[], fun args H => match args, H with
  | [.int .i64 n, .int .i64 m], [] => some (none, .int .i64 (withinI n m), [])
  | _, _ => none⟩

theorem vc_implWithin (n : Int) (m : Int) (Q : SV → List Ent → Prop) :
    fnVC tt (look []) L0 Tryz.f220 [.int .i64 n, .int .i64 m] [] Q =
    (Q (SV.int IntKind.i64 (if (if m < n then m else n) > IntKind.wrap IntKind.i64 ((0 : Int) - m) then if m < n then m else n else IntKind.wrap IntKind.i64 ((0 : Int) - m))) []) := by kernel_rfl

theorem ok_implWithin : FsOk Tryz.prog 220 fs_implWithin := fsOk_of tt_ok tabFs_nil mixed Tryz.func220 (by kernel_rfl) (by kernel_rfl) (by
    intro args LL p r HH h hp
    unfold fs_implWithin at h
    dsimp only at h
    split at h
    case h_2 => cases h
    rename_i n m
    simp only [Option.some.injEq, Prod.mk.injEq] at h
    obtain ⟨rfl, rfl, rfl⟩ := h
    refine ⟨by simp [Form, stays], L0, ?_⟩
    rw [vc_implWithin]
    try dsimp only
    simp only [withinI, max_b, min_b, W, and_self])

def fs_specWithin : Fs := ⟨[], fun args H => match args, H with
  | [.int .i64 n, .int .i64 m], [] => some (none, .int .i64 (withinS n m), [])
  | _, _ => none⟩

theorem vc_specWithin (n : Int) (m : Int) (Q : SV → List Ent → Prop) :
    fnVC tt (look [(237, fs_l3More), (213, fs_l3Less)]) L0 Tryz.f211 [.int .i64 n, .int .i64 m] [] Q =
    (Q (SV.int IntKind.i64 (min (max n (IntKind.wrap IntKind.i64 ((0 : Int) - m))) m)) []) := by kernel_rfl

theorem ok_specWithin : FsOk Tryz.prog 211 fs_specWithin := fsOk_of tt_ok (tabFs_cons ok_l3More (tabFs_cons ok_l3Less tabFs_nil)) mixed Tryz.func211 (by kernel_rfl) (by kernel_rfl) (by
    intro args LL p r HH h hp
    unfold fs_specWithin at h
    dsimp only at h
    split at h
    case h_2 => cases h
    rename_i n m
    simp only [Option.some.injEq, Prod.mk.injEq] at h
    obtain ⟨rfl, rfl, rfl⟩ := h
    refine ⟨by simp [Form, stays], L0, ?_⟩
    rw [vc_specWithin]
    try dsimp only

    repeat' (first | refine ifB_of (fun _ => ?_) (fun _ => ?_) | refine pre_of ?_ (fun _ => ?_))
    all_goals first
      | rfl
      | (simp only [W, withinS, *, cond_true, cond_false, Bool.true_and, Bool.false_and, Bool.and_true, Bool.and_false, Bool.not_true, Bool.not_false, and_self, true_and]; done)
      | (simp_all [W, withinS]; done)
      | (simp_all [W, withinS] <;> omega))

def fs_implFixClamp : Fs := ⟨[], fun args H => match args, H with
  | [.int .i64 n], [] => some (none, .int .i64 (clampTo 1000000000 n), [])
  | _, _ => none⟩

theorem vc_implFixClamp (n : Int) (Q : SV → List Ent → Prop) :
    fnVC tt (look [(220, fs_implWithin)]) L0 Tryz.f232 [.int .i64 n] [] Q =
    (Q (SV.int IntKind.i64 (withinI n (1000000000 : Int))) []) := by kernel_rfl

theorem ok_implFixClamp : FsOk Tryz.prog 232 fs_implFixClamp := fsOk_of tt_ok (tabFs_cons ok_implWithin tabFs_nil) mixed Tryz.func232 (by kernel_rfl) (by kernel_rfl) (by
    intro args LL p r HH h hp
    unfold fs_implFixClamp at h
    dsimp only at h
    split at h
    case h_2 => cases h
    rename_i n
    simp only [Option.some.injEq, Prod.mk.injEq] at h
    obtain ⟨rfl, rfl, rfl⟩ := h
    refine ⟨by simp [Form, stays], L0, ?_⟩
    rw [vc_implFixClamp]
    try dsimp only
    rw [withinI_big]
    exact ⟨rfl, rfl⟩)

def fs_specFixClamp : Fs := ⟨[], fun args H => match args, H with
  | [.int .i64 n], [] => some (none, .int .i64 (clampTo 1000000000 n), [])
  | _, _ => none⟩

theorem vc_specFixClamp (n : Int) (Q : SV → List Ent → Prop) :
    fnVC tt (look []) L0 Tryz.f245 [.int .i64 n] [] Q =
    (ifB (decide (n > (1000000000 : Int))) (Q (SV.int IntKind.i64 (1000000000 : Int)) []) (ifB (decide (n < (-1000000000 : Int))) (Q (SV.int IntKind.i64 (-1000000000 : Int)) []) (Q (SV.int IntKind.i64 n) []))) := by kernel_rfl

theorem ok_specFixClamp : FsOk Tryz.prog 245 fs_specFixClamp := fsOk_of tt_ok tabFs_nil mixed Tryz.func245 (by kernel_rfl) (by kernel_rfl) (by
    intro args LL p r HH h hp
    unfold fs_specFixClamp at h
    dsimp only at h
    split at h
    case h_2 => cases h
    rename_i n
    simp only [Option.some.injEq, Prod.mk.injEq] at h
    obtain ⟨rfl, rfl, rfl⟩ := h
    refine ⟨by simp [Form, stays], L0, ?_⟩
    rw [vc_specFixClamp]
    try dsimp only
    refine ifB_of (fun h => ?_) (fun h => ?_)
    · have h : n > 1000000000 := of_decide_eq_true h
      rw [show clampTo 1000000000 n = 1000000000 by simp only [clampTo]; omega]
      exact ⟨rfl, rfl⟩
    have h : ¬ n > 1000000000 := of_decide_eq_false h
    refine ifB_of (fun h2 => ?_) (fun h2 => ?_)
    · have h2 : n < -1000000000 := of_decide_eq_true h2
      rw [show clampTo 1000000000 n = -1000000000 by simp only [clampTo]; omega]
      exact ⟨rfl, rfl⟩
    · have h2 : ¬ n < -1000000000 := of_decide_eq_false h2
      rw [show clampTo 1000000000 n = n by simp only [clampTo]; omega]
      exact ⟨rfl, rfl⟩)

def fs_vecClamped : Fs := ⟨[], fun args H => match args, H with
  | [.agg [.int .i64 vX, .int .i64 vY], .int .i64 m], [] => some (none, .agg [.int .i64 (Vec.mk (withinI (Vec.mk vX vY).X m) (withinI (Vec.mk vX vY).Y m)).X, .int .i64 (Vec.mk (withinI (Vec.mk vX vY).X m) (withinI (Vec.mk vX vY).Y m)).Y], [])
  | _, _ => none⟩

theorem vc_vecClamped (vX : Int) (vY : Int) (m : Int) (Q : SV → List Ent → Prop) :
    fnVC tt (look [(220, fs_implWithin)]) L0 Tryz.f173 [.agg [.int .i64 vX, .int .i64 vY], .int .i64 m] [] Q =
    (Q (SV.agg [SV.int IntKind.i64 (withinI vX m), SV.int IntKind.i64 (withinI vY m)]) []) := by kernel_rfl

theorem ok_vecClamped : FsOk Tryz.prog 173 fs_vecClamped := fsOk_of tt_ok (tabFs_cons ok_implWithin tabFs_nil) mixed Tryz.func173 (by kernel_rfl) (by kernel_rfl) (by
    intro args LL p r HH h hp
    unfold fs_vecClamped at h
    dsimp only at h
    split at h
    case h_2 => cases h
    rename_i vX vY m
    simp only [Option.some.injEq, Prod.mk.injEq] at h
    obtain ⟨rfl, rfl, rfl⟩ := h
    refine ⟨by simp [Form, stays], L0, ?_⟩
    rw [vc_vecClamped]
    try dsimp only

    repeat' (first | refine ifB_of (fun _ => ?_) (fun _ => ?_) | refine pre_of ?_ (fun _ => ?_))
    all_goals first
      | rfl
      | (simp only [W, withinI, *, cond_true, cond_false, Bool.true_and, Bool.false_and, Bool.and_true, Bool.and_false, Bool.not_true, Bool.not_false, and_self, true_and]; done)
      | (simp_all [W, withinI]; done)
      | (simp_all [W, withinI] <;> omega))

def fs_l2Clamp : Fs := ⟨[], fun args H => match args, H with
  | [.agg [.int .i64 vX, .int .i64 vY]], [] => some (none, .agg [.int .i64 (clampV 1000000000 (Vec.mk vX vY)).X, .int .i64 (clampV 1000000000 (Vec.mk vX vY)).Y], [])
  | _, _ => none⟩

theorem vc_l2Clamp (vX : Int) (vY : Int) (Q : SV → List Ent → Prop) :
    fnVC tt (look [(245, fs_specFixClamp)]) L0 Tryz.f224 [.agg [.int .i64 vX, .int .i64 vY]] [] Q =
    (Q (SV.agg [SV.int IntKind.i64 (clampTo (1000000000 : Int) vX), SV.int IntKind.i64 (clampTo (1000000000 : Int) vY)]) []) := by kernel_rfl

theorem ok_l2Clamp : FsOk Tryz.prog 224 fs_l2Clamp := fsOk_of tt_ok (tabFs_cons ok_specFixClamp tabFs_nil) mixed Tryz.func224 (by kernel_rfl) (by kernel_rfl) (by
    intro args LL p r HH h hp
    unfold fs_l2Clamp at h
    dsimp only at h
    split at h
    case h_2 => cases h
    rename_i vX vY
    simp only [Option.some.injEq, Prod.mk.injEq] at h
    obtain ⟨rfl, rfl, rfl⟩ := h
    refine ⟨by simp [Form, stays], L0, ?_⟩
    rw [vc_l2Clamp]
    try dsimp only

    repeat' (first | refine ifB_of (fun _ => ?_) (fun _ => ?_) | refine pre_of ?_ (fun _ => ?_))
    all_goals first
      | rfl
      | (simp only [W, clampV, *, cond_true, cond_false, Bool.true_and, Bool.false_and, Bool.and_true, Bool.and_false, Bool.not_true, Bool.not_false, and_self, true_and]; done)
      | (simp_all [W, clampV]; done)
      | (simp_all [W, clampV] <;> omega))

def fs_isDrive : Fs := ⟨[], fun args H => match args, H with
  | [.agg [.int .i64 vX, .int .i64 vY]], [] => some (none, .bool (driveOk (Vec.mk vX vY)), [])
  | _, _ => none⟩

theorem vc_isDrive (vX : Int) (vY : Int) (Q : SV → List Ent → Prop) :
    fnVC tt (look [(173, fs_vecClamped)]) L0 Tryz.f156 [.agg [.int .i64 vX, .int .i64 vY]] [] Q =
    (Q (SV.bool (vX == withinI vX (20000000 : Int) && vY == withinI vY (20000000 : Int))) []) := by kernel_rfl

theorem ok_isDrive : FsOk Tryz.prog 156 fs_isDrive := fsOk_of tt_ok (tabFs_cons ok_vecClamped tabFs_nil) mixed Tryz.func156 (by kernel_rfl) (by kernel_rfl) (by
    intro args LL p r HH h hp
    unfold fs_isDrive at h
    dsimp only at h
    split at h
    case h_2 => cases h
    rename_i vX vY
    simp only [Option.some.injEq, Prod.mk.injEq] at h
    obtain ⟨rfl, rfl, rfl⟩ := h
    refine ⟨by simp [Form, stays], L0, ?_⟩
    rw [vc_isDrive]
    try dsimp only
    simp only [withinI_drive, clampTo_same (show (0 : Int) ≤ 20000000 by omega), driveOk, and_self])

def fs_l6Drive : Fs := ⟨[], fun args H => match args, H with
  | [.agg [.int .i64 vX, .int .i64 vY]], [] => some (none, .bool (driveOk (Vec.mk vX vY)), [])
  | _, _ => none⟩

theorem vc_l6Drive (vX : Int) (vY : Int) (Q : SV → List Ent → Prop) :
    fnVC tt (look [(74, fs_l1In)]) L0 Tryz.f158 [.agg [.int .i64 vX, .int .i64 vY]] [] Q =
    (ifB (isIn vX (-20000000 : Int) (20000000 : Int)) (Q (SV.bool (isIn vY (-20000000 : Int) (20000000 : Int))) []) (Q (SV.bool false) [])) := by kernel_rfl

theorem ok_l6Drive : FsOk Tryz.prog 158 fs_l6Drive := fsOk_of tt_ok (tabFs_cons ok_l1In tabFs_nil) mixed Tryz.func158 (by kernel_rfl) (by kernel_rfl) (by
    intro args LL p r HH h hp
    unfold fs_l6Drive at h
    dsimp only at h
    split at h
    case h_2 => cases h
    rename_i vX vY
    simp only [Option.some.injEq, Prod.mk.injEq] at h
    obtain ⟨rfl, rfl, rfl⟩ := h
    refine ⟨by simp [Form, stays], L0, ?_⟩
    rw [vc_l6Drive]
    try dsimp only

    repeat' (first | refine ifB_of (fun _ => ?_) (fun _ => ?_) | refine pre_of ?_ (fun _ => ?_))
    all_goals first
      | rfl
      | (simp only [W, driveOk, *, cond_true, cond_false, Bool.true_and, Bool.false_and, Bool.and_true, Bool.and_false, Bool.not_true, Bool.not_false, and_self, true_and]; done)
      | (simp_all [W, driveOk]; done)
      | (simp_all [W, driveOk] <;> omega))

def fs_bodyFixed : Fs := ⟨[], fun args H => match args, H with
  | [.agg [.int .i64 bI, .int .i64 bK, .int .i64 bW, .int .i64 bH, .int .i64 bX, .int .i64 bY, .int .i64 bU, .int .i64 bV, .int .i64 bM, .int .i64 bB, .int .i64 bR, .int .i64 bQ]], [] => some (none, .bool ((Body.mk bI (Shape.mk bK bW bH) (Vec.mk bX bY) (Vec.mk bU bV) bM bB bR bQ).Mass == 0), [])
  | _, _ => none⟩

theorem vc_bodyFixed (bI : Int) (bK : Int) (bW : Int) (bH : Int) (bX : Int) (bY : Int) (bU : Int) (bV : Int) (bM : Int) (bB : Int) (bR : Int) (bQ : Int) (Q : SV → List Ent → Prop) :
    fnVC tt (look []) L0 Tryz.f140 [.agg [.int .i64 bI, .int .i64 bK, .int .i64 bW, .int .i64 bH, .int .i64 bX, .int .i64 bY, .int .i64 bU, .int .i64 bV, .int .i64 bM, .int .i64 bB, .int .i64 bR, .int .i64 bQ]] [] Q =
    (Q (SV.bool (bM == (0 : Int))) []) := by kernel_rfl

theorem ok_bodyFixed : FsOk Tryz.prog 140 fs_bodyFixed := fsOk_of tt_ok tabFs_nil mixed Tryz.func140 (by kernel_rfl) (by kernel_rfl) (by
    intro args LL p r HH h hp
    unfold fs_bodyFixed at h
    dsimp only at h
    split at h
    case h_2 => cases h
    rename_i bI bK bW bH bX bY bU bV bM bB bR bQ
    simp only [Option.some.injEq, Prod.mk.injEq] at h
    obtain ⟨rfl, rfl, rfl⟩ := h
    refine ⟨by simp [Form, stays], L0, ?_⟩
    rw [vc_bodyFixed]
    try dsimp only

    repeat' (first | refine ifB_of (fun _ => ?_) (fun _ => ?_) | refine pre_of ?_ (fun _ => ?_))
    all_goals first
      | rfl
      | (simp only [W, isIn, *, cond_true, cond_false, Bool.true_and, Bool.false_and, Bool.and_true, Bool.and_false, Bool.not_true, Bool.not_false, and_self, true_and]; done)
      | (simp_all [W, isIn]; done)
      | (simp_all [W, isIn] <;> omega))

def fs_bodySleeps : Fs := ⟨[], fun args H => match args, H with
  | [.agg [.int .i64 bI, .int .i64 bK, .int .i64 bW, .int .i64 bH, .int .i64 bX, .int .i64 bY, .int .i64 bU, .int .i64 bV, .int .i64 bM, .int .i64 bB, .int .i64 bR, .int .i64 bQ]], [] => some (none, .bool ((Body.mk bI (Shape.mk bK bW bH) (Vec.mk bX bY) (Vec.mk bU bV) bM bB bR bQ).Quiet == 8), [])
  | _, _ => none⟩

theorem vc_bodySleeps (bI : Int) (bK : Int) (bW : Int) (bH : Int) (bX : Int) (bY : Int) (bU : Int) (bV : Int) (bM : Int) (bB : Int) (bR : Int) (bQ : Int) (Q : SV → List Ent → Prop) :
    fnVC tt (look []) L0 Tryz.f81 [.agg [.int .i64 bI, .int .i64 bK, .int .i64 bW, .int .i64 bH, .int .i64 bX, .int .i64 bY, .int .i64 bU, .int .i64 bV, .int .i64 bM, .int .i64 bB, .int .i64 bR, .int .i64 bQ]] [] Q =
    (Q (SV.bool (bQ == (8 : Int))) []) := by kernel_rfl

theorem ok_bodySleeps : FsOk Tryz.prog 81 fs_bodySleeps := fsOk_of tt_ok tabFs_nil mixed Tryz.func81 (by kernel_rfl) (by kernel_rfl) (by
    intro args LL p r HH h hp
    unfold fs_bodySleeps at h
    dsimp only at h
    split at h
    case h_2 => cases h
    rename_i bI bK bW bH bX bY bU bV bM bB bR bQ
    simp only [Option.some.injEq, Prod.mk.injEq] at h
    obtain ⟨rfl, rfl, rfl⟩ := h
    refine ⟨by simp [Form, stays], L0, ?_⟩
    rw [vc_bodySleeps]
    try dsimp only

    repeat' (first | refine ifB_of (fun _ => ?_) (fun _ => ?_) | refine pre_of ?_ (fun _ => ?_))
    all_goals first
      | rfl
      | (simp only [W, isIn, *, cond_true, cond_false, Bool.true_and, Bool.false_and, Bool.and_true, Bool.and_false, Bool.not_true, Bool.not_false, and_self, true_and]; done)
      | (simp_all [W, isIn]; done)
      | (simp_all [W, isIn] <;> omega))

def fs_specBodyOk : Fs := ⟨[], fun args H => match args, H with
  | [.agg [.int .i64 bI, .int .i64 bK, .int .i64 bW, .int .i64 bH, .int .i64 bX, .int .i64 bY, .int .i64 bU, .int .i64 bV, .int .i64 bM, .int .i64 bB, .int .i64 bR, .int .i64 bQ]], [] => some (none, .bool (bodyOk (Body.mk bI (Shape.mk bK bW bH) (Vec.mk bX bY) (Vec.mk bU bV) bM bB bR bQ)), [])
  | _, _ => none⟩

theorem vc_specBodyOk (bI : Int) (bK : Int) (bW : Int) (bH : Int) (bX : Int) (bY : Int) (bU : Int) (bV : Int) (bM : Int) (bB : Int) (bR : Int) (bQ : Int) (Q : SV → List Ent → Prop) :
    fnVC tt (look [(74, fs_l1In), (190, fs_specShapeOk), (130, fs_l3Place), (158, fs_l6Drive)]) L0 Tryz.f110 [.agg [.int .i64 bI, .int .i64 bK, .int .i64 bW, .int .i64 bH, .int .i64 bX, .int .i64 bY, .int .i64 bU, .int .i64 bV, .int .i64 bM, .int .i64 bB, .int .i64 bR, .int .i64 bQ]] [] Q =
    (ifB (!isIn bI (0 : Int) (999999999 : Int)) (Q (SV.bool false) []) (ifB (!shapeOk (Shape.mk bK bW bH)) (Q (SV.bool false) []) (ifB (!placeOk (Vec.mk bX bY)) (Q (SV.bool false) []) (ifB (!driveOk (Vec.mk bU bV)) (Q (SV.bool false) []) (ifB (!isIn bM (0 : Int) (1000 : Int)) (Q (SV.bool false) []) (ifB (!isIn bB (0 : Int) (256 : Int)) (Q (SV.bool false) []) (ifB (!isIn bR (0 : Int) (256 : Int)) (Q (SV.bool false) []) (ifB (!isIn bQ (0 : Int) (8 : Int)) (Q (SV.bool false) []) (ifB (bM == (0 : Int)) (ifB (bU == (0 : Int) && bV == (0 : Int)) (Q (SV.bool (bQ == (0 : Int))) []) (Q (SV.bool false) [])) (ifB (decide (bQ < (8 : Int))) (Q (SV.bool true) []) (Q (SV.bool (bU == (0 : Int) && bV == (0 : Int))) []))))))))))) := by kernel_rfl

theorem ok_specBodyOk : FsOk Tryz.prog 110 fs_specBodyOk := fsOk_of tt_ok (tabFs_cons ok_l1In (tabFs_cons ok_specShapeOk (tabFs_cons ok_l3Place (tabFs_cons ok_l6Drive tabFs_nil)))) mixed Tryz.func110 (by kernel_rfl) (by kernel_rfl) (by
    intro args LL p r HH h hp
    unfold fs_specBodyOk at h
    dsimp only at h
    split at h
    case h_2 => cases h
    rename_i bI bK bW bH bX bY bU bV bM bB bR bQ
    simp only [Option.some.injEq, Prod.mk.injEq] at h
    obtain ⟨rfl, rfl, rfl⟩ := h
    refine ⟨by simp [Form, stays], L0, ?_⟩
    rw [vc_specBodyOk]
    try dsimp only

    repeat' (first | refine ifB_of (fun _ => ?_) (fun _ => ?_) | refine pre_of ?_ (fun _ => ?_))
    all_goals first
      | rfl
      | (simp only [W, bodyOk, zeroV, *, cond_true, cond_false, Bool.true_and, Bool.false_and, Bool.and_true, Bool.and_false, Bool.not_true, Bool.not_false, and_self, true_and]; done)
      | (simp_all [W, bodyOk, zeroV]; done)
      | (simp_all [W, bodyOk, zeroV] <;> omega))

def fs_implBodyOk : Fs := ⟨[], fun args H => match args, H with
  | [.agg [.int .i64 bI, .int .i64 bK, .int .i64 bW, .int .i64 bH, .int .i64 bX, .int .i64 bY, .int .i64 bU, .int .i64 bV, .int .i64 bM, .int .i64 bB, .int .i64 bR, .int .i64 bQ]], [] => some (none, .bool (bodyOk (Body.mk bI (Shape.mk bK bW bH) (Vec.mk bX bY) (Vec.mk bU bV) bM bB bR bQ)), [])
  | _, _ => none⟩

theorem vc_implBodyOk (bI : Int) (bK : Int) (bW : Int) (bH : Int) (bX : Int) (bY : Int) (bU : Int) (bV : Int) (bM : Int) (bB : Int) (bR : Int) (bQ : Int) (Q : SV → List Ent → Prop) :
    fnVC tt (look [(77, fs_in_), (126, fs_implShapeOk), (127, fs_isPlace), (156, fs_isDrive), (140, fs_bodyFixed), (81, fs_bodySleeps)]) L0 Tryz.f111 [.agg [.int .i64 bI, .int .i64 bK, .int .i64 bW, .int .i64 bH, .int .i64 bX, .int .i64 bY, .int .i64 bU, .int .i64 bV, .int .i64 bM, .int .i64 bB, .int .i64 bR, .int .i64 bQ]] [] Q =
    (ifB (!isIn bI (0 : Int) (999999999 : Int)) (Q (SV.bool false) []) (ifB (!shapeOk (Shape.mk bK bW bH)) (Q (SV.bool false) []) (ifB (!placeOk (Vec.mk bX bY)) (Q (SV.bool false) []) (ifB (!driveOk (Vec.mk bU bV)) (Q (SV.bool false) []) (ifB (!isIn bM (0 : Int) (1000 : Int)) (Q (SV.bool false) []) (ifB (!isIn bB (0 : Int) (256 : Int)) (Q (SV.bool false) []) (ifB (!isIn bR (0 : Int) (256 : Int)) (Q (SV.bool false) []) (ifB (!isIn bQ (0 : Int) (8 : Int)) (Q (SV.bool false) []) (ifB (!bM == (0 : Int)) (ifB (!bQ == (8 : Int)) (Q (SV.bool true) []) (Q (SV.bool (bU == (0 : Int) && bV == (0 : Int))) [])) (ifB (bU == (0 : Int) && bV == (0 : Int)) (ifB (bQ == (0 : Int)) (ifB (!bQ == (8 : Int)) (Q (SV.bool true) []) (Q (SV.bool (bU == (0 : Int) && bV == (0 : Int))) [])) (Q (SV.bool false) [])) (Q (SV.bool false) []))))))))))) := by kernel_rfl

theorem ok_implBodyOk : FsOk Tryz.prog 111 fs_implBodyOk := fsOk_of tt_ok (tabFs_cons ok_in_ (tabFs_cons ok_implShapeOk (tabFs_cons ok_isPlace (tabFs_cons ok_isDrive (tabFs_cons ok_bodyFixed (tabFs_cons ok_bodySleeps tabFs_nil)))))) mixed Tryz.func111 (by kernel_rfl) (by kernel_rfl) (by
    intro args LL p r HH h hp
    unfold fs_implBodyOk at h
    dsimp only at h
    split at h
    case h_2 => cases h
    rename_i bI bK bW bH bX bY bU bV bM bB bR bQ
    simp only [Option.some.injEq, Prod.mk.injEq] at h
    obtain ⟨rfl, rfl, rfl⟩ := h
    refine ⟨by simp [Form, stays], L0, ?_⟩
    rw [vc_implBodyOk]
    try dsimp only

    repeat' (first | refine ifB_of (fun _ => ?_) (fun _ => ?_) | refine pre_of ?_ (fun _ => ?_))
    all_goals first
      | rfl
      | (simp only [W, bodyOk, zeroV, isIn, *, cond_true, cond_false, Bool.true_and, Bool.false_and, Bool.and_true, Bool.and_false, Bool.not_true, Bool.not_false, and_self, true_and]; done)
      | (simp_all [W, bodyOk, zeroV, isIn]; done)
      | (simp_all [W, bodyOk, zeroV, isIn] <;> omega))

def fs_specSpeed : Fs := ⟨[], fun args H => match args, H with
  | [.agg [.int .i64 bI, .int .i64 bK, .int .i64 bW, .int .i64 bH, .int .i64 bX, .int .i64 bY, .int .i64 bU, .int .i64 bV, .int .i64 bM, .int .i64 bB, .int .i64 bR, .int .i64 bQ]], [] => some (none, .agg [.int .i64 (speed (Body.mk bI (Shape.mk bK bW bH) (Vec.mk bX bY) (Vec.mk bU bV) bM bB bR bQ)).X, .int .i64 (speed (Body.mk bI (Shape.mk bK bW bH) (Vec.mk bX bY) (Vec.mk bU bV) bM bB bR bQ)).Y], [])
  | _, _ => none⟩

theorem vc_specSpeed (bI : Int) (bK : Int) (bW : Int) (bH : Int) (bX : Int) (bY : Int) (bU : Int) (bV : Int) (bM : Int) (bB : Int) (bR : Int) (bQ : Int) (Q : SV → List Ent → Prop) :
    fnVC tt (look []) L0 Tryz.f217 [.agg [.int .i64 bI, .int .i64 bK, .int .i64 bW, .int .i64 bH, .int .i64 bX, .int .i64 bY, .int .i64 bU, .int .i64 bV, .int .i64 bM, .int .i64 bB, .int .i64 bR, .int .i64 bQ]] [] Q =
    (ifB (bM == (0 : Int)) (Q (SV.agg [SV.int IntKind.i64 (0 : Int), SV.int IntKind.i64 (0 : Int)]) []) (bM ≠ (0 : Int) ∧ bM ≠ (0 : Int) ∧ Q (SV.agg [SV.int IntKind.i64 (IntKind.wrap IntKind.i64 (Int.tdiv bU bM)), SV.int IntKind.i64 (IntKind.wrap IntKind.i64 (Int.tdiv bV bM))]) [])) := by kernel_rfl

theorem ok_specSpeed : FsOk Tryz.prog 217 fs_specSpeed := fsOk_of tt_ok tabFs_nil mixed Tryz.func217 (by kernel_rfl) (by kernel_rfl) (by
    intro args LL p r HH h hp
    unfold fs_specSpeed at h
    dsimp only at h
    split at h
    case h_2 => cases h
    rename_i bI bK bW bH bX bY bU bV bM bB bR bQ
    simp only [Option.some.injEq, Prod.mk.injEq] at h
    obtain ⟨rfl, rfl, rfl⟩ := h
    refine ⟨by simp [Form, stays], L0, ?_⟩
    rw [vc_specSpeed]
    try dsimp only

    repeat' (first | refine ifB_of (fun _ => ?_) (fun _ => ?_) | refine pre_of ?_ (fun _ => ?_))
    all_goals first
      | rfl
      | (simp only [W, speed, *, cond_true, cond_false, Bool.true_and, Bool.false_and, Bool.and_true, Bool.and_false, Bool.not_true, Bool.not_false, and_self, true_and]; done)
      | (simp_all [W, speed]; done)
      | (simp_all [W, speed] <;> omega))

def fs_specVecSub : Fs := ⟨[], fun args H => match args, H with
  | [.agg [.int .i64 aX, .int .i64 aY], .agg [.int .i64 bX, .int .i64 bY]], [] => some (none, .agg [.int .i64 (vecSub (Vec.mk aX aY) (Vec.mk bX bY)).X, .int .i64 (vecSub (Vec.mk aX aY) (Vec.mk bX bY)).Y], [])
  | _, _ => none⟩

theorem vc_specVecSub (aX : Int) (aY : Int) (bX : Int) (bY : Int) (Q : SV → List Ent → Prop) :
    fnVC tt (look [(224, fs_l2Clamp)]) L0 Tryz.f250 [.agg [.int .i64 aX, .int .i64 aY], .agg [.int .i64 bX, .int .i64 bY]] [] Q =
    (Q (SV.agg [SV.int IntKind.i64 (Vec.X (clampV (1000000000 : Int) (Vec.mk (IntKind.wrap IntKind.i64 (Vec.X (clampV (1000000000 : Int) (Vec.mk aX aY)) - Vec.X (clampV (1000000000 : Int) (Vec.mk bX bY)))) (IntKind.wrap IntKind.i64 (Vec.Y (clampV (1000000000 : Int) (Vec.mk aX aY)) - Vec.Y (clampV (1000000000 : Int) (Vec.mk bX bY))))))), SV.int IntKind.i64 (Vec.Y (clampV (1000000000 : Int) (Vec.mk (IntKind.wrap IntKind.i64 (Vec.X (clampV (1000000000 : Int) (Vec.mk aX aY)) - Vec.X (clampV (1000000000 : Int) (Vec.mk bX bY)))) (IntKind.wrap IntKind.i64 (Vec.Y (clampV (1000000000 : Int) (Vec.mk aX aY)) - Vec.Y (clampV (1000000000 : Int) (Vec.mk bX bY)))))))]) []) := by kernel_rfl

theorem ok_specVecSub : FsOk Tryz.prog 250 fs_specVecSub := fsOk_of tt_ok (tabFs_cons ok_l2Clamp tabFs_nil) mixed Tryz.func250 (by kernel_rfl) (by kernel_rfl) (by
    intro args LL p r HH h hp
    unfold fs_specVecSub at h
    dsimp only at h
    split at h
    case h_2 => cases h
    rename_i aX aY bX bY
    simp only [Option.some.injEq, Prod.mk.injEq] at h
    obtain ⟨rfl, rfl, rfl⟩ := h
    refine ⟨by simp [Form, stays], L0, ?_⟩
    rw [vc_specVecSub]
    try dsimp only

    repeat' (first | refine ifB_of (fun _ => ?_) (fun _ => ?_) | refine pre_of ?_ (fun _ => ?_))
    all_goals first
      | rfl
      | (simp only [W, vecSub, minus, *, cond_true, cond_false, Bool.true_and, Bool.false_and, Bool.and_true, Bool.and_false, Bool.not_true, Bool.not_false, and_self, true_and]; done)
      | (simp_all [W, vecSub, minus]; done)
      | (simp_all [W, vecSub, minus] <;> omega))

def fs_specVecDot : Fs := ⟨[], fun args H => match args, H with
  | [.agg [.int .i64 aX, .int .i64 aY], .agg [.int .i64 bX, .int .i64 bY]], [] => some (none, .int .i64 (dot (Vec.mk aX aY) (Vec.mk bX bY)), [])
  | _, _ => none⟩

theorem vc_specVecDot (aX : Int) (aY : Int) (bX : Int) (bY : Int) (Q : SV → List Ent → Prop) :
    fnVC tt (look [(224, fs_l2Clamp), (245, fs_specFixClamp)]) L0 Tryz.f249 [.agg [.int .i64 aX, .int .i64 aY], .agg [.int .i64 bX, .int .i64 bY]] [] Q =
    (Q (SV.int IntKind.i64 (clampTo (1000000000 : Int) (IntKind.wrap IntKind.i64 (Int.tdiv (IntKind.wrap IntKind.i64 (IntKind.wrap IntKind.i64 (Vec.X (clampV (1000000000 : Int) (Vec.mk aX aY)) * Vec.X (clampV (1000000000 : Int) (Vec.mk bX bY))) + IntKind.wrap IntKind.i64 (Vec.Y (clampV (1000000000 : Int) (Vec.mk aX aY)) * Vec.Y (clampV (1000000000 : Int) (Vec.mk bX bY))))) (256 : Int))))) []) := by kernel_rfl

theorem ok_specVecDot : FsOk Tryz.prog 249 fs_specVecDot := fsOk_of tt_ok (tabFs_cons ok_l2Clamp (tabFs_cons ok_specFixClamp tabFs_nil)) mixed Tryz.func249 (by kernel_rfl) (by kernel_rfl) (by
    intro args LL p r HH h hp
    unfold fs_specVecDot at h
    dsimp only at h
    split at h
    case h_2 => cases h
    rename_i aX aY bX bY
    simp only [Option.some.injEq, Prod.mk.injEq] at h
    obtain ⟨rfl, rfl, rfl⟩ := h
    refine ⟨by simp [Form, stays], L0, ?_⟩
    rw [vc_specVecDot]
    try dsimp only

    repeat' (first | refine ifB_of (fun _ => ?_) (fun _ => ?_) | refine pre_of ?_ (fun _ => ?_))
    all_goals first
      | rfl
      | (simp only [W, dot, dotC, clampV, *, cond_true, cond_false, Bool.true_and, Bool.false_and, Bool.and_true, Bool.and_false, Bool.not_true, Bool.not_false, and_self, true_and]; done)
      | (simp_all [W, dot, dotC, clampV]; done)
      | (simp_all [W, dot, dotC, clampV] <;> omega))

def fs_l8Closing : Fs := ⟨[], fun args H => match args, H with
  | [.agg [.int .i64 aI, .int .i64 aK, .int .i64 aW, .int .i64 aH, .int .i64 aX, .int .i64 aY, .int .i64 aU, .int .i64 aV, .int .i64 aM, .int .i64 aB, .int .i64 aR, .int .i64 aQ], .agg [.int .i64 bI, .int .i64 bK, .int .i64 bW, .int .i64 bH, .int .i64 bX, .int .i64 bY, .int .i64 bU, .int .i64 bV, .int .i64 bM, .int .i64 bB, .int .i64 bR, .int .i64 bQ], .agg [.int .i64 hX, .int .i64 hY, .int .i64 hD]], [] => some (none, .int .i64 (closing (Body.mk aI (Shape.mk aK aW aH) (Vec.mk aX aY) (Vec.mk aU aV) aM aB aR aQ) (Body.mk bI (Shape.mk bK bW bH) (Vec.mk bX bY) (Vec.mk bU bV) bM bB bR bQ) (Hit.mk (Vec.mk hX hY) hD).Way), [])
  | _, _ => none⟩

theorem vc_l8Closing (aI : Int) (aK : Int) (aW : Int) (aH : Int) (aX : Int) (aY : Int) (aU : Int) (aV : Int) (aM : Int) (aB : Int) (aR : Int) (aQ : Int) (bI : Int) (bK : Int) (bW : Int) (bH : Int) (bX : Int) (bY : Int) (bU : Int) (bV : Int) (bM : Int) (bB : Int) (bR : Int) (bQ : Int) (hX : Int) (hY : Int) (hD : Int) (Q : SV → List Ent → Prop) :
    fnVC tt (look [(217, fs_specSpeed), (250, fs_specVecSub), (249, fs_specVecDot)]) L0 Tryz.f247 [.agg [.int .i64 aI, .int .i64 aK, .int .i64 aW, .int .i64 aH, .int .i64 aX, .int .i64 aY, .int .i64 aU, .int .i64 aV, .int .i64 aM, .int .i64 aB, .int .i64 aR, .int .i64 aQ], .agg [.int .i64 bI, .int .i64 bK, .int .i64 bW, .int .i64 bH, .int .i64 bX, .int .i64 bY, .int .i64 bU, .int .i64 bV, .int .i64 bM, .int .i64 bB, .int .i64 bR, .int .i64 bQ], .agg [.int .i64 hX, .int .i64 hY, .int .i64 hD]] [] Q =
    (Q (SV.int IntKind.i64 (dot (vecSub (speed (Body.mk aI (Shape.mk aK aW aH) (Vec.mk aX aY) (Vec.mk aU aV) aM aB aR aQ)) (speed (Body.mk bI (Shape.mk bK bW bH) (Vec.mk bX bY) (Vec.mk bU bV) bM bB bR bQ))) (Vec.mk hX hY))) []) := by kernel_rfl

theorem ok_l8Closing : FsOk Tryz.prog 247 fs_l8Closing := fsOk_of tt_ok (tabFs_cons ok_specSpeed (tabFs_cons ok_specVecSub (tabFs_cons ok_specVecDot tabFs_nil))) mixed Tryz.func247 (by kernel_rfl) (by kernel_rfl) (by
    intro args LL p r HH h hp
    unfold fs_l8Closing at h
    dsimp only at h
    split at h
    case h_2 => cases h
    rename_i aI aK aW aH aX aY aU aV aM aB aR aQ bI bK bW bH bX bY bU bV bM bB bR bQ hX hY hD
    simp only [Option.some.injEq, Prod.mk.injEq] at h
    obtain ⟨rfl, rfl, rfl⟩ := h
    refine ⟨by simp [Form, stays], L0, ?_⟩
    rw [vc_l8Closing]
    try dsimp only

    repeat' (first | refine ifB_of (fun _ => ?_) (fun _ => ?_) | refine pre_of ?_ (fun _ => ?_))
    all_goals first
      | rfl
      | (simp only [W, closing, *, cond_true, cond_false, Bool.true_and, Bool.false_and, Bool.and_true, Bool.and_false, Bool.not_true, Bool.not_false, and_self, true_and]; done)
      | (simp_all [W, closing]; done)
      | (simp_all [W, closing] <;> omega))

end Go.Proofs.YtdhbkcaaijgocaaGreat.Sym

