/-
  Rays and boxes, rays and shapes.
  No condition.
-/
import Derived.Test.YtmflfpedmbfhkaaF2
namespace Go.Proofs.Ytmflfpedmbfhkaa.Sym
open Go
set_option linter.unusedVariables false
set_option linter.unusedSimpArgs false
set_option maxRecDepth 100000

def down (a b : Int) : Int :=
  if a.tmod b ≠ 0 ∧ ¬ ((a < 0) ↔ (b < 0)) then W (W (a.tdiv b) - 1) else W (a.tdiv b)
def slab (f w lo hi a b : Int) : Int × Int × Bool :=
  if w = 0 then (a, b, isIn f lo hi)
  else if w < 0 then
    let x := down (W (W (hi - f) * 256)) w
    let y := W (0 - down (W (W (f - lo) * 256)) w)
    let a' := max a x
    let b' := min b y
    (a', b', decide (a' ≤ b'))
  else
    let x := down (W (W (lo - f) * 256)) w
    let y := W (0 - down (W (W (f - hi) * 256)) w)
    let a' := max a x
    let b' := min b y
    (a', b', decide (a' ≤ b'))
def rayBox (r : Ray) (b : Box) : Int × Bool :=
  let s := slab r.From.X r.Way.X b.Low.X b.High.X 0 256
  if s.2.2 then
    let t := slab r.From.Y r.Way.Y b.Low.Y b.High.Y s.1 s.2.1
    if t.2.2 then (t.1, true) else (0, false)
  else (0, false)
def boxOk (b : Box) : Bool := vecOk b.Low && vecOk b.High && decide (b.Low.X ≤ b.High.X) && decide (b.Low.Y ≤ b.High.Y)
def rayBoxAll (r : Ray) (b : Box) : Int × Bool :=
  if rayOk r && boxOk b && placeOk b.Low && placeOk b.High then rayBox r b else (0, false)
def shapeOk (s : Shape) : Bool :=
  if s.Kind = 1 then isIn s.Wide 1 25600 && s.High == 0 else if s.Kind = 2 then isIn s.Wide 1 25600 && isIn s.High 1 25600 else false
def rayShape (r : Ray) (s : Shape) (p : Vec) : Int × Bool :=
  if rayOk r && shapeOk s && placeOk p then (if s.Kind = 1 then rayRound r p s.Wide else rayBox r (bounds s p)) else (0, false)

theorem W_neg (a b : Int) : W (0 - W (a - b)) = W (b - a) := by
  simp only [W, IntKind.wrap_i64]
  omega

theorem W_neg' (a b : Int) : IntKind.i64.wrap (0 - IntKind.i64.wrap (a - b)) = IntKind.i64.wrap (b - a) := W_neg a b

theorem max_b {a x : Int} : (if x > a then x else a) = max a x := by
  split
  · rw [Int.max_eq_right (by omega)]
  · rw [Int.max_eq_left (by omega)]
theorem min_b {b y : Int} : (if y < b then y else b) = min b y := by
  split
  · rw [Int.min_eq_right (by omega)]
  · rw [Int.min_eq_left (by omega)]

def fs_l3More : Fs := ⟨[], fun args H => match args, H with
  | [.int .i64 a, .int .i64 b], [] => some (none, .int .i64 (max a b), [])
  | _, _ => none⟩

theorem vc_l3More (a : Int) (b : Int) (Q : SV → List Ent → Prop) :
    fnVC tt (look []) L0 Try.f39 [.int .i64 a, .int .i64 b] [] Q =
    (ifB (decide (a > b)) (Q (SV.int IntKind.i64 a) []) (Q (SV.int IntKind.i64 b) [])) := by kernel_rfl

theorem ok_l3More : FsOk Try.prog 39 fs_l3More := fsOk_of tt_ok tabFs_nil mixed Try.func39 (by kernel_rfl) (by kernel_rfl) (by
    intro args LL p r HH h hp
    unfold fs_l3More at h
    dsimp only at h
    split at h
    case h_2 => cases h
    rename_i a b
    simp only [Option.some.injEq, Prod.mk.injEq] at h
    obtain ⟨rfl, rfl, rfl⟩ := h
    refine ⟨by simp [Form, stays], L0, ?_⟩
    rw [vc_l3More]
    try dsimp only
    refine ifB_of (fun h => ?_) (fun h => ?_)
    · have h : a > b := of_decide_eq_true h
      rw [Int.max_eq_left (by omega)]
      exact ⟨rfl, rfl⟩
    · have h : ¬ a > b := of_decide_eq_false h
      rw [Int.max_eq_right (by omega)]
      exact ⟨rfl, rfl⟩)

def fs_l3Less : Fs := ⟨[], fun args H => match args, H with
  | [.int .i64 a, .int .i64 b], [] => some (none, .int .i64 (min a b), [])
  | _, _ => none⟩

theorem vc_l3Less (a : Int) (b : Int) (Q : SV → List Ent → Prop) :
    fnVC tt (look []) L0 Try.f44 [.int .i64 a, .int .i64 b] [] Q =
    (ifB (decide (a < b)) (Q (SV.int IntKind.i64 a) []) (Q (SV.int IntKind.i64 b) [])) := by kernel_rfl

theorem ok_l3Less : FsOk Try.prog 44 fs_l3Less := fsOk_of tt_ok tabFs_nil mixed Try.func44 (by kernel_rfl) (by kernel_rfl) (by
    intro args LL p r HH h hp
    unfold fs_l3Less at h
    dsimp only at h
    split at h
    case h_2 => cases h
    rename_i a b
    simp only [Option.some.injEq, Prod.mk.injEq] at h
    obtain ⟨rfl, rfl, rfl⟩ := h
    refine ⟨by simp [Form, stays], L0, ?_⟩
    rw [vc_l3Less]
    try dsimp only
    refine ifB_of (fun h => ?_) (fun h => ?_)
    · have h : a < b := of_decide_eq_true h
      rw [Int.min_eq_left (by omega)]
      exact ⟨rfl, rfl⟩
    · have h : ¬ a < b := of_decide_eq_false h
      rw [Int.min_eq_right (by omega)]
      exact ⟨rfl, rfl⟩)


def fs_specShapeOk : Fs := ⟨[], fun args H => match args, H with
  | [.agg [.int .i64 sK, .int .i64 sW, .int .i64 sH]], [] => some (none, .bool (shapeOk (Shape.mk sK sW sH)), [])
  | _, _ => none⟩

theorem vc_specShapeOk (sK : Int) (sW : Int) (sH : Int) (Q : SV → List Ent → Prop) :
    fnVC tt (look [(19, fs_l1In)]) L0 Try.f20 [.agg [.int .i64 sK, .int .i64 sW, .int .i64 sH]] [] Q =
    (ifB (sK == (1 : Int)) (ifB (isIn sW (1 : Int) (25600 : Int)) (Q (SV.bool (sH == (0 : Int))) []) (Q (SV.bool false) [])) (ifB (sK == (2 : Int)) (ifB (isIn sW (1 : Int) (25600 : Int)) (Q (SV.bool (isIn sH (1 : Int) (25600 : Int))) []) (Q (SV.bool false) [])) (Q (SV.bool false) []))) := by kernel_rfl

theorem ok_specShapeOk : FsOk Try.prog 20 fs_specShapeOk := fsOk_of tt_ok (tabFs_cons ok_l1In tabFs_nil) mixed Try.func20 (by kernel_rfl) (by kernel_rfl) (by
    intro args LL p r HH h hp
    unfold fs_specShapeOk at h
    dsimp only at h
    split at h
    case h_2 => cases h
    rename_i sK sW sH
    simp only [Option.some.injEq, Prod.mk.injEq] at h
    obtain ⟨rfl, rfl, rfl⟩ := h
    refine ⟨by simp [Form, stays], L0, ?_⟩
    rw [vc_specShapeOk]
    try dsimp only

    repeat' (first | refine ifB_of (fun _ => ?_) (fun _ => ?_) | refine pre_of ?_ (fun _ => ?_))
    all_goals first
      | rfl
      | (simp only [W, shapeOk, *, cond_true, cond_false, Bool.true_and, Bool.false_and, Bool.and_true, Bool.and_false, Bool.not_true, Bool.not_false, and_self, true_and]; done)
      | (simp_all [W, shapeOk]; done)
      | (simp_all [W, shapeOk] <;> omega))

def fs_implShapeOk : Fs := ⟨[], fun args H => match args, H with
  | [.agg [.int .i64 sK, .int .i64 sW, .int .i64 sH]], [] => some (none, .bool (shapeOk (Shape.mk sK sW sH)), [])
  | _, _ => none⟩

theorem vc_implShapeOk (sK : Int) (sW : Int) (sH : Int) (Q : SV → List Ent → Prop) :
    fnVC tt (look [(30, fs_in_)]) L0 Try.f31 [.agg [.int .i64 sK, .int .i64 sW, .int .i64 sH]] [] Q =
    (ifB (sK == (1 : Int)) (ifB (isIn sW (1 : Int) (25600 : Int)) (Q (SV.bool (sH == (0 : Int))) []) (Q (SV.bool false) [])) (ifB (sK == (2 : Int)) (ifB (isIn sW (1 : Int) (25600 : Int)) (Q (SV.bool (isIn sH (1 : Int) (25600 : Int))) []) (Q (SV.bool false) [])) (Q (SV.bool false) []))) := by kernel_rfl

theorem ok_implShapeOk : FsOk Try.prog 31 fs_implShapeOk := fsOk_of tt_ok (tabFs_cons ok_in_ tabFs_nil) mixed Try.func31 (by kernel_rfl) (by kernel_rfl) (by
    intro args LL p r HH h hp
    unfold fs_implShapeOk at h
    dsimp only at h
    split at h
    case h_2 => cases h
    rename_i sK sW sH
    simp only [Option.some.injEq, Prod.mk.injEq] at h
    obtain ⟨rfl, rfl, rfl⟩ := h
    refine ⟨by simp [Form, stays], L0, ?_⟩
    rw [vc_implShapeOk]
    try dsimp only

    repeat' (first | refine ifB_of (fun _ => ?_) (fun _ => ?_) | refine pre_of ?_ (fun _ => ?_))
    all_goals first
      | rfl
      | (simp only [W, shapeOk, *, cond_true, cond_false, Bool.true_and, Bool.false_and, Bool.and_true, Bool.and_false, Bool.not_true, Bool.not_false, and_self, true_and]; done)
      | (simp_all [W, shapeOk]; done)
      | (simp_all [W, shapeOk] <;> omega))


end Go.Proofs.Ytmflfpedmbfhkaa.Sym
