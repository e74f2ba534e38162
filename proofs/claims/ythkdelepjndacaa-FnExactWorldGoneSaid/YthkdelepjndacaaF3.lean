/-
  Rays and boxes, rays and shapes.
  No condition.
-/
import Derived.Test.YthkdelepjndacaaF2
namespace Go.Proofs.Ythkdelepjndacaa.Sym
open Go
set_option linter.unusedVariables false
set_option linter.unusedSimpArgs false
set_option maxRecDepth 100000

def down (a b : Int) : Int :=
  if a.tmod b ≠ 0 ∧ ¬ ((a < 0) ↔ (b < 0)) then W (W (a.tdiv b) - 1) else W (a.tdiv b)
def slab (f w lo hi a b : Int) : Int × Int × Bool :=
  if w = 0 then (a, b, isIn f lo hi)
  else if w < 0 then
    let x := down (W (W (hi - f) * 256)) w
    let y := W (0 - down (W (W (f - lo) * 256)) w)
    let a' := max a x
    let b' := min b y
    (a', b', decide (a' ≤ b'))
  else
    let x := down (W (W (lo - f) * 256)) w
    let y := W (0 - down (W (W (f - hi) * 256)) w)
    let a' := max a x
    let b' := min b y
    (a', b', decide (a' ≤ b'))
def rayBox (r : Ray) (b : Box) : Int × Bool :=
  let s := slab r.From.X r.Way.X b.Low.X b.High.X 0 256
  if s.2.2 then
    let t := slab r.From.Y r.Way.Y b.Low.Y b.High.Y s.1 s.2.1
    if t.2.2 then (t.1, true) else (0, false)
  else (0, false)
def boxOk (b : Box) : Bool := vecOk b.Low && vecOk b.High && decide (b.Low.X ≤ b.High.X) && decide (b.Low.Y ≤ b.High.Y)
def rayBoxAll (r : Ray) (b : Box) : Int × Bool :=
  if rayOk r && boxOk b && placeOk b.Low && placeOk b.High then rayBox r b else (0, false)
def shapeOk (s : Shape) : Bool :=
  if s.Kind = 1 then isIn s.Wide 1 25600 && s.High == 0 else if s.Kind = 2 then isIn s.Wide 1 25600 && isIn s.High 1 25600 else false
def rayShape (r : Ray) (s : Shape) (p : Vec) : Int × Bool :=
  if rayOk r && shapeOk s && placeOk p then (if s.Kind = 1 then rayRound r p s.Wide else rayBox r (bounds s p)) else (0, false)

theorem W_neg (a b : Int) : W (0 - W (a - b)) = W (b - a) := by
  simp only [W, IntKind.wrap_i64]
  omega

theorem W_neg' (a b : Int) : IntKind.i64.wrap (0 - IntKind.i64.wrap (a - b)) = IntKind.i64.wrap (b - a) := W_neg a b

theorem max_b {a x : Int} : (if x > a then x else a) = max a x := by
  split
  · rw [Int.max_eq_right (by omega)]
  · rw [Int.max_eq_left (by omega)]
theorem min_b {b y : Int} : (if y < b then y else b) = min b y := by
  split
  · rw [Int.min_eq_right (by omega)]
  · rw [Int.min_eq_left (by omega)]

def fs_lawsToShape : Fs := ⟨[], fun args H => match args, H with
  | [.agg [.int .i64 sK, .int .i64 sW, .int .i64 sH]], [] => some (none, .agg [.int .i64 ((Shape.mk sK sW sH)).Kind, .int .i64 ((Shape.mk sK sW sH)).Wide, .int .i64 ((Shape.mk sK sW sH)).High], [])
  | _, _ => none⟩

theorem vc_lawsToShape (sK : Int) (sW : Int) (sH : Int) (Q : SV → List Ent → Prop) :
    fnVC tt (look []) L0 Try.f80 [.agg [.int .i64 sK, .int .i64 sW, .int .i64 sH]] [] Q =
    (Q (SV.agg [SV.int IntKind.i64 sK, SV.int IntKind.i64 sW, SV.int IntKind.i64 sH]) []) := by kernel_rfl

theorem ok_lawsToShape : FsOk Try.prog 80 fs_lawsToShape := fsOk_of tt_ok tabFs_nil mixed Try.func80 (by kernel_rfl) (by kernel_rfl) (by
    intro args LL p r HH h hp
    unfold fs_lawsToShape at h
    dsimp only at h
    split at h
    case h_2 => cases h
    rename_i sK sW sH
    simp only [Option.some.injEq, Prod.mk.injEq] at h
    obtain ⟨rfl, rfl, rfl⟩ := h
    refine ⟨by simp [Form, stays], L0, ?_⟩
    rw [vc_lawsToShape]
    try dsimp only

    repeat' (first | refine ifB_of (fun _ => ?_) (fun _ => ?_) | refine pre_of ?_ (fun _ => ?_))
    all_goals first
      | rfl
      | (simp only [W, rayOk, *, cond_true, cond_false, Bool.true_and, Bool.false_and, Bool.and_true, Bool.and_false, Bool.not_true, Bool.not_false, and_self, true_and]; done)
      | (simp_all [W, rayOk]; done)
      | (simp_all [W, rayOk] <;> omega))

def fs_implDown : Fs := ⟨[], fun args H => match args, H with
  | [.int .i64 a, .int .i64 b], [] => some ((some (b ≠ 0)), .int .i64 (down a b), [])
  | _, _ => none⟩

theorem vc_implDown (a : Int) (b : Int) (Q : SV → List Ent → Prop) :
    fnVC tt (look []) L0 Try.f178 [.int .i64 a, .int .i64 b] [] Q =
    (b ≠ (0 : Int) ∧ b ≠ (0 : Int) ∧ ifB (Int.tmod a b != (0 : Int)) (ifB (!decide (a < (0 : Int)) == decide (b < (0 : Int))) (Q (SV.int IntKind.i64 (IntKind.wrap IntKind.i64 (IntKind.wrap IntKind.i64 (Int.tdiv a b) - (1 : Int)))) []) (Q (SV.int IntKind.i64 (IntKind.wrap IntKind.i64 (Int.tdiv a b))) [])) (Q (SV.int IntKind.i64 (IntKind.wrap IntKind.i64 (Int.tdiv a b))) [])) := by kernel_rfl

theorem ok_implDown : FsOk Try.prog 178 fs_implDown := fsOk_of tt_ok tabFs_nil mixed Try.func178 (by kernel_rfl) (by kernel_rfl) (by
    intro args LL p r HH h hp
    unfold fs_implDown at h
    dsimp only at h
    split at h
    case h_2 => cases h
    rename_i a b
    simp only [Option.some.injEq, Prod.mk.injEq] at h
    obtain ⟨rfl, rfl, rfl⟩ := h
    refine ⟨by simp [Form, stays], L0, ?_⟩
    rw [vc_implDown]
    try dsimp only
    have hb := hp _ rfl
    repeat' (first | refine ifB_of (fun _ => ?_) (fun _ => ?_) | refine pre_of ?_ (fun _ => ?_))
    all_goals first
      | rfl
      | (simp only [W, down, *, cond_true, cond_false, Bool.true_and, Bool.false_and, Bool.and_true, Bool.and_false, Bool.not_true, Bool.not_false, and_self, true_and]; done)
      | (simp_all [W, down]; done)
      | (simp_all [W, down] <;> omega))

def fs_l5Down : Fs := ⟨[], fun args H => match args, H with
  | [.int .i64 a, .int .i64 b], [] => some ((some (b ≠ 0)), .int .i64 (down a b), [])
  | _, _ => none⟩

theorem vc_l5Down (a : Int) (b : Int) (Q : SV → List Ent → Prop) :
    fnVC tt (look []) L0 Try.f177 [.int .i64 a, .int .i64 b] [] Q =
    (b ≠ (0 : Int) ∧ b ≠ (0 : Int) ∧ ifB (Int.tmod a b != (0 : Int)) (ifB (!decide (a < (0 : Int)) == decide (b < (0 : Int))) (Q (SV.int IntKind.i64 (IntKind.wrap IntKind.i64 (IntKind.wrap IntKind.i64 (Int.tdiv a b) - (1 : Int)))) []) (Q (SV.int IntKind.i64 (IntKind.wrap IntKind.i64 (Int.tdiv a b))) [])) (Q (SV.int IntKind.i64 (IntKind.wrap IntKind.i64 (Int.tdiv a b))) [])) := by kernel_rfl

theorem ok_l5Down : FsOk Try.prog 177 fs_l5Down := fsOk_of tt_ok tabFs_nil mixed Try.func177 (by kernel_rfl) (by kernel_rfl) (by
    intro args LL p r HH h hp
    unfold fs_l5Down at h
    dsimp only at h
    split at h
    case h_2 => cases h
    rename_i a b
    simp only [Option.some.injEq, Prod.mk.injEq] at h
    obtain ⟨rfl, rfl, rfl⟩ := h
    refine ⟨by simp [Form, stays], L0, ?_⟩
    rw [vc_l5Down]
    try dsimp only
    have hb := hp _ rfl
    repeat' (first | refine ifB_of (fun _ => ?_) (fun _ => ?_) | refine pre_of ?_ (fun _ => ?_))
    all_goals first
      | rfl
      | (simp only [W, down, *, cond_true, cond_false, Bool.true_and, Bool.false_and, Bool.and_true, Bool.and_false, Bool.not_true, Bool.not_false, and_self, true_and]; done)
      | (simp_all [W, down]; done)
      | (simp_all [W, down] <;> omega))

def fs_l3More : Fs := ⟨[], fun args H => match args, H with
  | [.int .i64 a, .int .i64 b], [] => some (none, .int .i64 (max a b), [])
  | _, _ => none⟩

theorem vc_l3More (a : Int) (b : Int) (Q : SV → List Ent → Prop) :
    fnVC tt (look []) L0 Try.f160 [.int .i64 a, .int .i64 b] [] Q =
    (ifB (decide (a > b)) (Q (SV.int IntKind.i64 a) []) (Q (SV.int IntKind.i64 b) [])) := by kernel_rfl

theorem ok_l3More : FsOk Try.prog 160 fs_l3More := fsOk_of tt_ok tabFs_nil mixed Try.func160 (by kernel_rfl) (by kernel_rfl) (by
    intro args LL p r HH h hp
    unfold fs_l3More at h
    dsimp only at h
    split at h
    case h_2 => cases h
    rename_i a b
    simp only [Option.some.injEq, Prod.mk.injEq] at h
    obtain ⟨rfl, rfl, rfl⟩ := h
    refine ⟨by simp [Form, stays], L0, ?_⟩
    rw [vc_l3More]
    try dsimp only
    refine ifB_of (fun h => ?_) (fun h => ?_)
    · have h : a > b := of_decide_eq_true h
      rw [Int.max_eq_left (by omega)]
      exact ⟨rfl, rfl⟩
    · have h : ¬ a > b := of_decide_eq_false h
      rw [Int.max_eq_right (by omega)]
      exact ⟨rfl, rfl⟩)

def fs_l3Less : Fs := ⟨[], fun args H => match args, H with
  | [.int .i64 a, .int .i64 b], [] => some (none, .int .i64 (min a b), [])
  | _, _ => none⟩

theorem vc_l3Less (a : Int) (b : Int) (Q : SV → List Ent → Prop) :
    fnVC tt (look []) L0 Try.f159 [.int .i64 a, .int .i64 b] [] Q =
    (ifB (decide (a < b)) (Q (SV.int IntKind.i64 a) []) (Q (SV.int IntKind.i64 b) [])) := by kernel_rfl

theorem ok_l3Less : FsOk Try.prog 159 fs_l3Less := fsOk_of tt_ok tabFs_nil mixed Try.func159 (by kernel_rfl) (by kernel_rfl) (by
    intro args LL p r HH h hp
    unfold fs_l3Less at h
    dsimp only at h
    split at h
    case h_2 => cases h
    rename_i a b
    simp only [Option.some.injEq, Prod.mk.injEq] at h
    obtain ⟨rfl, rfl, rfl⟩ := h
    refine ⟨by simp [Form, stays], L0, ?_⟩
    rw [vc_l3Less]
    try dsimp only
    refine ifB_of (fun h => ?_) (fun h => ?_)
    · have h : a < b := of_decide_eq_true h
      rw [Int.min_eq_left (by omega)]
      exact ⟨rfl, rfl⟩
    · have h : ¬ a < b := of_decide_eq_false h
      rw [Int.min_eq_right (by omega)]
      exact ⟨rfl, rfl⟩)

def fs_l5Slab : Fs := ⟨[], fun args H => match args, H with
  | [.int .i64 f, .int .i64 w, .int .i64 lo, .int .i64 hi, .int .i64 a, .int .i64 b], [] => some (none, .tup [.int .i64 ((slab f w lo hi a b).1), .int .i64 ((slab f w lo hi a b).2.1), .bool ((slab f w lo hi a b).2.2)], [])
  | _, _ => none⟩

theorem vc_l5Slab (f : Int) (w : Int) (lo : Int) (hi : Int) (a : Int) (b : Int) (Q : SV → List Ent → Prop) :
    fnVC tt (look [(96, fs_l1In), (177, fs_l5Down), (160, fs_l3More), (159, fs_l3Less)]) L0 Try.f154 [.int .i64 f, .int .i64 w, .int .i64 lo, .int .i64 hi, .int .i64 a, .int .i64 b] [] Q =
    (ifB (w == (0 : Int)) (Q (SV.tup [SV.int IntKind.i64 a, SV.int IntKind.i64 b, SV.bool (isIn f lo hi)]) []) (ifB (decide (w < (0 : Int))) (w ≠ (0 : Int) ∧ w ≠ (0 : Int) ∧ Q (SV.tup [SV.int IntKind.i64 (max a (down (IntKind.wrap IntKind.i64 (IntKind.wrap IntKind.i64 (hi - f) * (256 : Int))) w)), SV.int IntKind.i64 (min b (IntKind.wrap IntKind.i64 ((0 : Int) - down (IntKind.wrap IntKind.i64 (IntKind.wrap IntKind.i64 (f - lo) * (256 : Int))) w))), SV.bool (decide (max a (down (IntKind.wrap IntKind.i64 (IntKind.wrap IntKind.i64 (hi - f) * (256 : Int))) w) ≤ min b (IntKind.wrap IntKind.i64 ((0 : Int) - down (IntKind.wrap IntKind.i64 (IntKind.wrap IntKind.i64 (f - lo) * (256 : Int))) w))))]) []) (w ≠ (0 : Int) ∧ w ≠ (0 : Int) ∧ Q (SV.tup [SV.int IntKind.i64 (max a (down (IntKind.wrap IntKind.i64 (IntKind.wrap IntKind.i64 (lo - f) * (256 : Int))) w)), SV.int IntKind.i64 (min b (IntKind.wrap IntKind.i64 ((0 : Int) - down (IntKind.wrap IntKind.i64 (IntKind.wrap IntKind.i64 (f - hi) * (256 : Int))) w))), SV.bool (decide (max a (down (IntKind.wrap IntKind.i64 (IntKind.wrap IntKind.i64 (lo - f) * (256 : Int))) w) ≤ min b (IntKind.wrap IntKind.i64 ((0 : Int) - down (IntKind.wrap IntKind.i64 (IntKind.wrap IntKind.i64 (f - hi) * (256 : Int))) w))))]) []))) := by kernel_rfl

theorem ok_l5Slab : FsOk Try.prog 154 fs_l5Slab := fsOk_of tt_ok (tabFs_cons ok_l1In (tabFs_cons ok_l5Down (tabFs_cons ok_l3More (tabFs_cons ok_l3Less tabFs_nil)))) mixed Try.func154 (by kernel_rfl) (by kernel_rfl) (by
    intro args LL p r HH h hp
    unfold fs_l5Slab at h
    dsimp only at h
    split at h
    case h_2 => cases h
    rename_i f w lo hi a b
    simp only [Option.some.injEq, Prod.mk.injEq] at h
    obtain ⟨rfl, rfl, rfl⟩ := h
    refine ⟨by simp [Form, stays], L0, ?_⟩
    rw [vc_l5Slab]
    try dsimp only
    refine ifB_of (fun h => ?_) (fun h => ?_)
    · have h : w = 0 := by simpa using h
      subst h
      exact ⟨rfl, rfl⟩
    have hw : w ≠ 0 := by simpa using h
    refine ifB_of (fun h2 => ?_) (fun h2 => ?_)
    · have h2 : w < 0 := of_decide_eq_true h2
      refine ⟨hw, hw, ?_⟩
      simp only [slab, hw, h2, if_true, if_false, max_b, min_b, W_neg', and_self] <;> first | exact ⟨rfl, rfl⟩ | exact ⟨rfl, trivial⟩ | exact ⟨trivial, rfl⟩
    · have h2 : ¬ w < 0 := of_decide_eq_false h2
      refine ⟨hw, hw, ?_⟩
      simp only [slab, hw, h2, if_false, max_b, min_b, W_neg', and_self] <;> first | exact ⟨rfl, rfl⟩ | exact ⟨rfl, trivial⟩ | exact ⟨trivial, rfl⟩)

def fs_implSide : Fs := ⟨[], fun args H => match args, H with
  | [.int .i64 f, .int .i64 w, .int .i64 lo, .int .i64 hi, .ptr 0 0 0, .ptr 1 0 0], [(true, .box [.int .i64 a]), (true, .box [.int .i64 b])] => some (none, .bool (slab f w lo hi a b).2.2, [(true, .box [.int .i64 (slab f w lo hi a b).1]), (true, .box [.int .i64 (slab f w lo hi a b).2.1])])
  | _, _ => none⟩

theorem vc_implSide (f : Int) (w : Int) (lo : Int) (hi : Int) (a : Int) (b : Int) (Q : SV → List Ent → Prop) :
    fnVC tt (look [(91, fs_in_), (178, fs_implDown)]) L0 Try.f158 [.int .i64 f, .int .i64 w, .int .i64 lo, .int .i64 hi, .ptr 0 0 0, .ptr 1 0 0] [(true, .box [.int .i64 a]), (true, .box [.int .i64 b])] Q =
    (ifB (w == (0 : Int)) (Q (SV.bool (isIn f lo hi)) [(true, Blk.box [SV.int IntKind.i64 a]), (true, Blk.box [SV.int IntKind.i64 b])]) (ifB (decide (w < (0 : Int))) (w ≠ (0 : Int) ∧ w ≠ (0 : Int) ∧ Q (SV.bool (decide ((if down (IntKind.wrap IntKind.i64 (IntKind.wrap IntKind.i64 (hi - f) * (256 : Int))) w > a then down (IntKind.wrap IntKind.i64 (IntKind.wrap IntKind.i64 (hi - f) * (256 : Int))) w else a) ≤ if IntKind.wrap IntKind.i64 ((0 : Int) - down (IntKind.wrap IntKind.i64 (IntKind.wrap IntKind.i64 ((0 : Int) - IntKind.wrap IntKind.i64 (lo - f)) * (256 : Int))) w) < b then IntKind.wrap IntKind.i64 ((0 : Int) - down (IntKind.wrap IntKind.i64 (IntKind.wrap IntKind.i64 ((0 : Int) - IntKind.wrap IntKind.i64 (lo - f)) * (256 : Int))) w) else b))) [(true, Blk.box [SV.int IntKind.i64 (if down (IntKind.wrap IntKind.i64 (IntKind.wrap IntKind.i64 (hi - f) * (256 : Int))) w > a then down (IntKind.wrap IntKind.i64 (IntKind.wrap IntKind.i64 (hi - f) * (256 : Int))) w else a)]), (true, Blk.box [SV.int IntKind.i64 (if IntKind.wrap IntKind.i64 ((0 : Int) - down (IntKind.wrap IntKind.i64 (IntKind.wrap IntKind.i64 ((0 : Int) - IntKind.wrap IntKind.i64 (lo - f)) * (256 : Int))) w) < b then IntKind.wrap IntKind.i64 ((0 : Int) - down (IntKind.wrap IntKind.i64 (IntKind.wrap IntKind.i64 ((0 : Int) - IntKind.wrap IntKind.i64 (lo - f)) * (256 : Int))) w) else b)])]) (w ≠ (0 : Int) ∧ w ≠ (0 : Int) ∧ Q (SV.bool (decide ((if down (IntKind.wrap IntKind.i64 (IntKind.wrap IntKind.i64 (lo - f) * (256 : Int))) w > a then down (IntKind.wrap IntKind.i64 (IntKind.wrap IntKind.i64 (lo - f) * (256 : Int))) w else a) ≤ if IntKind.wrap IntKind.i64 ((0 : Int) - down (IntKind.wrap IntKind.i64 (IntKind.wrap IntKind.i64 ((0 : Int) - IntKind.wrap IntKind.i64 (hi - f)) * (256 : Int))) w) < b then IntKind.wrap IntKind.i64 ((0 : Int) - down (IntKind.wrap IntKind.i64 (IntKind.wrap IntKind.i64 ((0 : Int) - IntKind.wrap IntKind.i64 (hi - f)) * (256 : Int))) w) else b))) [(true, Blk.box [SV.int IntKind.i64 (if down (IntKind.wrap IntKind.i64 (IntKind.wrap IntKind.i64 (lo - f) * (256 : Int))) w > a then down (IntKind.wrap IntKind.i64 (IntKind.wrap IntKind.i64 (lo - f) * (256 : Int))) w else a)]), (true, Blk.box [SV.int IntKind.i64 (if IntKind.wrap IntKind.i64 ((0 : Int) - down (IntKind.wrap IntKind.i64 (IntKind.wrap IntKind.i64 ((0 : Int) - IntKind.wrap IntKind.i64 (hi - f)) * (256 : Int))) w) < b then IntKind.wrap IntKind.i64 ((0 : Int) - down (IntKind.wrap IntKind.i64 (IntKind.wrap IntKind.i64 ((0 : Int) - IntKind.wrap IntKind.i64 (hi - f)) * (256 : Int))) w) else b)])]))) := by kernel_rfl

theorem ok_implSide : FsOk Try.prog 158 fs_implSide := fsOk_of tt_ok (tabFs_cons ok_in_ (tabFs_cons ok_implDown tabFs_nil)) mixed Try.func158 (by kernel_rfl) (by kernel_rfl) (by
    intro args LL p r HH h hp
    unfold fs_implSide at h
    dsimp only at h
    split at h
    case h_2 => cases h
    rename_i f w lo hi a b
    simp only [Option.some.injEq, Prod.mk.injEq] at h
    obtain ⟨rfl, rfl, rfl⟩ := h
    refine ⟨by simp [Form, stays], L0, ?_⟩
    rw [vc_implSide]
    try dsimp only
    refine ifB_of (fun h => ?_) (fun h => ?_)
    · have h : w = 0 := by simpa using h
      subst h
      exact ⟨rfl, rfl⟩
    have hw : w ≠ 0 := by simpa using h
    refine ifB_of (fun h2 => ?_) (fun h2 => ?_)
    · have h2 : w < 0 := of_decide_eq_true h2
      refine ⟨hw, hw, ?_⟩
      simp only [slab, hw, h2, if_true, if_false, max_b, min_b, W_neg', and_self] <;> first | exact ⟨rfl, rfl⟩ | exact ⟨rfl, trivial⟩ | exact ⟨trivial, rfl⟩
    · have h2 : ¬ w < 0 := of_decide_eq_false h2
      refine ⟨hw, hw, ?_⟩
      simp only [slab, hw, h2, if_false, max_b, min_b, W_neg', and_self] <;> first | exact ⟨rfl, rfl⟩ | exact ⟨rfl, trivial⟩ | exact ⟨trivial, rfl⟩)


def fs_l5RayBox : Fs := ⟨[], fun args H => match args, H with
  | [.agg [.int .i64 rFX, .int .i64 rFY, .int .i64 rWX, .int .i64 rWY], .agg [.int .i64 bLX, .int .i64 bLY, .int .i64 bHX, .int .i64 bHY]], [] => some (none, .tup [.int .i64 ((rayBox (Ray.mk (Vec.mk rFX rFY) (Vec.mk rWX rWY)) (Box.mk (Vec.mk bLX bLY) (Vec.mk bHX bHY))).1), .bool ((rayBox (Ray.mk (Vec.mk rFX rFY) (Vec.mk rWX rWY)) (Box.mk (Vec.mk bLX bLY) (Vec.mk bHX bHY))).2)], [])
  | _, _ => none⟩

theorem vc_l5RayBox (rFX : Int) (rFY : Int) (rWX : Int) (rWY : Int) (bLX : Int) (bLY : Int) (bHX : Int) (bHY : Int) (Q : SV → List Ent → Prop) :
    fnVC tt (look [(154, fs_l5Slab)]) L0 Try.f116 [.agg [.int .i64 rFX, .int .i64 rFY, .int .i64 rWX, .int .i64 rWY], .agg [.int .i64 bLX, .int .i64 bLY, .int .i64 bHX, .int .i64 bHY]] [] Q =
    (ifB (!Prod.snd (Prod.snd (slab rFX rWX bLX bHX (0 : Int) (256 : Int)))) (Q (SV.tup [SV.int IntKind.i64 (0 : Int), SV.bool false]) []) (ifB (!Prod.snd (Prod.snd (slab rFY rWY bLY bHY (Prod.fst (slab rFX rWX bLX bHX (0 : Int) (256 : Int))) (Prod.fst (Prod.snd (slab rFX rWX bLX bHX (0 : Int) (256 : Int))))))) (Q (SV.tup [SV.int IntKind.i64 (0 : Int), SV.bool false]) []) (Q (SV.tup [SV.int IntKind.i64 (Prod.fst (slab rFY rWY bLY bHY (Prod.fst (slab rFX rWX bLX bHX (0 : Int) (256 : Int))) (Prod.fst (Prod.snd (slab rFX rWX bLX bHX (0 : Int) (256 : Int)))))), SV.bool true]) []))) := by kernel_rfl

theorem ok_l5RayBox : FsOk Try.prog 116 fs_l5RayBox := fsOk_of tt_ok (tabFs_cons ok_l5Slab tabFs_nil) mixed Try.func116 (by kernel_rfl) (by kernel_rfl) (by
    intro args LL p r HH h hp
    unfold fs_l5RayBox at h
    dsimp only at h
    split at h
    case h_2 => cases h
    rename_i rFX rFY rWX rWY bLX bLY bHX bHY
    simp only [Option.some.injEq, Prod.mk.injEq] at h
    obtain ⟨rfl, rfl, rfl⟩ := h
    refine ⟨by simp [Form, stays], L0, ?_⟩
    rw [vc_l5RayBox]
    try dsimp only

    repeat' (first | refine ifB_of (fun _ => ?_) (fun _ => ?_) | refine pre_of ?_ (fun _ => ?_))
    all_goals first
      | rfl
      | (simp only [W, rayBox, *, cond_true, cond_false, Bool.true_and, Bool.false_and, Bool.and_true, Bool.and_false, Bool.not_true, Bool.not_false, and_self, true_and]; done)
      | (simp_all [W, rayBox]; done)
      | (simp_all [W, rayBox] <;> omega))

def fs_implRayBoxIn : Fs := ⟨[], fun args H => match args, H with
  | [.agg [.int .i64 rFX, .int .i64 rFY, .int .i64 rWX, .int .i64 rWY], .agg [.int .i64 bLX, .int .i64 bLY, .int .i64 bHX, .int .i64 bHY]], [] => some (none, .tup [.int .i64 ((rayBox (Ray.mk (Vec.mk rFX rFY) (Vec.mk rWX rWY)) (Box.mk (Vec.mk bLX bLY) (Vec.mk bHX bHY))).1), .bool ((rayBox (Ray.mk (Vec.mk rFX rFY) (Vec.mk rWX rWY)) (Box.mk (Vec.mk bLX bLY) (Vec.mk bHX bHY))).2)], [])
  | _, _ => none⟩

theorem vc_implRayBoxIn (rFX : Int) (rFY : Int) (rWX : Int) (rWY : Int) (bLX : Int) (bLY : Int) (bHX : Int) (bHY : Int) (Q : SV → List Ent → Prop) :
    fnVC tt (look [(158, fs_implSide)]) L0 Try.f123 [.agg [.int .i64 rFX, .int .i64 rFY, .int .i64 rWX, .int .i64 rWY], .agg [.int .i64 bLX, .int .i64 bLY, .int .i64 bHX, .int .i64 bHY]] [] Q =
    (ifB (!Prod.snd (Prod.snd (slab rFX rWX bLX bHX (0 : Int) (256 : Int)))) (Q (SV.tup [SV.int IntKind.i64 (0 : Int), SV.bool false]) []) (ifB (!Prod.snd (Prod.snd (slab rFY rWY bLY bHY (Prod.fst (slab rFX rWX bLX bHX (0 : Int) (256 : Int))) (Prod.fst (Prod.snd (slab rFX rWX bLX bHX (0 : Int) (256 : Int))))))) (Q (SV.tup [SV.int IntKind.i64 (0 : Int), SV.bool false]) []) (Q (SV.tup [SV.int IntKind.i64 (Prod.fst (slab rFY rWY bLY bHY (Prod.fst (slab rFX rWX bLX bHX (0 : Int) (256 : Int))) (Prod.fst (Prod.snd (slab rFX rWX bLX bHX (0 : Int) (256 : Int)))))), SV.bool true]) []))) := by kernel_rfl

theorem ok_implRayBoxIn : FsOk Try.prog 123 fs_implRayBoxIn := fsOk_of tt_ok (tabFs_cons ok_implSide tabFs_nil) mixed Try.func123 (by kernel_rfl) (by kernel_rfl) (by
    intro args LL p r HH h hp
    unfold fs_implRayBoxIn at h
    dsimp only at h
    split at h
    case h_2 => cases h
    rename_i rFX rFY rWX rWY bLX bLY bHX bHY
    simp only [Option.some.injEq, Prod.mk.injEq] at h
    obtain ⟨rfl, rfl, rfl⟩ := h
    refine ⟨by simp [Form, stays], L0, ?_⟩
    rw [vc_implRayBoxIn]
    try dsimp only

    repeat' (first | refine ifB_of (fun _ => ?_) (fun _ => ?_) | refine pre_of ?_ (fun _ => ?_))
    all_goals first
      | rfl
      | (simp only [W, rayBox, *, cond_true, cond_false, Bool.true_and, Bool.false_and, Bool.and_true, Bool.and_false, Bool.not_true, Bool.not_false, and_self, true_and]; done)
      | (simp_all [W, rayBox]; done)
      | (simp_all [W, rayBox] <;> omega))

def fs_specShapeOk : Fs := ⟨[], fun args H => match args, H with
  | [.agg [.int .i64 sK, .int .i64 sW, .int .i64 sH]], [] => some (none, .bool (shapeOk (Shape.mk sK sW sH)), [])
  | _, _ => none⟩

theorem vc_specShapeOk (sK : Int) (sW : Int) (sH : Int) (Q : SV → List Ent → Prop) :
    fnVC tt (look [(96, fs_l1In)]) L0 Try.f114 [.agg [.int .i64 sK, .int .i64 sW, .int .i64 sH]] [] Q =
    (ifB (sK == (1 : Int)) (ifB (isIn sW (1 : Int) (25600 : Int)) (Q (SV.bool (sH == (0 : Int))) []) (Q (SV.bool false) [])) (ifB (sK == (2 : Int)) (ifB (isIn sW (1 : Int) (25600 : Int)) (Q (SV.bool (isIn sH (1 : Int) (25600 : Int))) []) (Q (SV.bool false) [])) (Q (SV.bool false) []))) := by kernel_rfl

theorem ok_specShapeOk : FsOk Try.prog 114 fs_specShapeOk := fsOk_of tt_ok (tabFs_cons ok_l1In tabFs_nil) mixed Try.func114 (by kernel_rfl) (by kernel_rfl) (by
    intro args LL p r HH h hp
    unfold fs_specShapeOk at h
    dsimp only at h
    split at h
    case h_2 => cases h
    rename_i sK sW sH
    simp only [Option.some.injEq, Prod.mk.injEq] at h
    obtain ⟨rfl, rfl, rfl⟩ := h
    refine ⟨by simp [Form, stays], L0, ?_⟩
    rw [vc_specShapeOk]
    try dsimp only

    repeat' (first | refine ifB_of (fun _ => ?_) (fun _ => ?_) | refine pre_of ?_ (fun _ => ?_))
    all_goals first
      | rfl
      | (simp only [W, shapeOk, *, cond_true, cond_false, Bool.true_and, Bool.false_and, Bool.and_true, Bool.and_false, Bool.not_true, Bool.not_false, and_self, true_and]; done)
      | (simp_all [W, shapeOk]; done)
      | (simp_all [W, shapeOk] <;> omega))

def fs_implShapeOk : Fs := ⟨[], fun args H => match args, H with
  | [.agg [.int .i64 sK, .int .i64 sW, .int .i64 sH]], [] => some (none, .bool (shapeOk (Shape.mk sK sW sH)), [])
  | _, _ => none⟩

theorem vc_implShapeOk (sK : Int) (sW : Int) (sH : Int) (Q : SV → List Ent → Prop) :
    fnVC tt (look [(91, fs_in_)]) L0 Try.f120 [.agg [.int .i64 sK, .int .i64 sW, .int .i64 sH]] [] Q =
    (ifB (sK == (1 : Int)) (ifB (isIn sW (1 : Int) (25600 : Int)) (Q (SV.bool (sH == (0 : Int))) []) (Q (SV.bool false) [])) (ifB (sK == (2 : Int)) (ifB (isIn sW (1 : Int) (25600 : Int)) (Q (SV.bool (isIn sH (1 : Int) (25600 : Int))) []) (Q (SV.bool false) [])) (Q (SV.bool false) []))) := by kernel_rfl

theorem ok_implShapeOk : FsOk Try.prog 120 fs_implShapeOk := fsOk_of tt_ok (tabFs_cons ok_in_ tabFs_nil) mixed Try.func120 (by kernel_rfl) (by kernel_rfl) (by
    intro args LL p r HH h hp
    unfold fs_implShapeOk at h
    dsimp only at h
    split at h
    case h_2 => cases h
    rename_i sK sW sH
    simp only [Option.some.injEq, Prod.mk.injEq] at h
    obtain ⟨rfl, rfl, rfl⟩ := h
    refine ⟨by simp [Form, stays], L0, ?_⟩
    rw [vc_implShapeOk]
    try dsimp only

    repeat' (first | refine ifB_of (fun _ => ?_) (fun _ => ?_) | refine pre_of ?_ (fun _ => ?_))
    all_goals first
      | rfl
      | (simp only [W, shapeOk, *, cond_true, cond_false, Bool.true_and, Bool.false_and, Bool.and_true, Bool.and_false, Bool.not_true, Bool.not_false, and_self, true_and]; done)
      | (simp_all [W, shapeOk]; done)
      | (simp_all [W, shapeOk] <;> omega))

def fs_implBounds : Fs := ⟨[], fun args H => match args, H with
  | [.agg [.int .i64 sK, .int .i64 sW, .int .i64 sH], .agg [.int .i64 pX, .int .i64 pY]], [] => some (none, .agg [.int .i64 (bounds (Shape.mk sK sW sH) (Vec.mk pX pY)).Low.X, .int .i64 (bounds (Shape.mk sK sW sH) (Vec.mk pX pY)).Low.Y, .int .i64 (bounds (Shape.mk sK sW sH) (Vec.mk pX pY)).High.X, .int .i64 (bounds (Shape.mk sK sW sH) (Vec.mk pX pY)).High.Y], [])
  | _, _ => none⟩

theorem vc_implBounds (sK : Int) (sW : Int) (sH : Int) (pX : Int) (pY : Int) (Q : SV → List Ent → Prop) :
    fnVC tt (look [(130, fs_vecPlus), (156, fs_vecMinus)]) L0 Try.f124 [.agg [.int .i64 sK, .int .i64 sW, .int .i64 sH], .agg [.int .i64 pX, .int .i64 pY]] [] Q =
    (ifB (sK == (1 : Int)) (Q (SV.agg [SV.int IntKind.i64 (Vec.X (minus (Vec.mk pX pY) (Vec.mk sW sW))), SV.int IntKind.i64 (Vec.Y (minus (Vec.mk pX pY) (Vec.mk sW sW))), SV.int IntKind.i64 (Vec.X (plus (Vec.mk pX pY) (Vec.mk sW sW))), SV.int IntKind.i64 (Vec.Y (plus (Vec.mk pX pY) (Vec.mk sW sW)))]) []) (Q (SV.agg [SV.int IntKind.i64 (Vec.X (minus (Vec.mk pX pY) (Vec.mk sW sH))), SV.int IntKind.i64 (Vec.Y (minus (Vec.mk pX pY) (Vec.mk sW sH))), SV.int IntKind.i64 (Vec.X (plus (Vec.mk pX pY) (Vec.mk sW sH))), SV.int IntKind.i64 (Vec.Y (plus (Vec.mk pX pY) (Vec.mk sW sH)))]) [])) := by kernel_rfl

theorem ok_implBounds : FsOk Try.prog 124 fs_implBounds := fsOk_of tt_ok (tabFs_cons ok_vecPlus (tabFs_cons ok_vecMinus tabFs_nil)) mixed Try.func124 (by kernel_rfl) (by kernel_rfl) (by
    intro args LL p r HH h hp
    unfold fs_implBounds at h
    dsimp only at h
    split at h
    case h_2 => cases h
    rename_i sK sW sH pX pY
    simp only [Option.some.injEq, Prod.mk.injEq] at h
    obtain ⟨rfl, rfl, rfl⟩ := h
    refine ⟨by simp [Form, stays], L0, ?_⟩
    rw [vc_implBounds]
    try dsimp only

    repeat' (first | refine ifB_of (fun _ => ?_) (fun _ => ?_) | refine pre_of ?_ (fun _ => ?_))
    all_goals first
      | rfl
      | (simp only [W, bounds, plus, minus, *, cond_true, cond_false, Bool.true_and, Bool.false_and, Bool.and_true, Bool.and_false, Bool.not_true, Bool.not_false, and_self, true_and]; done)
      | (simp_all [W, bounds, plus, minus]; done)
      | (simp_all [W, bounds, plus, minus] <;> omega))

def fs_specRayShape : Fs := ⟨[], fun args H => match args, H with
  | [.agg [.int .i64 rFX, .int .i64 rFY, .int .i64 rWX, .int .i64 rWY], .agg [.int .i64 sK, .int .i64 sW, .int .i64 sH], .agg [.int .i64 pX, .int .i64 pY]], [] => some (none, .tup [.int .i64 ((rayShape (Ray.mk (Vec.mk rFX rFY) (Vec.mk rWX rWY)) (Shape.mk sK sW sH) (Vec.mk pX pY)).1), .bool ((rayShape (Ray.mk (Vec.mk rFX rFY) (Vec.mk rWX rWY)) (Shape.mk sK sW sH) (Vec.mk pX pY)).2)], [])
  | _, _ => none⟩

theorem vc_specRayShape (rFX : Int) (rFY : Int) (rWX : Int) (rWY : Int) (sK : Int) (sW : Int) (sH : Int) (pX : Int) (pY : Int) (Q : SV → List Ent → Prop) :
    fnVC tt (look [(114, fs_specShapeOk), (113, fs_l3Place), (62, fs_specRayOk), (115, fs_l5RayRound), (116, fs_l5RayBox), (117, fs_l3Bounds)]) L0 Try.f63 [.agg [.int .i64 rFX, .int .i64 rFY, .int .i64 rWX, .int .i64 rWY], .agg [.int .i64 sK, .int .i64 sW, .int .i64 sH], .agg [.int .i64 pX, .int .i64 pY]] [] Q =
    (ifB (!shapeOk (Shape.mk sK sW sH)) (Q (SV.tup [SV.int IntKind.i64 (0 : Int), SV.bool false]) []) (ifB (!placeOk (Vec.mk pX pY)) (Q (SV.tup [SV.int IntKind.i64 (0 : Int), SV.bool false]) []) (ifB (!rayOk (Ray.mk (Vec.mk rFX rFY) (Vec.mk rWX rWY))) (Q (SV.tup [SV.int IntKind.i64 (0 : Int), SV.bool false]) []) (ifB (sK == (1 : Int)) (Q (SV.tup [SV.int IntKind.i64 (Prod.fst (roundFrom (Ray.mk (Vec.mk rFX rFY) (Vec.mk rWX rWY)) (Vec.mk pX pY) sW (257 : Nat))), SV.bool (Prod.snd (roundFrom (Ray.mk (Vec.mk rFX rFY) (Vec.mk rWX rWY)) (Vec.mk pX pY) sW (257 : Nat)))]) []) (Q (SV.tup [SV.int IntKind.i64 (Prod.fst (rayBox (Ray.mk (Vec.mk rFX rFY) (Vec.mk rWX rWY)) (bounds (Shape.mk sK sW sH) (Vec.mk pX pY)))), SV.bool (Prod.snd (rayBox (Ray.mk (Vec.mk rFX rFY) (Vec.mk rWX rWY)) (bounds (Shape.mk sK sW sH) (Vec.mk pX pY))))]) []))))) := by kernel_rfl

theorem ok_specRayShape : FsOk Try.prog 63 fs_specRayShape := fsOk_of tt_ok (tabFs_cons ok_specShapeOk (tabFs_cons ok_l3Place (tabFs_cons ok_specRayOk (tabFs_cons ok_l5RayRound (tabFs_cons ok_l5RayBox (tabFs_cons ok_l3Bounds tabFs_nil)))))) mixed Try.func63 (by kernel_rfl) (by kernel_rfl) (by
    intro args LL p r HH h hp
    unfold fs_specRayShape at h
    dsimp only at h
    split at h
    case h_2 => cases h
    rename_i rFX rFY rWX rWY sK sW sH pX pY
    simp only [Option.some.injEq, Prod.mk.injEq] at h
    obtain ⟨rfl, rfl, rfl⟩ := h
    refine ⟨by simp [Form, stays], L0, ?_⟩
    rw [vc_specRayShape]
    try dsimp only
    refine ifB_of (fun h1 => ?_) (fun h1 => ?_)
    · simp_all [rayShape]
    refine ifB_of (fun h2 => ?_) (fun h2 => ?_)
    · simp_all [rayShape]
    refine ifB_of (fun h3 => ?_) (fun h3 => ?_)
    · simp_all [rayShape]
    refine ifB_of (fun h4 => ?_) (fun h4 => ?_)
    · have h4 : sK = 1 := by simpa using h4
      subst h4
      have hw : isIn sW 1 25600 = true := by simp [shapeOk] at h1; exact h1.1
      simp_all [rayShape, rayRound]
    · simp_all [rayShape])

def fs_implRayShape : Fs := ⟨[], fun args H => match args, H with
  | [.agg [.int .i64 rFX, .int .i64 rFY, .int .i64 rWX, .int .i64 rWY], .agg [.int .i64 sK, .int .i64 sW, .int .i64 sH], .agg [.int .i64 pX, .int .i64 pY]], [] => some (none, .tup [.int .i64 ((rayShape (Ray.mk (Vec.mk rFX rFY) (Vec.mk rWX rWY)) (Shape.mk sK sW sH) (Vec.mk pX pY)).1), .bool ((rayShape (Ray.mk (Vec.mk rFX rFY) (Vec.mk rWX rWY)) (Shape.mk sK sW sH) (Vec.mk pX pY)).2)], [])
  | _, _ => none⟩

theorem vc_implRayShape (rFX : Int) (rFY : Int) (rWX : Int) (rWY : Int) (sK : Int) (sW : Int) (sH : Int) (pX : Int) (pY : Int) (Q : SV → List Ent → Prop) :
    fnVC tt (look [(119, fs_implRayOk), (120, fs_implShapeOk), (121, fs_isPlace), (122, fs_implRayRound), (123, fs_implRayBoxIn), (124, fs_implBounds)]) L0 Try.f65 [.agg [.int .i64 rFX, .int .i64 rFY, .int .i64 rWX, .int .i64 rWY], .agg [.int .i64 sK, .int .i64 sW, .int .i64 sH], .agg [.int .i64 pX, .int .i64 pY]] [] Q =
    (ifB (!rayOk (Ray.mk (Vec.mk rFX rFY) (Vec.mk rWX rWY))) (Q (SV.tup [SV.int IntKind.i64 (0 : Int), SV.bool false]) []) (ifB (!shapeOk (Shape.mk sK sW sH)) (Q (SV.tup [SV.int IntKind.i64 (0 : Int), SV.bool false]) []) (ifB (!placeOk (Vec.mk pX pY)) (Q (SV.tup [SV.int IntKind.i64 (0 : Int), SV.bool false]) []) (ifB (sK == (1 : Int)) (Q (SV.tup [SV.int IntKind.i64 (Prod.fst (rayRound (Ray.mk (Vec.mk rFX rFY) (Vec.mk rWX rWY)) (Vec.mk pX pY) sW)), SV.bool (Prod.snd (rayRound (Ray.mk (Vec.mk rFX rFY) (Vec.mk rWX rWY)) (Vec.mk pX pY) sW))]) []) (Q (SV.tup [SV.int IntKind.i64 (Prod.fst (rayBox (Ray.mk (Vec.mk rFX rFY) (Vec.mk rWX rWY)) (bounds (Shape.mk sK sW sH) (Vec.mk pX pY)))), SV.bool (Prod.snd (rayBox (Ray.mk (Vec.mk rFX rFY) (Vec.mk rWX rWY)) (bounds (Shape.mk sK sW sH) (Vec.mk pX pY))))]) []))))) := by kernel_rfl

theorem ok_implRayShape : FsOk Try.prog 65 fs_implRayShape := fsOk_of tt_ok (tabFs_cons ok_implRayOk (tabFs_cons ok_implShapeOk (tabFs_cons ok_isPlace (tabFs_cons ok_implRayRound (tabFs_cons ok_implRayBoxIn (tabFs_cons ok_implBounds tabFs_nil)))))) mixed Try.func65 (by kernel_rfl) (by kernel_rfl) (by
    intro args LL p r HH h hp
    unfold fs_implRayShape at h
    dsimp only at h
    split at h
    case h_2 => cases h
    rename_i rFX rFY rWX rWY sK sW sH pX pY
    simp only [Option.some.injEq, Prod.mk.injEq] at h
    obtain ⟨rfl, rfl, rfl⟩ := h
    refine ⟨by simp [Form, stays], L0, ?_⟩
    rw [vc_implRayShape]
    try dsimp only

    repeat' (first | refine ifB_of (fun _ => ?_) (fun _ => ?_) | refine pre_of ?_ (fun _ => ?_))
    all_goals first
      | rfl
      | (simp only [W, rayShape, *, cond_true, cond_false, Bool.true_and, Bool.false_and, Bool.and_true, Bool.and_false, Bool.not_true, Bool.not_false, and_self, true_and]; done)
      | (simp_all [W, rayShape]; done)
      | (simp_all [W, rayShape] <;> omega))


def fs_implHasPoint : Fs := ⟨[], fun args H => match args, H with
  | [.agg [.int .i64 bLX, .int .i64 bLY, .int .i64 bHX, .int .i64 bHY], .agg [.int .i64 pX, .int .i64 pY]], [] => some (none, .bool (hasPoint (Box.mk (Vec.mk bLX bLY) (Vec.mk bHX bHY)) (Vec.mk pX pY)), [])
  | _, _ => none⟩

theorem vc_implHasPoint (bLX : Int) (bLY : Int) (bHX : Int) (bHY : Int) (pX : Int) (pY : Int) (Q : SV → List Ent → Prop) :
    fnVC tt (look [(91, fs_in_)]) L0 Try.f194 [.agg [.int .i64 bLX, .int .i64 bLY, .int .i64 bHX, .int .i64 bHY], .agg [.int .i64 pX, .int .i64 pY]] [] Q =
    (ifB (isIn pX bLX bHX) (Q (SV.bool (isIn pY bLY bHY)) []) (Q (SV.bool false) [])) := by kernel_rfl

theorem ok_implHasPoint : FsOk Try.prog 194 fs_implHasPoint := fsOk_of tt_ok (tabFs_cons ok_in_ tabFs_nil) mixed Try.func194 (by kernel_rfl) (by kernel_rfl) (by
    intro args LL p r HH h hp
    unfold fs_implHasPoint at h
    dsimp only at h
    split at h
    case h_2 => cases h
    rename_i bLX bLY bHX bHY pX pY
    simp only [Option.some.injEq, Prod.mk.injEq] at h
    obtain ⟨rfl, rfl, rfl⟩ := h
    refine ⟨by simp [Form, stays], L0, ?_⟩
    rw [vc_implHasPoint]
    try dsimp only

    repeat' (first | refine ifB_of (fun _ => ?_) (fun _ => ?_) | refine pre_of ?_ (fun _ => ?_))
    all_goals first
      | rfl
      | (simp only [W, hasPoint, *, cond_true, cond_false, Bool.true_and, Bool.false_and, Bool.and_true, Bool.and_false, Bool.not_true, Bool.not_false, and_self, true_and]; done)
      | (simp_all [W, hasPoint]; done)
      | (simp_all [W, hasPoint] <;> omega))

end Go.Proofs.Ythkdelepjndacaa.Sym
