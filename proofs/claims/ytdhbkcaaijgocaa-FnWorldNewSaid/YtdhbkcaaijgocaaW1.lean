/-
  Worlds: what a ray meets, a body pushed.
  No condition.
-/
import Derived.Test.YtdhbkcaaijgocaaP2
import Derived.Test.YtdhbkcaaijgocaaG7
namespace Go.Proofs.Ytdhbkcaaijgocaa.Sym
open Go
set_option linter.unusedVariables false
set_option linter.unusedSimpArgs false
set_option maxRecDepth 100000

def rayStep (r : Ray) (a : Int × Int) (b : Body) : Int × Int := bif (rayShape r b.Shape b.At).2 && (decide (a.1 < 0) || decide ((rayShape r b.Shape b.At).1 < a.2)) then (b.Id, (rayShape r b.Shape b.At).1) else a
def worldRay (t p : Int) (xs : List Body) (ps : List Pair) (r : Ray) : Int × Int := bif worldOk t p xs ps && rayOk r then xs.foldl (rayStep r) (-1, 0) else (-1, 0)
theorem rayStep_bad {r : Ray} (h : rayOk r = false) : ∀ (xs : List Body) (a : Int × Int), xs.foldl (rayStep r) a = a
  | [], a => rfl
  | b :: xs, a => by
    have e : rayStep r a b = a := by
      have : rayShape r b.Shape b.At = (0, false) := by simp [rayShape, h]
      unfold rayStep
      rw [this]
      rfl
    rw [List.foldl_cons, e]
    exact rayStep_bad h xs a
theorem foldl_drop {xs : List Body} {i : Nat} (h : i < xs.length) (r : Ray) (a : Int × Int) : (xs.drop i).foldl (rayStep r) a = (xs.drop (i + 1)).foldl (rayStep r) (rayStep r a (Ty.ix .body xs i)) := by
  rw [drop_ix (T := .body) h]
  rfl
def LSsray  : LS where
  S := List Body × List Pair × (Int × Int) × Ray × Int × Int × Int
  live := [(2, [none]), (3, [none]), (6, [none]), (7, [none]), (8, [none])]
  shape := fun s => ([.ptr 2 0 0, .ptr 3 0 0, .int .i64 s.2.2.2.2.1, .int .i64 s.2.2.2.2.2.1, .int .i64 s.2.2.2.2.2.2], [(false, .vec .body s.1), (false, .vec .pair s.2.1), (true, .box [.int .i64 s.2.2.1.1, .int .i64 s.2.2.1.2, .vec 0, .vec 1]), (true, .box [.int .i64 s.2.2.2.1.From.X, .int .i64 s.2.2.2.1.From.Y, .int .i64 s.2.2.2.1.Way.X, .int .i64 s.2.2.2.1.Way.Y])])
  get := fun v h => match v, h with
    | [.ptr 2 0 0, .ptr 3 0 0, .int .i64 id, .int .i64 far, .int .i64 i], [(false, .vec .body xs), (false, .vec .pair ps), (true, .box [.int .i64 w_0, .int .i64 w_1, .vec 0, .vec 1]), (true, .box [.int .i64 rFX, .int .i64 rFY, .int .i64 rWX, .int .i64 rWY])] => some (xs, ps, (w_0, w_1), (Ray.mk (Vec.mk rFX rFY) (Vec.mk rWX rWY)), id, far, i)
    | _, _ => none
  inv := fun s0 s => Holds (s.1 = s0.1 ∧ s.2.1 = s0.2.1 ∧ s.2.2.1 = s0.2.2.1 ∧ s.2.2.2.1 = s0.2.2.2.1 ∧ 0 ≤ s.2.2.2.2.2.2 ∧ s.2.2.2.2.2.2 ≤ s0.1.length ∧ (s0.1.drop s.2.2.2.2.2.2.toNat).foldl (rayStep s0.2.2.2.1) (s.2.2.2.2.1, s.2.2.2.2.2.1) = s0.1.foldl (rayStep s0.2.2.2.1) (-1, 0))
  mu := fun s => ((s.1.length : Int) - s.2.2.2.2.2.2).toNat
  ok := by
    intro v h s hg
    try dsimp only at hg
    split at hg <;> cases hg
    rfl

def L_sray : Loops := fun n => match n with
  | 6 => some LSsray
  | _ => none
def LSiray  : LS where
  S := List Body × List Pair × Ray × Int × Int × Unit × Int × Int
  live := [(3, [none]), (6, [none]), (7, [none]), (16, [none]), (17, [none]), (18, [none])]
  shape := fun s => ([.ptr 2 0 0, .int .i64 s.2.2.2.1, .int .i64 s.2.2.2.2.1, .vec 0, .int .i64 s.2.2.2.2.2.2.1, .int .i64 s.2.2.2.2.2.2.2], [(false, .vec .body s.1), (false, .vec .pair s.2.1), (true, .box [.int .i64 s.2.2.1.From.X, .int .i64 s.2.2.1.From.Y, .int .i64 s.2.2.1.Way.X, .int .i64 s.2.2.1.Way.Y])])
  get := fun v h => match v, h with
    | [.ptr 2 0 0, .int .i64 id, .int .i64 far, .vec 0, .int .i64 n, .int .i64 i], [(false, .vec .body xs), (false, .vec .pair ps), (true, .box [.int .i64 rFX, .int .i64 rFY, .int .i64 rWX, .int .i64 rWY])] => some (xs, ps, (Ray.mk (Vec.mk rFX rFY) (Vec.mk rWX rWY)), id, far, (), n, i)
    | _, _ => none
  inv := fun s0 s => Holds (s.1 = s0.1 ∧ s.2.1 = s0.2.1 ∧ s.2.2.1 = s0.2.2.1 ∧ s.2.2.2.2.2.2.1 = s0.1.length ∧ 0 ≤ s.2.2.2.2.2.2.2 ∧ s.2.2.2.2.2.2.2 ≤ s0.1.length ∧ (s0.1.drop s.2.2.2.2.2.2.2.toNat).foldl (rayStep s0.2.2.1) (s.2.2.2.1, s.2.2.2.2.1) = s0.1.foldl (rayStep s0.2.2.1) (-1, 0))
  mu := fun s => ((s.1.length : Int) - s.2.2.2.2.2.2.2).toNat
  ok := by
    intro v h s hg
    try dsimp only at hg
    split at hg <;> cases hg
    rfl

def L_iray : Loops := fun n => match n with
  | 5 => some LSiray
  | _ => none
noncomputable def fs_clonePairs : Fs := ⟨[], fun args H => match args, H with
  | [.vec 0], [(false, .vec .pair xs)] => some ((some (xs.length ≤ 1048576)), .vec 1, [(false, .vec .pair xs), (true, .vec .pair xs)])
  | _, _ => none⟩

theorem vc_clonePairs (xs : List Pair) (Q : SV → List Ent → Prop) :
    fnVC tt (look []) L0 Try.f24 [.vec 0] [(false, .vec .pair xs)] Q =
    (∀ (b : Bool), (b = true → List.length xs = (0 : Nat)) → ifB b (Q (SV.vec (1 : Nat)) [(false, Blk.vec Ty.pair xs), (true, Blk.vec Ty.pair [])]) (((0 : Nat) + List.length xs) * (16 : Nat) ≤ room ∧ Q (SV.vec (1 : Nat)) [(false, Blk.vec Ty.pair xs), (true, Blk.vec Ty.pair ([] ++ xs))])) := by kernel_rfl

theorem ok_clonePairs : FsOk Try.prog 24 fs_clonePairs := fsOk_of tt_ok tabFs_nil mixed Try.func24 (by kernel_rfl) (by kernel_rfl) (by
    intro args LL p r HH h hp
    unfold fs_clonePairs at h
    dsimp only at h
    split at h
    case h_2 => cases h
    rename_i xs
    simp only [Option.some.injEq, Prod.mk.injEq] at h
    obtain ⟨rfl, rfl, rfl⟩ := h
    refine ⟨by simp [Form, stays], L0, ?_⟩
    rw [vc_clonePairs]
    try dsimp only
    have hb := hp _ rfl
    intro z hz
    refine ifB_of (fun c => ?_) (fun c => ⟨by simp only [room]; omega, ?_⟩)
    · have := List.length_eq_zero_iff.1 (hz c)
      subst this
      exact ⟨rfl, rfl⟩
    · simp)

noncomputable def fs_implCopyW : Fs := ⟨[], fun args H => match args, H with
  | [.agg [.int .i64 t, .int .i64 p, .vec 0, .vec 1]], [(false, .vec .body xs), (false, .vec .pair ps)] => some ((some (xs.length ≤ 1048576 ∧ ps.length ≤ 1048576)), .agg [.int .i64 t, .int .i64 p, .vec 2, .vec 3], [(false, .vec .body xs), (false, .vec .pair ps), (true, .vec .body xs), (true, .vec .pair ps)])
  | _, _ => none⟩

theorem vc_implCopyW (t : Int) (p : Int) (xs : List Body) (ps : List Pair) (Q : SV → List Ent → Prop) :
    fnVC tt (look [(23, fs_cloneBodies), (24, fs_clonePairs)]) L0 Try.f13 [.agg [.int .i64 t, .int .i64 p, .vec 0, .vec 1]] [(false, .vec .body xs), (false, .vec .pair ps)] Q =
    (List.length xs ≤ (1048576 : Nat) ∧ List.length ps ≤ (1048576 : Nat) ∧ Q (SV.agg [SV.int IntKind.i64 t, SV.int IntKind.i64 p, SV.vec (2 : Nat), SV.vec (3 : Nat)]) [(false, Blk.vec Ty.body xs), (false, Blk.vec Ty.pair ps), (true, Blk.vec Ty.body xs), (true, Blk.vec Ty.pair ps)]) := by kernel_rfl

theorem ok_implCopyW : FsOk Try.prog 13 fs_implCopyW := fsOk_of tt_ok (tabFs_cons ok_cloneBodies (tabFs_cons ok_clonePairs tabFs_nil)) mixed Try.func13 (by kernel_rfl) (by kernel_rfl) (by
    intro args LL p r HH h hp
    unfold fs_implCopyW at h
    dsimp only at h
    split at h
    case h_2 => cases h
    rename_i t p xs ps
    simp only [Option.some.injEq, Prod.mk.injEq] at h
    obtain ⟨rfl, rfl, rfl⟩ := h
    refine ⟨by simp [Form, stays], L0, ?_⟩
    rw [vc_implCopyW]
    try dsimp only
    obtain ⟨hb, hb2⟩ := hp _ rfl
    exact ⟨hb, hb2, (by trivial), (by trivial)⟩)

/-! ### Pushed -/
def orI (ok : Bool) (n : Int) : Int := bif ok then n else 0
def orL {α : Type} (ok : Bool) (xs : List α) : List α := bif ok then xs else []
def pushCode (t p : Int) (xs : List Body) (ps : List Pair) (id : Int) (v : Vec) : Int := bif worldOk t p xs ps && driveOk v then bif hasB xs id then 0 else 4 else 1
def pushBodies (t p : Int) (xs : List Body) (ps : List Pair) (id : Int) (v : Vec) : List Body := bif driveOk v && hasB xs id then xs.set (atB xs id) (pushB (Ty.ix .body xs (atB xs id)) v) else xs
theorem length_orL {α : Type} (ok : Bool) (xs : List α) : (orL ok xs).length ≤ xs.length := by
  unfold orL
  cases ok <;> simp
theorem length_pushW (t p : Int) (xs : List Body) (ps : List Pair) (id : Int) (v : Vec) : (orL (worldOk t p xs ps) (pushBodies t p xs ps id v)).length ≤ xs.length := by
  refine Nat.le_trans (length_orL _ _) ?_
  unfold pushBodies
  cases driveOk v && hasB xs id <;> simp
theorem hasB_lt {xs : List Body} {id : Int} (h : hasB xs id = true) : atB xs id < xs.length := by
  simp only [hasB, Bool.and_eq_true, decide_eq_true_eq] at h
  exact h.1
end Go.Proofs.Ytdhbkcaaijgocaa.Sym
