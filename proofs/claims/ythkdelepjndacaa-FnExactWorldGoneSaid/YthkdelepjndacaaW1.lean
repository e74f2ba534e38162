/-
  Worlds: what a ray meets, a body pushed.
  No condition.
-/
import Derived.Test.YthkdelepjndacaaP2
import Derived.Test.YthkdelepjndacaaG7
namespace Go.Proofs.Ythkdelepjndacaa.Sym
open Go
set_option linter.unusedVariables false
set_option linter.unusedSimpArgs false
set_option maxRecDepth 100000

def rayStep (r : Ray) (a : Int × Int) (b : Body) : Int × Int := bif (rayShape r b.Shape b.At).2 && (decide (a.1 < 0) || decide ((rayShape r b.Shape b.At).1 < a.2)) then (b.Id, (rayShape r b.Shape b.At).1) else a
def worldRay (t p : Int) (xs : List Body) (ps : List Pair) (r : Ray) : Int × Int := bif worldOk t p xs ps && rayOk r then xs.foldl (rayStep r) (-1, 0) else (-1, 0)
theorem rayStep_bad {r : Ray} (h : rayOk r = false) : ∀ (xs : List Body) (a : Int × Int), xs.foldl (rayStep r) a = a
  | [], a => rfl
  | b :: xs, a => by
    have e : rayStep r a b = a := by
      have : rayShape r b.Shape b.At = (0, false) := by simp [rayShape, h]
      unfold rayStep
      rw [this]
      rfl
    rw [List.foldl_cons, e]
    exact rayStep_bad h xs a
theorem foldl_drop {xs : List Body} {i : Nat} (h : i < xs.length) (r : Ray) (a : Int × Int) : (xs.drop i).foldl (rayStep r) a = (xs.drop (i + 1)).foldl (rayStep r) (rayStep r a (Ty.ix .body xs i)) := by
  rw [drop_ix (T := .body) h]
  rfl
def LSsray  : LS where
  S := List Body × List Pair × (Int × Int) × Ray × Int × Int × Int
  live := [(2, [none]), (3, [none]), (6, [none]), (7, [none]), (8, [none])]
  shape := fun s => ([.ptr 2 0 0, .ptr 3 0 0, .int .i64 s.2.2.2.2.1, .int .i64 s.2.2.2.2.2.1, .int .i64 s.2.2.2.2.2.2], [(false, .vec .body s.1), (false, .vec .pair s.2.1), (true, .box [.int .i64 s.2.2.1.1, .int .i64 s.2.2.1.2, .vec 0, .vec 1]), (true, .box [.int .i64 s.2.2.2.1.From.X, .int .i64 s.2.2.2.1.From.Y, .int .i64 s.2.2.2.1.Way.X, .int .i64 s.2.2.2.1.Way.Y])])
  get := fun v h => match v, h with
    | [.ptr 2 0 0, .ptr 3 0 0, .int .i64 id, .int .i64 far, .int .i64 i], [(false, .vec .body xs), (false, .vec .pair ps), (true, .box [.int .i64 w_0, .int .i64 w_1, .vec 0, .vec 1]), (true, .box [.int .i64 rFX, .int .i64 rFY, .int .i64 rWX, .int .i64 rWY])] => some (xs, ps, (w_0, w_1), (Ray.mk (Vec.mk rFX rFY) (Vec.mk rWX rWY)), id, far, i)
    | _, _ => none
  inv := fun s0 s => Holds (s.1 = s0.1 ∧ s.2.1 = s0.2.1 ∧ s.2.2.1 = s0.2.2.1 ∧ s.2.2.2.1 = s0.2.2.2.1 ∧ 0 ≤ s.2.2.2.2.2.2 ∧ s.2.2.2.2.2.2 ≤ s0.1.length ∧ (s0.1.drop s.2.2.2.2.2.2.toNat).foldl (rayStep s0.2.2.2.1) (s.2.2.2.2.1, s.2.2.2.2.2.1) = s0.1.foldl (rayStep s0.2.2.2.1) (-1, 0))
  mu := fun s => ((s.1.length : Int) - s.2.2.2.2.2.2).toNat
  ok := by
    intro v h s hg
    try dsimp only at hg
    split at hg <;> cases hg
    rfl

def L_sray : Loops := fun n => match n with
  | 6 => some LSsray
  | _ => none
noncomputable def fs_specWorldRay : Fs := ⟨[], fun args H => match args, H with
  | [.agg [.int .i64 t, .int .i64 p, .vec 0, .vec 1], .agg [.int .i64 rA, .int .i64 rB, .int .i64 rC, .int .i64 rD]], [(false, .vec .body xs), (false, .vec .pair ps)] => some ((some (xs.length ≤ 1048576 ∧ ps.length ≤ 1048576)), .tup [.int .i64 (worldRay t p xs ps ⟨⟨rA, rB⟩, ⟨rC, rD⟩⟩).1, .int .i64 (worldRay t p xs ps ⟨⟨rA, rB⟩, ⟨rC, rD⟩⟩).2], [(false, .vec .body xs), (false, .vec .pair ps)])
  | _, _ => none⟩

theorem vc_specWorldRay (t : Int) (p : Int) (xs : List Body) (ps : List Pair) (rA : Int) (rB : Int) (rC : Int) (rD : Int) (Q : SV → List Ent → Prop) :
    fnVC tt (look [(61, fs_specWorldOk), (62, fs_specRayOk), (63, fs_specRayShape)]) (L_sray) Try.f23 [.agg [.int .i64 t, .int .i64 p, .vec 0, .vec 1], .agg [.int .i64 rA, .int .i64 rB, .int .i64 rC, .int .i64 rD]] [(false, .vec .body xs), (false, .vec .pair ps)] Q =
    (let A1_ := (rayStep (Ray.mk (Vec.mk rA rB) (Vec.mk rC rD))); (List.length xs ≤ (1048576 : Nat) ∧ List.length ps ≤ (1048576 : Nat)) ∧ ifB (!worldOk t p xs ps) (Q (SV.tup [SV.int IntKind.i64 (-1 : Int), SV.int IntKind.i64 (0 : Int)]) [(false, Blk.vec Ty.body xs), (false, Blk.vec Ty.pair ps)]) (ifB (!rayOk (Ray.mk (Vec.mk rA rB) (Vec.mk rC rD))) (Q (SV.tup [SV.int IntKind.i64 (-1 : Int), SV.int IntKind.i64 (0 : Int)]) [(false, Blk.vec Ty.body xs), (false, Blk.vec Ty.pair ps)]) (Holds (xs = xs ∧ ps = ps ∧ (t, p) = (t, p) ∧ Ray.mk (Vec.mk rA rB) (Vec.mk rC rD) = Ray.mk (Vec.mk rA rB) (Vec.mk rC rD) ∧ (0 : Int) ≤ (0 : Int) ∧ (0 : Int) ≤ (↑(List.length xs) : Int) ∧ List.foldl A1_ ((-1 : Int), (0 : Int)) (List.drop (Int.toNat (0 : Int)) xs) = List.foldl A1_ ((-1 : Int), (0 : Int)) xs) ∧ ∀ (x : List Body × List Pair × (Int × Int) × Ray × Int × Int × Int), Holds (Prod.fst x = xs ∧ Prod.fst (Prod.snd x) = ps ∧ Prod.fst (Prod.snd (Prod.snd x)) = (t, p) ∧ Prod.fst (Prod.snd (Prod.snd (Prod.snd x))) = Ray.mk (Vec.mk rA rB) (Vec.mk rC rD) ∧ (0 : Int) ≤ Prod.snd (Prod.snd (Prod.snd (Prod.snd (Prod.snd (Prod.snd x))))) ∧ Prod.snd (Prod.snd (Prod.snd (Prod.snd (Prod.snd (Prod.snd x))))) ≤ (↑(List.length xs) : Int) ∧ List.foldl A1_ (Prod.fst (Prod.snd (Prod.snd (Prod.snd (Prod.snd x)))), Prod.fst (Prod.snd (Prod.snd (Prod.snd (Prod.snd (Prod.snd x)))))) (List.drop (Int.toNat (Prod.snd (Prod.snd (Prod.snd (Prod.snd (Prod.snd (Prod.snd x))))))) xs) = List.foldl A1_ ((-1 : Int), (0 : Int)) xs) → ifB (decide (Prod.snd (Prod.snd (Prod.snd (Prod.snd (Prod.snd (Prod.snd x))))) < (↑(List.length (Prod.fst x)) : Int))) (((0 : Int) ≤ Prod.snd (Prod.snd (Prod.snd (Prod.snd (Prod.snd (Prod.snd x))))) ∧ Prod.snd (Prod.snd (Prod.snd (Prod.snd (Prod.snd (Prod.snd x))))) < (↑(List.length (Prod.fst x)) : Int)) ∧ ((0 : Int) ≤ Prod.snd (Prod.snd (Prod.snd (Prod.snd (Prod.snd (Prod.snd x))))) ∧ Prod.snd (Prod.snd (Prod.snd (Prod.snd (Prod.snd (Prod.snd x))))) < (↑(List.length (Prod.fst x)) : Int)) ∧ ifB (Prod.snd (rayShape (Prod.fst (Prod.snd (Prod.snd (Prod.snd x)))) (Body.Shape (Ty.ix Ty.body (Prod.fst x) (Int.toNat (Prod.snd (Prod.snd (Prod.snd (Prod.snd (Prod.snd (Prod.snd x))))))))) (Body.At (Ty.ix Ty.body (Prod.fst x) (Int.toNat (Prod.snd (Prod.snd (Prod.snd (Prod.snd (Prod.snd (Prod.snd x))))))))))) (ifB (decide (Prod.fst (Prod.snd (Prod.snd (Prod.snd (Prod.snd x)))) < (0 : Int))) (((0 : Int) ≤ Prod.snd (Prod.snd (Prod.snd (Prod.snd (Prod.snd (Prod.snd x))))) ∧ Prod.snd (Prod.snd (Prod.snd (Prod.snd (Prod.snd (Prod.snd x))))) < (↑(List.length (Prod.fst x)) : Int)) ∧ Holds (Prod.fst x = xs ∧ Prod.fst (Prod.snd x) = ps ∧ Prod.fst (Prod.snd (Prod.snd x)) = (t, p) ∧ Prod.fst (Prod.snd (Prod.snd (Prod.snd x))) = Ray.mk (Vec.mk rA rB) (Vec.mk rC rD) ∧ (0 : Int) ≤ IntKind.wrap IntKind.i64 (Prod.snd (Prod.snd (Prod.snd (Prod.snd (Prod.snd (Prod.snd x))))) + (1 : Int)) ∧ IntKind.wrap IntKind.i64 (Prod.snd (Prod.snd (Prod.snd (Prod.snd (Prod.snd (Prod.snd x))))) + (1 : Int)) ≤ (↑(List.length xs) : Int) ∧ List.foldl A1_ (Body.Id (Ty.ix Ty.body (Prod.fst x) (Int.toNat (Prod.snd (Prod.snd (Prod.snd (Prod.snd (Prod.snd (Prod.snd x)))))))), Prod.fst (rayShape (Prod.fst (Prod.snd (Prod.snd (Prod.snd x)))) (Body.Shape (Ty.ix Ty.body (Prod.fst x) (Int.toNat (Prod.snd (Prod.snd (Prod.snd (Prod.snd (Prod.snd (Prod.snd x))))))))) (Body.At (Ty.ix Ty.body (Prod.fst x) (Int.toNat (Prod.snd (Prod.snd (Prod.snd (Prod.snd (Prod.snd (Prod.snd x))))))))))) (List.drop (Int.toNat (IntKind.wrap IntKind.i64 (Prod.snd (Prod.snd (Prod.snd (Prod.snd (Prod.snd (Prod.snd x))))) + (1 : Int)))) xs) = List.foldl A1_ ((-1 : Int), (0 : Int)) xs) ∧ Int.toNat ((↑(List.length (Prod.fst x)) : Int) - IntKind.wrap IntKind.i64 (Prod.snd (Prod.snd (Prod.snd (Prod.snd (Prod.snd (Prod.snd x))))) + (1 : Int))) < Int.toNat ((↑(List.length (Prod.fst x)) : Int) - Prod.snd (Prod.snd (Prod.snd (Prod.snd (Prod.snd (Prod.snd x))))))) (ifB (decide (Prod.fst (rayShape (Prod.fst (Prod.snd (Prod.snd (Prod.snd x)))) (Body.Shape (Ty.ix Ty.body (Prod.fst x) (Int.toNat (Prod.snd (Prod.snd (Prod.snd (Prod.snd (Prod.snd (Prod.snd x))))))))) (Body.At (Ty.ix Ty.body (Prod.fst x) (Int.toNat (Prod.snd (Prod.snd (Prod.snd (Prod.snd (Prod.snd (Prod.snd x)))))))))) < Prod.fst (Prod.snd (Prod.snd (Prod.snd (Prod.snd (Prod.snd x))))))) (((0 : Int) ≤ Prod.snd (Prod.snd (Prod.snd (Prod.snd (Prod.snd (Prod.snd x))))) ∧ Prod.snd (Prod.snd (Prod.snd (Prod.snd (Prod.snd (Prod.snd x))))) < (↑(List.length (Prod.fst x)) : Int)) ∧ Holds (Prod.fst x = xs ∧ Prod.fst (Prod.snd x) = ps ∧ Prod.fst (Prod.snd (Prod.snd x)) = (t, p) ∧ Prod.fst (Prod.snd (Prod.snd (Prod.snd x))) = Ray.mk (Vec.mk rA rB) (Vec.mk rC rD) ∧ (0 : Int) ≤ IntKind.wrap IntKind.i64 (Prod.snd (Prod.snd (Prod.snd (Prod.snd (Prod.snd (Prod.snd x))))) + (1 : Int)) ∧ IntKind.wrap IntKind.i64 (Prod.snd (Prod.snd (Prod.snd (Prod.snd (Prod.snd (Prod.snd x))))) + (1 : Int)) ≤ (↑(List.length xs) : Int) ∧ List.foldl A1_ (Body.Id (Ty.ix Ty.body (Prod.fst x) (Int.toNat (Prod.snd (Prod.snd (Prod.snd (Prod.snd (Prod.snd (Prod.snd x)))))))), Prod.fst (rayShape (Prod.fst (Prod.snd (Prod.snd (Prod.snd x)))) (Body.Shape (Ty.ix Ty.body (Prod.fst x) (Int.toNat (Prod.snd (Prod.snd (Prod.snd (Prod.snd (Prod.snd (Prod.snd x))))))))) (Body.At (Ty.ix Ty.body (Prod.fst x) (Int.toNat (Prod.snd (Prod.snd (Prod.snd (Prod.snd (Prod.snd (Prod.snd x))))))))))) (List.drop (Int.toNat (IntKind.wrap IntKind.i64 (Prod.snd (Prod.snd (Prod.snd (Prod.snd (Prod.snd (Prod.snd x))))) + (1 : Int)))) xs) = List.foldl A1_ ((-1 : Int), (0 : Int)) xs) ∧ Int.toNat ((↑(List.length (Prod.fst x)) : Int) - IntKind.wrap IntKind.i64 (Prod.snd (Prod.snd (Prod.snd (Prod.snd (Prod.snd (Prod.snd x))))) + (1 : Int))) < Int.toNat ((↑(List.length (Prod.fst x)) : Int) - Prod.snd (Prod.snd (Prod.snd (Prod.snd (Prod.snd (Prod.snd x))))))) (Holds (Prod.fst x = xs ∧ Prod.fst (Prod.snd x) = ps ∧ Prod.fst (Prod.snd (Prod.snd x)) = (t, p) ∧ Prod.fst (Prod.snd (Prod.snd (Prod.snd x))) = Ray.mk (Vec.mk rA rB) (Vec.mk rC rD) ∧ (0 : Int) ≤ IntKind.wrap IntKind.i64 (Prod.snd (Prod.snd (Prod.snd (Prod.snd (Prod.snd (Prod.snd x))))) + (1 : Int)) ∧ IntKind.wrap IntKind.i64 (Prod.snd (Prod.snd (Prod.snd (Prod.snd (Prod.snd (Prod.snd x))))) + (1 : Int)) ≤ (↑(List.length xs) : Int) ∧ List.foldl A1_ (Prod.fst (Prod.snd (Prod.snd (Prod.snd (Prod.snd x)))), Prod.fst (Prod.snd (Prod.snd (Prod.snd (Prod.snd (Prod.snd x)))))) (List.drop (Int.toNat (IntKind.wrap IntKind.i64 (Prod.snd (Prod.snd (Prod.snd (Prod.snd (Prod.snd (Prod.snd x))))) + (1 : Int)))) xs) = List.foldl A1_ ((-1 : Int), (0 : Int)) xs) ∧ Int.toNat ((↑(List.length (Prod.fst x)) : Int) - IntKind.wrap IntKind.i64 (Prod.snd (Prod.snd (Prod.snd (Prod.snd (Prod.snd (Prod.snd x))))) + (1 : Int))) < Int.toNat ((↑(List.length (Prod.fst x)) : Int) - Prod.snd (Prod.snd (Prod.snd (Prod.snd (Prod.snd (Prod.snd x))))))))) (Holds (Prod.fst x = xs ∧ Prod.fst (Prod.snd x) = ps ∧ Prod.fst (Prod.snd (Prod.snd x)) = (t, p) ∧ Prod.fst (Prod.snd (Prod.snd (Prod.snd x))) = Ray.mk (Vec.mk rA rB) (Vec.mk rC rD) ∧ (0 : Int) ≤ IntKind.wrap IntKind.i64 (Prod.snd (Prod.snd (Prod.snd (Prod.snd (Prod.snd (Prod.snd x))))) + (1 : Int)) ∧ IntKind.wrap IntKind.i64 (Prod.snd (Prod.snd (Prod.snd (Prod.snd (Prod.snd (Prod.snd x))))) + (1 : Int)) ≤ (↑(List.length xs) : Int) ∧ List.foldl A1_ (Prod.fst (Prod.snd (Prod.snd (Prod.snd (Prod.snd x)))), Prod.fst (Prod.snd (Prod.snd (Prod.snd (Prod.snd (Prod.snd x)))))) (List.drop (Int.toNat (IntKind.wrap IntKind.i64 (Prod.snd (Prod.snd (Prod.snd (Prod.snd (Prod.snd (Prod.snd x))))) + (1 : Int)))) xs) = List.foldl A1_ ((-1 : Int), (0 : Int)) xs) ∧ Int.toNat ((↑(List.length (Prod.fst x)) : Int) - IntKind.wrap IntKind.i64 (Prod.snd (Prod.snd (Prod.snd (Prod.snd (Prod.snd (Prod.snd x))))) + (1 : Int))) < Int.toNat ((↑(List.length (Prod.fst x)) : Int) - Prod.snd (Prod.snd (Prod.snd (Prod.snd (Prod.snd (Prod.snd x)))))))) (Q (SV.tup [SV.int IntKind.i64 (Prod.fst (Prod.snd (Prod.snd (Prod.snd (Prod.snd x))))), SV.int IntKind.i64 (Prod.fst (Prod.snd (Prod.snd (Prod.snd (Prod.snd (Prod.snd x))))))]) [(false, Blk.vec Ty.body (Prod.fst x)), (false, Blk.vec Ty.pair (Prod.fst (Prod.snd x)))])))) := by kernel_rfl

theorem ok_specWorldRay : FsOk Try.prog 23 fs_specWorldRay := fsOk_of tt_ok (tabFs_cons ok_specWorldOk (tabFs_cons ok_specRayOk (tabFs_cons ok_specRayShape tabFs_nil))) mixed Try.func23 (by kernel_rfl) (by kernel_rfl) (by
    intro args LL p r HH h hp
    unfold fs_specWorldRay at h
    dsimp only at h
    split at h
    case h_2 => cases h
    rename_i t p rA rB rC rD xs ps
    simp only [Option.some.injEq, Prod.mk.injEq] at h
    obtain ⟨rfl, rfl, rfl⟩ := h
    refine ⟨by simp [Form, stays], (L_sray), ?_⟩
    rw [vc_specWorldRay]
    try dsimp only
    obtain ⟨hb, hb2⟩ := hp _ rfl
    refine ⟨⟨hb, hb2⟩, ifB_of (fun c => ?_) (fun c => ifB_of (fun c2 => ?_) (fun c2 => ?_))⟩
    · simp [worldRay, not_true c]
    · simp [worldRay, not_true c2]
    have e : worldRay t p xs ps ⟨⟨rA, rB⟩, ⟨rC, rD⟩⟩ = xs.foldl (rayStep ⟨⟨rA, rB⟩, ⟨rC, rD⟩⟩) (-1, 0) := by simp [worldRay, not_false c, not_false c2]
    rw [e]
    refine ⟨⟨(by trivial), (by trivial), (by trivial), (by trivial), by omega, by omega, (by trivial)⟩, ?_⟩
    rintro ⟨xs', ps', w, q, id, far, i⟩ ⟨h⟩
    dsimp only at h ⊢
    obtain ⟨rfl, rfl, rfl, rfl, i0, i1, i2⟩ := h
    refine ifB_of (fun c3 => ?_) (fun c3 => ?_)
    · have c3 := of_decide_eq_true c3
      have e1 : (i + 1).toNat = i.toNat + 1 := by omega
      have w : IntKind.i64.wrap (i + 1) = i + 1 := wrap_small (by omega) (by omega)
      rw [foldl_drop (show i.toNat < xs'.length by omega)] at i2
      rw [w, e1]
      have fin : ∀ {a b : Int}, rayStep ⟨⟨rA, rB⟩, ⟨rC, rD⟩⟩ (id, far) (Ty.ix .body xs' i.toNat) = (a, b) → (xs'.drop (i.toNat + 1)).foldl (rayStep ⟨⟨rA, rB⟩, ⟨rC, rD⟩⟩) (a, b) = xs'.foldl (rayStep ⟨⟨rA, rB⟩, ⟨rC, rD⟩⟩) (-1, 0) := by
        intro a b q
        rw [← q]
        exact i2
      have def0 : rayStep ⟨⟨rA, rB⟩, ⟨rC, rD⟩⟩ (id, far) (Ty.ix .body xs' i.toNat) = bif (rayShape ⟨⟨rA, rB⟩, ⟨rC, rD⟩⟩ (Ty.ix .body xs' i.toNat).Shape (Ty.ix .body xs' i.toNat).At).2 && (decide (id < 0) || decide ((rayShape ⟨⟨rA, rB⟩, ⟨rC, rD⟩⟩ (Ty.ix .body xs' i.toNat).Shape (Ty.ix .body xs' i.toNat).At).1 < far)) then ((Ty.ix .body xs' i.toNat).Id, (rayShape ⟨⟨rA, rB⟩, ⟨rC, rD⟩⟩ (Ty.ix .body xs' i.toNat).Shape (Ty.ix .body xs' i.toNat).At).1) else (id, far) := rfl
      refine ⟨⟨i0, c3⟩, ⟨i0, c3⟩, ifB_of (fun d1 => ifB_of (fun d2 => ⟨⟨i0, c3⟩, ⟨(by trivial), (by trivial), (by trivial), (by trivial), by omega, by omega, fin ?_⟩, by omega⟩) (fun d2 => ifB_of (fun d3 => ⟨⟨i0, c3⟩, ⟨(by trivial), (by trivial), (by trivial), (by trivial), by omega, by omega, fin ?_⟩, by omega⟩) (fun d3 => ⟨⟨(by trivial), (by trivial), (by trivial), (by trivial), by omega, by omega, fin ?_⟩, by omega⟩))) (fun d1 => ⟨⟨(by trivial), (by trivial), (by trivial), (by trivial), by omega, by omega, fin ?_⟩, by omega⟩)⟩
      · rw [def0, d1, d2]; rfl
      · rw [def0, d1, d2, d3]; rfl
      · rw [def0, d1, d2, d3]; rfl
      · rw [def0, d1]; rfl
    · have c3 := of_decide_eq_false c3
      rw [drop_end (by omega)] at i2
      rw [← i2]
      exact ⟨rfl, rfl⟩)

def LSiray  : LS where
  S := List Body × List Pair × Ray × Int × Int × Unit × Int × Int
  live := [(3, [none]), (6, [none]), (7, [none]), (16, [none]), (17, [none]), (18, [none])]
  shape := fun s => ([.ptr 2 0 0, .int .i64 s.2.2.2.1, .int .i64 s.2.2.2.2.1, .vec 0, .int .i64 s.2.2.2.2.2.2.1, .int .i64 s.2.2.2.2.2.2.2], [(false, .vec .body s.1), (false, .vec .pair s.2.1), (true, .box [.int .i64 s.2.2.1.From.X, .int .i64 s.2.2.1.From.Y, .int .i64 s.2.2.1.Way.X, .int .i64 s.2.2.1.Way.Y])])
  get := fun v h => match v, h with
    | [.ptr 2 0 0, .int .i64 id, .int .i64 far, .vec 0, .int .i64 n, .int .i64 i], [(false, .vec .body xs), (false, .vec .pair ps), (true, .box [.int .i64 rFX, .int .i64 rFY, .int .i64 rWX, .int .i64 rWY])] => some (xs, ps, (Ray.mk (Vec.mk rFX rFY) (Vec.mk rWX rWY)), id, far, (), n, i)
    | _, _ => none
  inv := fun s0 s => Holds (s.1 = s0.1 ∧ s.2.1 = s0.2.1 ∧ s.2.2.1 = s0.2.2.1 ∧ s.2.2.2.2.2.2.1 = s0.1.length ∧ 0 ≤ s.2.2.2.2.2.2.2 ∧ s.2.2.2.2.2.2.2 ≤ s0.1.length ∧ (s0.1.drop s.2.2.2.2.2.2.2.toNat).foldl (rayStep s0.2.2.1) (s.2.2.2.1, s.2.2.2.2.1) = s0.1.foldl (rayStep s0.2.2.1) (-1, 0))
  mu := fun s => ((s.1.length : Int) - s.2.2.2.2.2.2.2).toNat
  ok := by
    intro v h s hg
    try dsimp only at hg
    split at hg <;> cases hg
    rfl

def L_iray : Loops := fun n => match n with
  | 5 => some LSiray
  | _ => none
noncomputable def fs_implWorldRay : Fs := ⟨[], fun args H => match args, H with
  | [.agg [.int .i64 t, .int .i64 p, .vec 0, .vec 1], .agg [.int .i64 rA, .int .i64 rB, .int .i64 rC, .int .i64 rD]], [(false, .vec .body xs), (false, .vec .pair ps)] => some ((some (xs.length ≤ 1048576 ∧ ps.length ≤ 1048576)), .tup [.int .i64 (worldRay t p xs ps ⟨⟨rA, rB⟩, ⟨rC, rD⟩⟩).1, .int .i64 (worldRay t p xs ps ⟨⟨rA, rB⟩, ⟨rC, rD⟩⟩).2], [(false, .vec .body xs), (false, .vec .pair ps)])
  | _, _ => none⟩

theorem vc_implWorldRay (t : Int) (p : Int) (xs : List Body) (ps : List Pair) (rA : Int) (rB : Int) (rC : Int) (rD : Int) (Q : SV → List Ent → Prop) :
    fnVC tt (look [(50, fs_implWorldOk), (65, fs_implRayShape)]) (L_iray) Try.f26 [.agg [.int .i64 t, .int .i64 p, .vec 0, .vec 1], .agg [.int .i64 rA, .int .i64 rB, .int .i64 rC, .int .i64 rD]] [(false, .vec .body xs), (false, .vec .pair ps)] Q =
    (let A2_ := (↑(List.length xs) : Int); let A1_ := (rayStep (Ray.mk (Vec.mk rA rB) (Vec.mk rC rD))); (List.length xs ≤ (1048576 : Nat) ∧ List.length ps ≤ (1048576 : Nat)) ∧ ifB (!worldOk t p xs ps) (Q (SV.tup [SV.int IntKind.i64 (-1 : Int), SV.int IntKind.i64 (0 : Int)]) [(false, Blk.vec Ty.body xs), (false, Blk.vec Ty.pair ps)]) (Holds (xs = xs ∧ ps = ps ∧ Ray.mk (Vec.mk rA rB) (Vec.mk rC rD) = Ray.mk (Vec.mk rA rB) (Vec.mk rC rD) ∧ A2_ = A2_ ∧ (0 : Int) ≤ (0 : Int) ∧ (0 : Int) ≤ A2_ ∧ List.foldl A1_ ((-1 : Int), (0 : Int)) (List.drop (Int.toNat (0 : Int)) xs) = List.foldl A1_ ((-1 : Int), (0 : Int)) xs) ∧ ∀ (x : List Body × List Pair × Ray × Int × Int × Unit × Int × Int), Holds (Prod.fst x = xs ∧ Prod.fst (Prod.snd x) = ps ∧ Prod.fst (Prod.snd (Prod.snd x)) = Ray.mk (Vec.mk rA rB) (Vec.mk rC rD) ∧ Prod.fst (Prod.snd (Prod.snd (Prod.snd (Prod.snd (Prod.snd (Prod.snd x)))))) = A2_ ∧ (0 : Int) ≤ Prod.snd (Prod.snd (Prod.snd (Prod.snd (Prod.snd (Prod.snd (Prod.snd x)))))) ∧ Prod.snd (Prod.snd (Prod.snd (Prod.snd (Prod.snd (Prod.snd (Prod.snd x)))))) ≤ A2_ ∧ List.foldl A1_ (Prod.fst (Prod.snd (Prod.snd (Prod.snd x))), Prod.fst (Prod.snd (Prod.snd (Prod.snd (Prod.snd x))))) (List.drop (Int.toNat (Prod.snd (Prod.snd (Prod.snd (Prod.snd (Prod.snd (Prod.snd (Prod.snd x)))))))) xs) = List.foldl A1_ ((-1 : Int), (0 : Int)) xs) → ifB (decide (Prod.snd (Prod.snd (Prod.snd (Prod.snd (Prod.snd (Prod.snd (Prod.snd x)))))) < Prod.fst (Prod.snd (Prod.snd (Prod.snd (Prod.snd (Prod.snd (Prod.snd x)))))))) (((0 : Int) ≤ Prod.snd (Prod.snd (Prod.snd (Prod.snd (Prod.snd (Prod.snd (Prod.snd x)))))) ∧ Prod.snd (Prod.snd (Prod.snd (Prod.snd (Prod.snd (Prod.snd (Prod.snd x)))))) < (↑(List.length (Prod.fst x)) : Int)) ∧ ifB (Prod.snd (rayShape (Prod.fst (Prod.snd (Prod.snd x))) (Body.Shape (Ty.ix Ty.body (Prod.fst x) (Int.toNat (Prod.snd (Prod.snd (Prod.snd (Prod.snd (Prod.snd (Prod.snd (Prod.snd x)))))))))) (Body.At (Ty.ix Ty.body (Prod.fst x) (Int.toNat (Prod.snd (Prod.snd (Prod.snd (Prod.snd (Prod.snd (Prod.snd (Prod.snd x)))))))))))) (ifB (decide (Prod.fst (Prod.snd (Prod.snd (Prod.snd x))) < (0 : Int))) (Holds (Prod.fst x = xs ∧ Prod.fst (Prod.snd x) = ps ∧ Prod.fst (Prod.snd (Prod.snd x)) = Ray.mk (Vec.mk rA rB) (Vec.mk rC rD) ∧ Prod.fst (Prod.snd (Prod.snd (Prod.snd (Prod.snd (Prod.snd (Prod.snd x)))))) = A2_ ∧ (0 : Int) ≤ IntKind.wrap IntKind.i64 (Prod.snd (Prod.snd (Prod.snd (Prod.snd (Prod.snd (Prod.snd (Prod.snd x)))))) + (1 : Int)) ∧ IntKind.wrap IntKind.i64 (Prod.snd (Prod.snd (Prod.snd (Prod.snd (Prod.snd (Prod.snd (Prod.snd x)))))) + (1 : Int)) ≤ A2_ ∧ List.foldl A1_ (Body.Id (Ty.ix Ty.body (Prod.fst x) (Int.toNat (Prod.snd (Prod.snd (Prod.snd (Prod.snd (Prod.snd (Prod.snd (Prod.snd x))))))))), Prod.fst (rayShape (Prod.fst (Prod.snd (Prod.snd x))) (Body.Shape (Ty.ix Ty.body (Prod.fst x) (Int.toNat (Prod.snd (Prod.snd (Prod.snd (Prod.snd (Prod.snd (Prod.snd (Prod.snd x)))))))))) (Body.At (Ty.ix Ty.body (Prod.fst x) (Int.toNat (Prod.snd (Prod.snd (Prod.snd (Prod.snd (Prod.snd (Prod.snd (Prod.snd x)))))))))))) (List.drop (Int.toNat (IntKind.wrap IntKind.i64 (Prod.snd (Prod.snd (Prod.snd (Prod.snd (Prod.snd (Prod.snd (Prod.snd x)))))) + (1 : Int)))) xs) = List.foldl A1_ ((-1 : Int), (0 : Int)) xs) ∧ Int.toNat ((↑(List.length (Prod.fst x)) : Int) - IntKind.wrap IntKind.i64 (Prod.snd (Prod.snd (Prod.snd (Prod.snd (Prod.snd (Prod.snd (Prod.snd x)))))) + (1 : Int))) < Int.toNat ((↑(List.length (Prod.fst x)) : Int) - Prod.snd (Prod.snd (Prod.snd (Prod.snd (Prod.snd (Prod.snd (Prod.snd x)))))))) (ifB (decide (Prod.fst (rayShape (Prod.fst (Prod.snd (Prod.snd x))) (Body.Shape (Ty.ix Ty.body (Prod.fst x) (Int.toNat (Prod.snd (Prod.snd (Prod.snd (Prod.snd (Prod.snd (Prod.snd (Prod.snd x)))))))))) (Body.At (Ty.ix Ty.body (Prod.fst x) (Int.toNat (Prod.snd (Prod.snd (Prod.snd (Prod.snd (Prod.snd (Prod.snd (Prod.snd x))))))))))) < Prod.fst (Prod.snd (Prod.snd (Prod.snd (Prod.snd x)))))) (Holds (Prod.fst x = xs ∧ Prod.fst (Prod.snd x) = ps ∧ Prod.fst (Prod.snd (Prod.snd x)) = Ray.mk (Vec.mk rA rB) (Vec.mk rC rD) ∧ Prod.fst (Prod.snd (Prod.snd (Prod.snd (Prod.snd (Prod.snd (Prod.snd x)))))) = A2_ ∧ (0 : Int) ≤ IntKind.wrap IntKind.i64 (Prod.snd (Prod.snd (Prod.snd (Prod.snd (Prod.snd (Prod.snd (Prod.snd x)))))) + (1 : Int)) ∧ IntKind.wrap IntKind.i64 (Prod.snd (Prod.snd (Prod.snd (Prod.snd (Prod.snd (Prod.snd (Prod.snd x)))))) + (1 : Int)) ≤ A2_ ∧ List.foldl A1_ (Body.Id (Ty.ix Ty.body (Prod.fst x) (Int.toNat (Prod.snd (Prod.snd (Prod.snd (Prod.snd (Prod.snd (Prod.snd (Prod.snd x))))))))), Prod.fst (rayShape (Prod.fst (Prod.snd (Prod.snd x))) (Body.Shape (Ty.ix Ty.body (Prod.fst x) (Int.toNat (Prod.snd (Prod.snd (Prod.snd (Prod.snd (Prod.snd (Prod.snd (Prod.snd x)))))))))) (Body.At (Ty.ix Ty.body (Prod.fst x) (Int.toNat (Prod.snd (Prod.snd (Prod.snd (Prod.snd (Prod.snd (Prod.snd (Prod.snd x)))))))))))) (List.drop (Int.toNat (IntKind.wrap IntKind.i64 (Prod.snd (Prod.snd (Prod.snd (Prod.snd (Prod.snd (Prod.snd (Prod.snd x)))))) + (1 : Int)))) xs) = List.foldl A1_ ((-1 : Int), (0 : Int)) xs) ∧ Int.toNat ((↑(List.length (Prod.fst x)) : Int) - IntKind.wrap IntKind.i64 (Prod.snd (Prod.snd (Prod.snd (Prod.snd (Prod.snd (Prod.snd (Prod.snd x)))))) + (1 : Int))) < Int.toNat ((↑(List.length (Prod.fst x)) : Int) - Prod.snd (Prod.snd (Prod.snd (Prod.snd (Prod.snd (Prod.snd (Prod.snd x)))))))) (Holds (Prod.fst x = xs ∧ Prod.fst (Prod.snd x) = ps ∧ Prod.fst (Prod.snd (Prod.snd x)) = Ray.mk (Vec.mk rA rB) (Vec.mk rC rD) ∧ Prod.fst (Prod.snd (Prod.snd (Prod.snd (Prod.snd (Prod.snd (Prod.snd x)))))) = A2_ ∧ (0 : Int) ≤ IntKind.wrap IntKind.i64 (Prod.snd (Prod.snd (Prod.snd (Prod.snd (Prod.snd (Prod.snd (Prod.snd x)))))) + (1 : Int)) ∧ IntKind.wrap IntKind.i64 (Prod.snd (Prod.snd (Prod.snd (Prod.snd (Prod.snd (Prod.snd (Prod.snd x)))))) + (1 : Int)) ≤ A2_ ∧ List.foldl A1_ (Prod.fst (Prod.snd (Prod.snd (Prod.snd x))), Prod.fst (Prod.snd (Prod.snd (Prod.snd (Prod.snd x))))) (List.drop (Int.toNat (IntKind.wrap IntKind.i64 (Prod.snd (Prod.snd (Prod.snd (Prod.snd (Prod.snd (Prod.snd (Prod.snd x)))))) + (1 : Int)))) xs) = List.foldl A1_ ((-1 : Int), (0 : Int)) xs) ∧ Int.toNat ((↑(List.length (Prod.fst x)) : Int) - IntKind.wrap IntKind.i64 (Prod.snd (Prod.snd (Prod.snd (Prod.snd (Prod.snd (Prod.snd (Prod.snd x)))))) + (1 : Int))) < Int.toNat ((↑(List.length (Prod.fst x)) : Int) - Prod.snd (Prod.snd (Prod.snd (Prod.snd (Prod.snd (Prod.snd (Prod.snd x)))))))))) (Holds (Prod.fst x = xs ∧ Prod.fst (Prod.snd x) = ps ∧ Prod.fst (Prod.snd (Prod.snd x)) = Ray.mk (Vec.mk rA rB) (Vec.mk rC rD) ∧ Prod.fst (Prod.snd (Prod.snd (Prod.snd (Prod.snd (Prod.snd (Prod.snd x)))))) = A2_ ∧ (0 : Int) ≤ IntKind.wrap IntKind.i64 (Prod.snd (Prod.snd (Prod.snd (Prod.snd (Prod.snd (Prod.snd (Prod.snd x)))))) + (1 : Int)) ∧ IntKind.wrap IntKind.i64 (Prod.snd (Prod.snd (Prod.snd (Prod.snd (Prod.snd (Prod.snd (Prod.snd x)))))) + (1 : Int)) ≤ A2_ ∧ List.foldl A1_ (Prod.fst (Prod.snd (Prod.snd (Prod.snd x))), Prod.fst (Prod.snd (Prod.snd (Prod.snd (Prod.snd x))))) (List.drop (Int.toNat (IntKind.wrap IntKind.i64 (Prod.snd (Prod.snd (Prod.snd (Prod.snd (Prod.snd (Prod.snd (Prod.snd x)))))) + (1 : Int)))) xs) = List.foldl A1_ ((-1 : Int), (0 : Int)) xs) ∧ Int.toNat ((↑(List.length (Prod.fst x)) : Int) - IntKind.wrap IntKind.i64 (Prod.snd (Prod.snd (Prod.snd (Prod.snd (Prod.snd (Prod.snd (Prod.snd x)))))) + (1 : Int))) < Int.toNat ((↑(List.length (Prod.fst x)) : Int) - Prod.snd (Prod.snd (Prod.snd (Prod.snd (Prod.snd (Prod.snd (Prod.snd x))))))))) (Q (SV.tup [SV.int IntKind.i64 (Prod.fst (Prod.snd (Prod.snd (Prod.snd x)))), SV.int IntKind.i64 (Prod.fst (Prod.snd (Prod.snd (Prod.snd (Prod.snd x)))))]) [(false, Blk.vec Ty.body (Prod.fst x)), (false, Blk.vec Ty.pair (Prod.fst (Prod.snd x)))]))) := by kernel_rfl

theorem ok_implWorldRay : FsOk Try.prog 26 fs_implWorldRay := fsOk_of tt_ok (tabFs_cons ok_implWorldOk (tabFs_cons ok_implRayShape tabFs_nil)) mixed Try.func26 (by kernel_rfl) (by kernel_rfl) (by
    intro args LL p r HH h hp
    unfold fs_implWorldRay at h
    dsimp only at h
    split at h
    case h_2 => cases h
    rename_i t p rA rB rC rD xs ps
    simp only [Option.some.injEq, Prod.mk.injEq] at h
    obtain ⟨rfl, rfl, rfl⟩ := h
    refine ⟨by simp [Form, stays], (L_iray), ?_⟩
    rw [vc_implWorldRay]
    try dsimp only
    obtain ⟨hb, hb2⟩ := hp _ rfl
    refine ⟨⟨hb, hb2⟩, ifB_of (fun c => ?_) (fun c => ?_)⟩
    · simp [worldRay, not_true c]
    have e : worldRay t p xs ps ⟨⟨rA, rB⟩, ⟨rC, rD⟩⟩ = xs.foldl (rayStep ⟨⟨rA, rB⟩, ⟨rC, rD⟩⟩) (-1, 0) := by
      cases q : rayOk ⟨⟨rA, rB⟩, ⟨rC, rD⟩⟩ with
      | true => simp [worldRay, not_false c, q]
      | false => simp [worldRay, q, rayStep_bad q]
    rw [e]
    refine ⟨⟨(by trivial), (by trivial), (by trivial), (by trivial), by omega, by omega, (by trivial)⟩, ?_⟩
    rintro ⟨xs', ps', q, id, far, u, n, i⟩ ⟨h⟩
    dsimp only at h ⊢
    obtain ⟨rfl, rfl, rfl, rfl, i0, i1, i2⟩ := h
    refine ifB_of (fun c3 => ?_) (fun c3 => ?_)
    · have c3 := of_decide_eq_true c3
      have e1 : (i + 1).toNat = i.toNat + 1 := by omega
      have w : IntKind.i64.wrap (i + 1) = i + 1 := wrap_small (by omega) (by omega)
      rw [foldl_drop (show i.toNat < xs'.length by omega)] at i2
      rw [w, e1]
      have fin : ∀ {a b : Int}, rayStep ⟨⟨rA, rB⟩, ⟨rC, rD⟩⟩ (id, far) (Ty.ix .body xs' i.toNat) = (a, b) → (xs'.drop (i.toNat + 1)).foldl (rayStep ⟨⟨rA, rB⟩, ⟨rC, rD⟩⟩) (a, b) = xs'.foldl (rayStep ⟨⟨rA, rB⟩, ⟨rC, rD⟩⟩) (-1, 0) := by
        intro a b q
        rw [← q]
        exact i2
      have def0 : rayStep ⟨⟨rA, rB⟩, ⟨rC, rD⟩⟩ (id, far) (Ty.ix .body xs' i.toNat) = bif (rayShape ⟨⟨rA, rB⟩, ⟨rC, rD⟩⟩ (Ty.ix .body xs' i.toNat).Shape (Ty.ix .body xs' i.toNat).At).2 && (decide (id < 0) || decide ((rayShape ⟨⟨rA, rB⟩, ⟨rC, rD⟩⟩ (Ty.ix .body xs' i.toNat).Shape (Ty.ix .body xs' i.toNat).At).1 < far)) then ((Ty.ix .body xs' i.toNat).Id, (rayShape ⟨⟨rA, rB⟩, ⟨rC, rD⟩⟩ (Ty.ix .body xs' i.toNat).Shape (Ty.ix .body xs' i.toNat).At).1) else (id, far) := rfl
      refine ⟨⟨i0, c3⟩, ifB_of (fun d1 => ifB_of (fun d2 => ⟨⟨(by trivial), (by trivial), (by trivial), (by trivial), by omega, by omega, fin ?_⟩, by omega⟩) (fun d2 => ifB_of (fun d3 => ⟨⟨(by trivial), (by trivial), (by trivial), (by trivial), by omega, by omega, fin ?_⟩, by omega⟩) (fun d3 => ⟨⟨(by trivial), (by trivial), (by trivial), (by trivial), by omega, by omega, fin ?_⟩, by omega⟩))) (fun d1 => ⟨⟨(by trivial), (by trivial), (by trivial), (by trivial), by omega, by omega, fin ?_⟩, by omega⟩)⟩
      · rw [def0, d1, d2]; rfl
      · rw [def0, d1, d2, d3]; rfl
      · rw [def0, d1, d2, d3]; rfl
      · rw [def0, d1]; rfl
    · have c3 := of_decide_eq_false c3
      rw [drop_end (by omega)] at i2
      rw [← i2]
      exact ⟨rfl, rfl⟩)

noncomputable def fs_clonePairs : Fs := ⟨[], fun args H => match args, H with
  | [.vec 0], [(false, .vec .pair xs)] => some ((some (xs.length ≤ 1048576)), .vec 1, [(false, .vec .pair xs), (true, .vec .pair xs)])
  | _, _ => none⟩

theorem vc_clonePairs (xs : List Pair) (Q : SV → List Ent → Prop) :
    fnVC tt (look []) L0 Try.f126 [.vec 0] [(false, .vec .pair xs)] Q =
    (∀ (b : Bool), (b = true → List.length xs = (0 : Nat)) → ifB b (Q (SV.vec (1 : Nat)) [(false, Blk.vec Ty.pair xs), (true, Blk.vec Ty.pair [])]) (((0 : Nat) + List.length xs) * (16 : Nat) ≤ room ∧ Q (SV.vec (1 : Nat)) [(false, Blk.vec Ty.pair xs), (true, Blk.vec Ty.pair ([] ++ xs))])) := by kernel_rfl

theorem ok_clonePairs : FsOk Try.prog 126 fs_clonePairs := fsOk_of tt_ok tabFs_nil mixed Try.func126 (by kernel_rfl) (by kernel_rfl) (by
    intro args LL p r HH h hp
    unfold fs_clonePairs at h
    dsimp only at h
    split at h
    case h_2 => cases h
    rename_i xs
    simp only [Option.some.injEq, Prod.mk.injEq] at h
    obtain ⟨rfl, rfl, rfl⟩ := h
    refine ⟨by simp [Form, stays], L0, ?_⟩
    rw [vc_clonePairs]
    try dsimp only
    have hb := hp _ rfl
    intro z hz
    refine ifB_of (fun c => ?_) (fun c => ⟨by simp only [room]; omega, ?_⟩)
    · have := List.length_eq_zero_iff.1 (hz c)
      subst this
      exact ⟨rfl, rfl⟩
    · simp)

noncomputable def fs_specCopyW : Fs := ⟨[], fun args H => match args, H with
  | [.agg [.int .i64 t, .int .i64 p, .vec 0, .vec 1]], [(false, .vec .body xs), (false, .vec .pair ps)] => some ((some (xs.length ≤ 1048576 ∧ ps.length ≤ 1048576)), .agg [.int .i64 t, .int .i64 p, .vec 2, .vec 3], [(false, .vec .body xs), (false, .vec .pair ps), (true, .vec .body xs), (true, .vec .pair ps)])
  | _, _ => none⟩

theorem vc_specCopyW (t : Int) (p : Int) (xs : List Body) (ps : List Pair) (Q : SV → List Ent → Prop) :
    fnVC tt (look [(99, fs_specCopyB)]) L0 Try.f68 [.agg [.int .i64 t, .int .i64 p, .vec 0, .vec 1]] [(false, .vec .body xs), (false, .vec .pair ps)] Q =
    (List.length xs ≤ (1048576 : Nat) ∧ ((0 : Nat) + List.length ps) * (16 : Nat) ≤ room ∧ Q (SV.agg [SV.int IntKind.i64 t, SV.int IntKind.i64 p, SV.vec (2 : Nat), SV.vec (3 : Nat)]) [(false, Blk.vec Ty.body xs), (false, Blk.vec Ty.pair ps), (true, Blk.vec Ty.body xs), (true, Blk.vec Ty.pair ([] ++ ps))]) := by kernel_rfl

theorem ok_specCopyW : FsOk Try.prog 68 fs_specCopyW := fsOk_of tt_ok (tabFs_cons ok_specCopyB tabFs_nil) mixed Try.func68 (by kernel_rfl) (by kernel_rfl) (by
    intro args LL p r HH h hp
    unfold fs_specCopyW at h
    dsimp only at h
    split at h
    case h_2 => cases h
    rename_i t p xs ps
    simp only [Option.some.injEq, Prod.mk.injEq] at h
    obtain ⟨rfl, rfl, rfl⟩ := h
    refine ⟨by simp [Form, stays], L0, ?_⟩
    rw [vc_specCopyW]
    try dsimp only
    obtain ⟨hb, hb2⟩ := hp _ rfl
    refine ⟨hb, by simp only [room]; omega, ?_⟩
    simp)

noncomputable def fs_implCopyW : Fs := ⟨[], fun args H => match args, H with
  | [.agg [.int .i64 t, .int .i64 p, .vec 0, .vec 1]], [(false, .vec .body xs), (false, .vec .pair ps)] => some ((some (xs.length ≤ 1048576 ∧ ps.length ≤ 1048576)), .agg [.int .i64 t, .int .i64 p, .vec 2, .vec 3], [(false, .vec .body xs), (false, .vec .pair ps), (true, .vec .body xs), (true, .vec .pair ps)])
  | _, _ => none⟩

theorem vc_implCopyW (t : Int) (p : Int) (xs : List Body) (ps : List Pair) (Q : SV → List Ent → Prop) :
    fnVC tt (look [(56, fs_cloneBodies), (126, fs_clonePairs)]) L0 Try.f70 [.agg [.int .i64 t, .int .i64 p, .vec 0, .vec 1]] [(false, .vec .body xs), (false, .vec .pair ps)] Q =
    (List.length xs ≤ (1048576 : Nat) ∧ List.length ps ≤ (1048576 : Nat) ∧ Q (SV.agg [SV.int IntKind.i64 t, SV.int IntKind.i64 p, SV.vec (2 : Nat), SV.vec (3 : Nat)]) [(false, Blk.vec Ty.body xs), (false, Blk.vec Ty.pair ps), (true, Blk.vec Ty.body xs), (true, Blk.vec Ty.pair ps)]) := by kernel_rfl

theorem ok_implCopyW : FsOk Try.prog 70 fs_implCopyW := fsOk_of tt_ok (tabFs_cons ok_cloneBodies (tabFs_cons ok_clonePairs tabFs_nil)) mixed Try.func70 (by kernel_rfl) (by kernel_rfl) (by
    intro args LL p r HH h hp
    unfold fs_implCopyW at h
    dsimp only at h
    split at h
    case h_2 => cases h
    rename_i t p xs ps
    simp only [Option.some.injEq, Prod.mk.injEq] at h
    obtain ⟨rfl, rfl, rfl⟩ := h
    refine ⟨by simp [Form, stays], L0, ?_⟩
    rw [vc_implCopyW]
    try dsimp only
    obtain ⟨hb, hb2⟩ := hp _ rfl
    exact ⟨hb, hb2, (by trivial), (by trivial)⟩)

/-! ### Pushed -/
def orI (ok : Bool) (n : Int) : Int := bif ok then n else 0
def orL {α : Type} (ok : Bool) (xs : List α) : List α := bif ok then xs else []
def pushCode (t p : Int) (xs : List Body) (ps : List Pair) (id : Int) (v : Vec) : Int := bif worldOk t p xs ps && driveOk v then bif hasB xs id then 0 else 4 else 1
def pushBodies (t p : Int) (xs : List Body) (ps : List Pair) (id : Int) (v : Vec) : List Body := bif driveOk v && hasB xs id then xs.set (atB xs id) (pushB (Ty.ix .body xs (atB xs id)) v) else xs
theorem length_orL {α : Type} (ok : Bool) (xs : List α) : (orL ok xs).length ≤ xs.length := by
  unfold orL
  cases ok <;> simp
theorem length_pushW (t p : Int) (xs : List Body) (ps : List Pair) (id : Int) (v : Vec) : (orL (worldOk t p xs ps) (pushBodies t p xs ps id v)).length ≤ xs.length := by
  refine Nat.le_trans (length_orL _ _) ?_
  unfold pushBodies
  cases driveOk v && hasB xs id <;> simp
theorem hasB_lt {xs : List Body} {id : Int} (h : hasB xs id = true) : atB xs id < xs.length := by
  simp only [hasB, Bool.and_eq_true, decide_eq_true_eq] at h
  exact h.1
noncomputable def fs_specWorldPush : Fs := ⟨[], fun args H => match args, H with
  | [.agg [.int .i64 t, .int .i64 p, .vec 0, .vec 1], .int .i64 id, .agg [.int .i64 vX, .int .i64 vY]], [(false, .vec .body xs), (false, .vec .pair ps)] => some ((some (xs.length ≤ 1048576 ∧ ps.length ≤ 1048576)), .tup [.agg [.int .i64 (orI (worldOk t p xs ps) t), .int .i64 (orI (worldOk t p xs ps) p), .vec 2, .vec 3], .int .i64 (pushCode t p xs ps id ⟨vX, vY⟩)], [(false, .vec .body xs), (false, .vec .pair ps), (true, .vec .body (orL (worldOk t p xs ps) (pushBodies t p xs ps id ⟨vX, vY⟩))), (true, .vec .pair (orL (worldOk t p xs ps) ps))])
  | _, _ => none⟩

theorem vc_specWorldPush (t : Int) (p : Int) (xs : List Body) (ps : List Pair) (id : Int) (vX : Int) (vY : Int) (Q : SV → List Ent → Prop) :
    fnVC tt (look [(61, fs_specWorldOk), (66, fs_l10At), (67, fs_l6Drive), (68, fs_specCopyW), (69, fs_specPushB)]) L0 Try.f28 [.agg [.int .i64 t, .int .i64 p, .vec 0, .vec 1], .int .i64 id, .agg [.int .i64 vX, .int .i64 vY]] [(false, .vec .body xs), (false, .vec .pair ps)] Q =
    ((List.length xs ≤ (1048576 : Nat) ∧ List.length ps ≤ (1048576 : Nat)) ∧ ifB (!worldOk t p xs ps) (Q (SV.tup [SV.agg [SV.int IntKind.i64 (0 : Int), SV.int IntKind.i64 (0 : Int), SV.vec (2 : Nat), SV.vec (3 : Nat)], SV.int IntKind.i64 (1 : Int)]) [(false, Blk.vec Ty.body xs), (false, Blk.vec Ty.pair ps), (true, Blk.vec Ty.body []), (true, Blk.vec Ty.pair [])]) (List.length xs ≤ (4611686018427387904 : Nat) ∧ ifB (!driveOk (Vec.mk vX vY)) ((List.length xs ≤ (1048576 : Nat) ∧ List.length ps ≤ (1048576 : Nat)) ∧ Q (SV.tup [SV.agg [SV.int IntKind.i64 t, SV.int IntKind.i64 p, SV.vec (2 : Nat), SV.vec (3 : Nat)], SV.int IntKind.i64 (1 : Int)]) [(false, Blk.vec Ty.body xs), (false, Blk.vec Ty.pair ps), (true, Blk.vec Ty.body xs), (true, Blk.vec Ty.pair ps)]) (ifB (!hasB xs id) ((List.length xs ≤ (1048576 : Nat) ∧ List.length ps ≤ (1048576 : Nat)) ∧ Q (SV.tup [SV.agg [SV.int IntKind.i64 t, SV.int IntKind.i64 p, SV.vec (2 : Nat), SV.vec (3 : Nat)], SV.int IntKind.i64 (4 : Int)]) [(false, Blk.vec Ty.body xs), (false, Blk.vec Ty.pair ps), (true, Blk.vec Ty.body xs), (true, Blk.vec Ty.pair ps)]) ((List.length xs ≤ (1048576 : Nat) ∧ List.length ps ≤ (1048576 : Nat)) ∧ ((0 : Int) ≤ (↑(atB xs id) : Int) ∧ (↑(atB xs id) : Int) < (↑(List.length xs) : Int)) ∧ ((0 : Int) ≤ (↑(atB xs id) : Int) ∧ (↑(atB xs id) : Int) < (↑(List.length xs) : Int)) ∧ Q (SV.tup [SV.agg [SV.int IntKind.i64 t, SV.int IntKind.i64 p, SV.vec (2 : Nat), SV.vec (3 : Nat)], SV.int IntKind.i64 (0 : Int)]) [(false, Blk.vec Ty.body xs), (false, Blk.vec Ty.pair ps), (true, Blk.vec Ty.body (List.set xs (Int.toNat (↑(atB xs id) : Int)) (pushB (Ty.ix Ty.body xs (Int.toNat (↑(atB xs id) : Int))) (Vec.mk vX vY)))), (true, Blk.vec Ty.pair ps)])))) := by kernel_rfl

theorem ok_specWorldPush : FsOk Try.prog 28 fs_specWorldPush := fsOk_of tt_ok (tabFs_cons ok_specWorldOk (tabFs_cons ok_l10At (tabFs_cons ok_l6Drive (tabFs_cons ok_specCopyW (tabFs_cons ok_specPushB tabFs_nil))))) mixed Try.func28 (by kernel_rfl) (by kernel_rfl) (by
    intro args LL p r HH h hp
    unfold fs_specWorldPush at h
    dsimp only at h
    split at h
    case h_2 => cases h
    rename_i t p id vX vY xs ps
    simp only [Option.some.injEq, Prod.mk.injEq] at h
    obtain ⟨rfl, rfl, rfl⟩ := h
    refine ⟨by simp [Form, stays], L0, ?_⟩
    rw [vc_specWorldPush]
    try dsimp only
    obtain ⟨hb, hb2⟩ := hp _ rfl
    refine ⟨⟨hb, hb2⟩, ifB_of (fun c => ?_) (fun c => ⟨by omega, ifB_of (fun c2 => ⟨⟨hb, hb2⟩, ?_⟩) (fun c2 => ifB_of (fun c3 => ⟨⟨hb, hb2⟩, ?_⟩) (fun c3 => ⟨⟨hb, hb2⟩, ⟨by omega, ?_⟩, ⟨by omega, ?_⟩, ?_⟩))⟩)⟩
    · simp [orI, orL, pushCode, pushBodies, not_true c]
    · simp [orI, orL, pushCode, pushBodies, not_false c, not_true c2]
    · simp [orI, orL, pushCode, pushBodies, not_false c, not_false c2, not_true c3]
    · have := hasB_lt (not_false c3); omega
    · have := hasB_lt (not_false c3); omega
    · simp [orI, orL, pushCode, pushBodies, not_false c, not_false c2, not_false c3])

noncomputable def fs_implWorldPush : Fs := ⟨[], fun args H => match args, H with
  | [.agg [.int .i64 t, .int .i64 p, .vec 0, .vec 1], .int .i64 id, .agg [.int .i64 vX, .int .i64 vY]], [(false, .vec .body xs), (false, .vec .pair ps)] => some ((some (xs.length ≤ 1048576 ∧ ps.length ≤ 1048576)), .tup [.agg [.int .i64 (orI (worldOk t p xs ps) t), .int .i64 (orI (worldOk t p xs ps) p), .vec 2, .vec 3], .int .i64 (pushCode t p xs ps id ⟨vX, vY⟩)], [(false, .vec .body xs), (false, .vec .pair ps), (true, .vec .body (orL (worldOk t p xs ps) (pushBodies t p xs ps id ⟨vX, vY⟩))), (true, .vec .pair (orL (worldOk t p xs ps) ps))])
  | _, _ => none⟩

theorem vc_implWorldPush (t : Int) (p : Int) (xs : List Body) (ps : List Pair) (id : Int) (vX : Int) (vY : Int) (Q : SV → List Ent → Prop) :
    fnVC tt (look [(50, fs_implWorldOk), (70, fs_implCopyW), (71, fs_place), (72, fs_isDrive), (73, fs_implPushB)]) L0 Try.f30 [.agg [.int .i64 t, .int .i64 p, .vec 0, .vec 1], .int .i64 id, .agg [.int .i64 vX, .int .i64 vY]] [(false, .vec .body xs), (false, .vec .pair ps)] Q =
    ((List.length xs ≤ (1048576 : Nat) ∧ List.length ps ≤ (1048576 : Nat)) ∧ ifB (!worldOk t p xs ps) (Q (SV.tup [SV.agg [SV.int IntKind.i64 (0 : Int), SV.int IntKind.i64 (0 : Int), SV.vec (2 : Nat), SV.vec (3 : Nat)], SV.int IntKind.i64 (1 : Int)]) [(false, Blk.vec Ty.body xs), (false, Blk.vec Ty.pair ps), (true, Blk.vec Ty.body []), (true, Blk.vec Ty.pair [])]) ((List.length xs ≤ (1048576 : Nat) ∧ List.length ps ≤ (1048576 : Nat)) ∧ List.length xs ≤ (4611686018427387904 : Nat) ∧ ifB (!driveOk (Vec.mk vX vY)) (Q (SV.tup [SV.agg [SV.int IntKind.i64 t, SV.int IntKind.i64 p, SV.vec (2 : Nat), SV.vec (3 : Nat)], SV.int IntKind.i64 (1 : Int)]) [(false, Blk.vec Ty.body xs), (false, Blk.vec Ty.pair ps), (true, Blk.vec Ty.body xs), (true, Blk.vec Ty.pair ps)]) (ifB (!hasB xs id) (Q (SV.tup [SV.agg [SV.int IntKind.i64 t, SV.int IntKind.i64 p, SV.vec (2 : Nat), SV.vec (3 : Nat)], SV.int IntKind.i64 (4 : Int)]) [(false, Blk.vec Ty.body xs), (false, Blk.vec Ty.pair ps), (true, Blk.vec Ty.body xs), (true, Blk.vec Ty.pair ps)]) (((0 : Int) ≤ (↑(atB xs id) : Int) ∧ (↑(atB xs id) : Int) < (↑(List.length xs) : Int)) ∧ Int.toNat (↑(atB xs id) : Int) < List.length xs ∧ Q (SV.tup [SV.agg [SV.int IntKind.i64 t, SV.int IntKind.i64 p, SV.vec (2 : Nat), SV.vec (3 : Nat)], SV.int IntKind.i64 (0 : Int)]) [(false, Blk.vec Ty.body xs), (false, Blk.vec Ty.pair ps), (true, Blk.vec Ty.body (List.set xs (Int.toNat (↑(atB xs id) : Int)) (pushB (Ty.ix Ty.body xs (Int.toNat (↑(atB xs id) : Int))) (Vec.mk vX vY)))), (true, Blk.vec Ty.pair ps)])))) := by kernel_rfl

theorem ok_implWorldPush : FsOk Try.prog 30 fs_implWorldPush := fsOk_of tt_ok (tabFs_cons ok_implWorldOk (tabFs_cons ok_implCopyW (tabFs_cons ok_place (tabFs_cons ok_isDrive (tabFs_cons ok_implPushB tabFs_nil))))) mixed Try.func30 (by kernel_rfl) (by kernel_rfl) (by
    intro args LL p r HH h hp
    unfold fs_implWorldPush at h
    dsimp only at h
    split at h
    case h_2 => cases h
    rename_i t p id vX vY xs ps
    simp only [Option.some.injEq, Prod.mk.injEq] at h
    obtain ⟨rfl, rfl, rfl⟩ := h
    refine ⟨by simp [Form, stays], L0, ?_⟩
    rw [vc_implWorldPush]
    try dsimp only
    obtain ⟨hb, hb2⟩ := hp _ rfl
    refine ⟨⟨hb, hb2⟩, ifB_of (fun c => ?_) (fun c => ⟨⟨hb, hb2⟩, by omega, ifB_of (fun c2 => ?_) (fun c2 => ifB_of (fun c3 => ?_) (fun c3 => ⟨⟨by omega, ?_⟩, ?_, ?_⟩))⟩)⟩
    · simp [orI, orL, pushCode, pushBodies, not_true c]
    · simp [orI, orL, pushCode, pushBodies, not_false c, not_true c2]
    · simp [orI, orL, pushCode, pushBodies, not_false c, not_false c2, not_true c3]
    · have := hasB_lt (not_false c3); omega
    · have := hasB_lt (not_false c3); omega
    · simp [orI, orL, pushCode, pushBodies, not_false c, not_false c2, not_false c3])

noncomputable def fs_lawExactWorldRay : Fs := ⟨[], fun args H => match args, H with
  | [.agg [.int .i64 t, .int .i64 p, .vec 0, .vec 1], .agg [.int .i64 rA, .int .i64 rB, .int .i64 rC, .int .i64 rD]], [(false, .vec .body xs), (false, .vec .pair ps)] => some ((some (LOk .body xs ∧ LOk .pair ps)), .bool true, [(false, .vec .body xs), (false, .vec .pair ps)])
  | _, _ => none⟩

theorem vc_lawExactWorldRay (t : Int) (p : Int) (xs : List Body) (ps : List Pair) (rA : Int) (rB : Int) (rC : Int) (rD : Int) (Q : SV → List Ent → Prop) :
    fnVC tt (look [(22, fs_szWorld), (24, fs_toWorld), (25, fs_lawsToRay), (23, fs_specWorldRay), (26, fs_implWorldRay), (27, fs_lawsEqWorld), (31, fs_lawsMarkWorld)]) L0 Try.f4 [.agg [.int .i64 t, .int .i64 p, .vec 0, .vec 1], .agg [.int .i64 rA, .int .i64 rB, .int .i64 rC, .int .i64 rD]] [(false, .vec .body xs), (false, .vec .pair ps)] Q =
    (ifB (decide (szW (1048576 : Int) (List.length xs) (List.length ps) < (0 : Int))) (Q (SV.bool true) [(false, Blk.vec Ty.body xs), (false, Blk.vec Ty.pair ps)]) ((List.length xs ≤ (1048576 : Nat) ∧ List.length ps ≤ (1048576 : Nat)) ∧ (List.length xs ≤ (1048576 : Nat) ∧ List.length ps ≤ (1048576 : Nat)) ∧ (List.length xs ≤ (1048576 : Nat) ∧ List.length ps ≤ (1048576 : Nat)) ∧ (List.length xs ≤ (1048576 : Nat) ∧ List.length ps ≤ (1048576 : Nat)) ∧ ifB (Prod.fst (worldRay t p xs ps (Ray.mk (Vec.mk rA rB) (Vec.mk rC rD))) != Prod.fst (worldRay t p xs ps (Ray.mk (Vec.mk rA rB) (Vec.mk rC rD)))) (Q (SV.bool false) [(false, Blk.vec Ty.body xs), (false, Blk.vec Ty.pair ps)]) (ifB (Prod.snd (worldRay t p xs ps (Ray.mk (Vec.mk rA rB) (Vec.mk rC rD))) != Prod.snd (worldRay t p xs ps (Ray.mk (Vec.mk rA rB) (Vec.mk rC rD)))) (Q (SV.bool false) [(false, Blk.vec Ty.body xs), (false, Blk.vec Ty.pair ps)]) ((List.length xs ≤ (1048576 : Nat) ∧ List.length ps ≤ (1048576 : Nat)) ∧ (List.length xs ≤ (4611686018427387904 : Nat) ∧ List.length ps ≤ (4611686018427387904 : Nat)) ∧ ifB (!eqW4 t p xs ps t p xs ps) (Q (SV.bool false) [(false, Blk.vec Ty.body xs), (false, Blk.vec Ty.pair ps)]) (Q (SV.bool true) [(false, Blk.vec Ty.body xs), (false, Blk.vec Ty.pair ps)]))))) := by kernel_rfl

theorem ok_lawExactWorldRay : FsOk Try.prog 4 fs_lawExactWorldRay := fsOk_of tt_ok (tabFs_cons ok_szWorld (tabFs_cons ok_toWorld (tabFs_cons ok_lawsToRay (tabFs_cons ok_specWorldRay (tabFs_cons ok_implWorldRay (tabFs_cons ok_lawsEqWorld (tabFs_cons ok_lawsMarkWorld tabFs_nil))))))) mixed Try.func4 (by kernel_rfl) (by kernel_rfl) (by
    intro args LL p r HH h hp
    unfold fs_lawExactWorldRay at h
    dsimp only at h
    split at h
    case h_2 => cases h
    rename_i t p rA rB rC rD xs ps
    simp only [Option.some.injEq, Prod.mk.injEq] at h
    obtain ⟨rfl, rfl, rfl⟩ := h
    refine ⟨by simp [Form, stays], L0, ?_⟩
    rw [vc_lawExactWorldRay]
    try dsimp only
    obtain ⟨⟨hb, _⟩, hb2, _⟩ := hp _ rfl
    refine ifB_of (fun c => ⟨rfl, rfl⟩) (fun c => ?_)
    obtain ⟨k1, k2⟩ := szW_le c hb hb2
    simp only [eqW4_self]

    simp only [same_self, length_gen, Bool.not_true, beq_self_eq_true, cond_true, bne_self_eq_false, ifB]
    repeat' (first | refine pre_of ?_ (fun _ => ?_) | refine ifB_of (fun c => ?_) (fun c => ?_) | fail)
    all_goals first
      | omega
      | trivial
      | (rename_i c; have c := of_decide_eq_true c; omega))

noncomputable def fs_lawExactWorldPush : Fs := ⟨[], fun args H => match args, H with
  | [.agg [.int .i64 t, .int .i64 p, .vec 0, .vec 1], .int .i64 id, .agg [.int .i64 vX, .int .i64 vY]], [(false, .vec .body xs), (false, .vec .pair ps)] => some ((some (LOk .body xs ∧ LOk .pair ps)), .bool true, [(false, .vec .body xs), (false, .vec .pair ps)])
  | _, _ => none⟩

theorem vc_lawExactWorldPush (t : Int) (p : Int) (xs : List Body) (ps : List Pair) (id : Int) (vX : Int) (vY : Int) (Q : SV → List Ent → Prop) :
    fnVC tt (look [(22, fs_szWorld), (24, fs_toWorld), (29, fs_lawsToVec), (28, fs_specWorldPush), (30, fs_implWorldPush), (27, fs_lawsEqWorld), (31, fs_lawsMarkWorld), (32, fs_lawsHeldWorld)]) L0 Try.f5 [.agg [.int .i64 t, .int .i64 p, .vec 0, .vec 1], .int .i64 id, .agg [.int .i64 vX, .int .i64 vY]] [(false, .vec .body xs), (false, .vec .pair ps)] Q =
    (let A4_ := (false, Blk.vec Ty.pair ps); let A3_ := (false, Blk.vec Ty.body xs); let A2_ := (orL (worldOk t p xs ps) ps); let A1_ := (orL (worldOk t p xs ps) (pushBodies t p xs ps id (Vec.mk vX vY))); let A5_ := (!eqW4 (orI (worldOk t p xs ps) t) (orI (worldOk t p xs ps) p) A1_ A2_ (orI (worldOk t p xs ps) t) (orI (worldOk t p xs ps) p) A1_ A2_); ifB (decide (szW (1048576 : Int) (List.length xs) (List.length ps) < (0 : Int))) (Q (SV.bool true) [A3_, A4_]) ((List.length xs ≤ (1048576 : Nat) ∧ List.length ps ≤ (1048576 : Nat)) ∧ (List.length xs ≤ (1048576 : Nat) ∧ List.length ps ≤ (1048576 : Nat)) ∧ (List.length xs ≤ (1048576 : Nat) ∧ List.length ps ≤ (1048576 : Nat)) ∧ (List.length xs ≤ (1048576 : Nat) ∧ List.length ps ≤ (1048576 : Nat)) ∧ (List.length A1_ ≤ (4611686018427387904 : Nat) ∧ List.length A2_ ≤ (4611686018427387904 : Nat)) ∧ ifB A5_ (Q (SV.bool false) [A3_, A4_]) (ifB (pushCode t p xs ps id (Vec.mk vX vY) != pushCode t p xs ps id (Vec.mk vX vY)) (Q (SV.bool false) [A3_, A4_]) ((List.length xs ≤ (1048576 : Nat) ∧ List.length ps ≤ (1048576 : Nat)) ∧ (List.length xs ≤ (4611686018427387904 : Nat) ∧ List.length ps ≤ (4611686018427387904 : Nat)) ∧ ifB (!eqW4 t p xs ps t p xs ps) (Q (SV.bool false) [A3_, A4_]) ((List.length xs ≤ (1048576 : Nat) ∧ List.length ps ≤ (1048576 : Nat) ∧ (0 : Int) ≤ (1 : Int) ∧ (1 : Int) ≤ (10000000000 : Int)) ∧ (List.length A1_ ≤ (4611686018427387904 : Nat) ∧ List.length A2_ ≤ (4611686018427387904 : Nat)) ∧ ifB A5_ (Q (SV.bool false) [A3_, A4_]) (ifB (pushCode t p xs ps id (Vec.mk vX vY) != pushCode t p xs ps id (Vec.mk vX vY)) (Q (SV.bool false) [A3_, A4_]) ((List.length A1_ ≤ (1048576 : Nat) ∧ List.length A2_ ≤ (1048576 : Nat) ∧ (0 : Int) ≤ (1 : Int) ∧ (1 : Int) ≤ (10000000000 : Int)) ∧ (List.length (gen (fun e => mkBody ((1 : Int) + (12 : Int) * (↑e : Int))) (List.length A1_)) ≤ (1048576 : Nat) ∧ List.length (gen (fun e => mkPair ((1 : Int) + (12 : Int) * (↑(List.length A1_) : Int) + (2 : Int) * (↑e : Int))) (List.length A2_)) ≤ (1048576 : Nat) ∧ (0 : Int) ≤ (1 : Int) ∧ (1 : Int) ≤ (10000000000 : Int)) ∧ ifB (decide (heldW (1 : Int) (gen (fun e => mkBody ((1 : Int) + (12 : Int) * (↑e : Int))) (List.length A1_)) (gen (fun e => mkPair ((1 : Int) + (12 : Int) * (↑(List.length A1_) : Int) + (2 : Int) * (↑e : Int))) (List.length A2_)) < (0 : Int))) (Q (SV.bool false) [A3_, A4_]) (ifB (heldW (1 : Int) (gen (fun e => mkBody ((1 : Int) + (12 : Int) * (↑e : Int))) (List.length A1_)) (gen (fun e => mkPair ((1 : Int) + (12 : Int) * (↑(List.length A1_) : Int) + (2 : Int) * (↑e : Int))) (List.length A2_)) != (1 : Int) + (12 : Int) * (↑(List.length A1_) : Int) + (2 : Int) * (↑(List.length A2_) : Int)) (Q (SV.bool false) [A3_, A4_]) ((List.length xs ≤ (1048576 : Nat) ∧ List.length ps ≤ (1048576 : Nat)) ∧ (List.length xs ≤ (1048576 : Nat) ∧ List.length ps ≤ (1048576 : Nat)) ∧ (List.length A1_ ≤ (4611686018427387904 : Nat) ∧ List.length A2_ ≤ (4611686018427387904 : Nat)) ∧ ifB A5_ (Q (SV.bool false) [A3_, A4_]) (ifB (pushCode t p xs ps id (Vec.mk vX vY) != pushCode t p xs ps id (Vec.mk vX vY)) (Q (SV.bool false) [A3_, A4_]) ((List.length (gen (fun e => mkBody ((1 : Int) + (12 : Int) * (↑e : Int))) (List.length A1_)) ≤ (1048576 : Nat) ∧ List.length (gen (fun e => mkPair ((1 : Int) + (12 : Int) * (↑(List.length A1_) : Int) + (2 : Int) * (↑e : Int))) (List.length A2_)) ≤ (1048576 : Nat) ∧ (0 : Int) ≤ (1 : Int) ∧ (1 : Int) ≤ (10000000000 : Int)) ∧ ifB (decide (heldW (1 : Int) (gen (fun e => mkBody ((1 : Int) + (12 : Int) * (↑e : Int))) (List.length A1_)) (gen (fun e => mkPair ((1 : Int) + (12 : Int) * (↑(List.length A1_) : Int) + (2 : Int) * (↑e : Int))) (List.length A2_)) < (0 : Int))) (Q (SV.bool false) [A3_, A4_]) (ifB (heldW (1 : Int) (gen (fun e => mkBody ((1 : Int) + (12 : Int) * (↑e : Int))) (List.length A1_)) (gen (fun e => mkPair ((1 : Int) + (12 : Int) * (↑(List.length A1_) : Int) + (2 : Int) * (↑e : Int))) (List.length A2_)) != (1 : Int) + (12 : Int) * (↑(List.length A1_) : Int) + (2 : Int) * (↑(List.length A2_) : Int)) (Q (SV.bool false) [A3_, A4_]) (Q (SV.bool true) [A3_, A4_]))))))))))))) := by kernel_rfl

theorem ok_lawExactWorldPush : FsOk Try.prog 5 fs_lawExactWorldPush := fsOk_of tt_ok (tabFs_cons ok_szWorld (tabFs_cons ok_toWorld (tabFs_cons ok_lawsToVec (tabFs_cons ok_specWorldPush (tabFs_cons ok_implWorldPush (tabFs_cons ok_lawsEqWorld (tabFs_cons ok_lawsMarkWorld (tabFs_cons ok_lawsHeldWorld tabFs_nil)))))))) mixed Try.func5 (by kernel_rfl) (by kernel_rfl) (by
    intro args LL p r HH h hp
    unfold fs_lawExactWorldPush at h
    dsimp only at h
    split at h
    case h_2 => cases h
    rename_i t p id vX vY xs ps
    simp only [Option.some.injEq, Prod.mk.injEq] at h
    obtain ⟨rfl, rfl, rfl⟩ := h
    refine ⟨by simp [Form, stays], L0, ?_⟩
    rw [vc_lawExactWorldPush]
    try dsimp only
    obtain ⟨⟨hb, _⟩, hb2, _⟩ := hp _ rfl
    refine ifB_of (fun c => ⟨rfl, rfl⟩) (fun c => ?_)
    obtain ⟨k1, k2⟩ := szW_le c hb hb2
    have h1 := length_pushW t p xs ps id ⟨vX, vY⟩
    have h2 := length_orL (worldOk t p xs ps) ps
    have hh := heldW_marked (k := 1) (m := (orL (worldOk t p xs ps) (pushBodies t p xs ps id ⟨vX, vY⟩)).length) (n := (orL (worldOk t p xs ps) ps).length)
    simp only [eqW4_self, hh]

    simp only [same_self, length_gen, Bool.not_true, beq_self_eq_true, cond_true, bne_self_eq_false, ifB]
    repeat' (first | refine pre_of ?_ (fun _ => ?_) | refine ifB_of (fun c => ?_) (fun c => ?_) | fail)
    all_goals first
      | omega
      | trivial
      | (rename_i c; have c := of_decide_eq_true c; omega))

end Go.Proofs.Ythkdelepjndacaa.Sym
