/-
  Worlds: what is at a place, what is in a box.
  No condition.
-/
import Derived.Test.YtgdpaijphaeimaaG6
namespace Go.Proofs.Ytgdpaijphaeimaa.Sym
open Go
set_option linter.unusedVariables false
set_option linter.unusedSimpArgs false
set_option maxRecDepth 100000

def idsF (f : Body → Bool) (xs : List Body) : List Int := (xs.filter f).map (·.Id)
theorem length_idsF (f : Body → Bool) (xs : List Body) : (idsF f xs).length ≤ xs.length := by
  simp only [idsF, List.length_map]
  exact List.length_filter_le _ _
theorem idsF_drop {f : Body → Bool} {xs : List Body} {i : Nat} (h : i < xs.length) : idsF f (xs.drop i) = (bif f (Ty.ix .body xs i) then [(Ty.ix .body xs i).Id] else []) ++ idsF f (xs.drop (i + 1)) := by
  rw [drop_ix (T := .body) h]
  cases c : f (Ty.ix .body xs i) <;> simp [idsF, c]
theorem idsF_congr {f g : Body → Bool} {xs : List Body} (h : ∀ k, k < xs.length → f (Ty.ix .body xs k) = g (Ty.ix .body xs k)) : idsF f xs = idsF g xs := by
  unfold idsF
  congr 1
  refine List.filter_congr fun x hx => ?_
  obtain ⟨i, hi, e⟩ := List.mem_iff_getElem.1 hx
  have := h i hi
  rwa [ix_eq (T := .body) (List.getElem?_eq_getElem hi), e] at this
theorem worldOk_bodies {t p : Int} {xs : List Body} {ps : List Pair} (h : worldOk t p xs ps = true) : bodiesOk xs = true := by
  simp only [worldOk, Bool.and_eq_true] at h
  exact h.1.2
theorem bodyOk_shape {b : Body} (h : bodyOk b = true) : shapeOk b.Shape = true ∧ placeOk b.At = true := by
  simp only [bodyOk, Bool.and_eq_true] at h
  simp only [h, and_self]
/-! ### At a place -/
def pointB (q : Vec) (y : Body) : Bool := shapeHas y.Shape y.At q
def pointA (q : Vec) (y : Body) : Bool := shapeOk y.Shape && placeOk y.At && placeOk q && shapeHas y.Shape y.At q
noncomputable def fs_implShapeHas : Fs := ⟨[], fun args H => match args, H with
  | [.agg [.int .i64 sK, .int .i64 sW, .int .i64 sH], .agg [.int .i64 pX, .int .i64 pY], .agg [.int .i64 qX, .int .i64 qY]], [] => some (none, .bool (shapeOk (Shape.mk sK sW sH) && placeOk (Vec.mk pX pY) && placeOk (Vec.mk qX qY) && shapeHas (Shape.mk sK sW sH) (Vec.mk pX pY) (Vec.mk qX qY)), [])
  | _, _ => none⟩

theorem vc_implShapeHas (sK : Int) (sW : Int) (sH : Int) (pX : Int) (pY : Int) (qX : Int) (qY : Int) (Q : SV → List Ent → Prop) :
    fnVC tt (look [(92, fs_implShapeOk), (93, fs_isPlace), (103, fs_vecMinus), (155, fs_vecSquare), (96, fs_implBounds), (186, fs_implHasPoint)]) L0 Try.f143 [.agg [.int .i64 sK, .int .i64 sW, .int .i64 sH], .agg [.int .i64 pX, .int .i64 pY], .agg [.int .i64 qX, .int .i64 qY]] [] Q =
    (ifB (!shapeOk (Shape.mk sK sW sH)) (Q (SV.bool false) []) (ifB (!placeOk (Vec.mk pX pY)) (Q (SV.bool false) []) (ifB (!placeOk (Vec.mk qX qY)) (Q (SV.bool false) []) (ifB (sK == (1 : Int)) (Q (SV.bool (decide (square (minus (Vec.mk qX qY) (Vec.mk pX pY)) ≤ IntKind.wrap IntKind.i64 (sW * sW)))) []) (Q (SV.bool (hasPoint (bounds (Shape.mk sK sW sH) (Vec.mk pX pY)) (Vec.mk qX qY))) []))))) := by kernel_rfl

theorem ok_implShapeHas : FsOk Try.prog 143 fs_implShapeHas := fsOk_of tt_ok (tabFs_cons ok_implShapeOk (tabFs_cons ok_isPlace (tabFs_cons ok_vecMinus (tabFs_cons ok_vecSquare (tabFs_cons ok_implBounds (tabFs_cons ok_implHasPoint tabFs_nil)))))) mixed Try.func143 (by kernel_rfl) (by kernel_rfl) (by
    intro args LL p r HH h hp
    unfold fs_implShapeHas at h
    dsimp only at h
    split at h
    case h_2 => cases h
    rename_i sK sW sH pX pY qX qY
    simp only [Option.some.injEq, Prod.mk.injEq] at h
    obtain ⟨rfl, rfl, rfl⟩ := h
    refine ⟨by simp [Form, stays], L0, ?_⟩
    rw [vc_implShapeHas]
    try dsimp only
    refine ifB_of (fun c => ?_) (fun c => ifB_of (fun c2 => ?_) (fun c2 => ifB_of (fun c3 => ?_) (fun c3 => ifB_of (fun c4 => ?_) (fun c4 => ?_))))
    · simp [not_true c]
    · simp [not_true c2]
    · simp [not_true c3]
    · have : sK = 1 := by simpa using c4
      subst this
      simp [not_false c, not_false c2, not_false c3, shapeHas, W]
    · have h1 : ¬ sK = 1 := by simpa using c4
      have h2 : sK = 2 := by
        have := not_false c
        simp only [shapeOk, h1, if_false] at this
        by_cases h : sK = 2
        · exact h
        · simp [h] at this
      subst h2
      simp [not_false c, not_false c2, not_false c3, shapeHas])

theorem idsAt_same {t p : Int} {xs : List Body} {ps : List Pair} {q : Vec} (h : worldOk t p xs ps = true) (hq : placeOk q = true) : idsF (pointA q) xs = idsF (pointB q) xs :=
  idsF_congr fun k hk => by
    obtain ⟨h1, h2⟩ := bodyOk_shape (bodiesOk_each (worldOk_bodies h) hk)
    simp [pointA, pointB, h1, h2, hq]
noncomputable def fs_holdsAt : Fs := ⟨[], fun args H => match args, H with
  | [.agg [.int .i64 aI, .int .i64 aK, .int .i64 aW, .int .i64 aH, .int .i64 aX, .int .i64 aY, .int .i64 aU, .int .i64 aV, .int .i64 aM, .int .i64 aB, .int .i64 aR, .int .i64 aQ], .ptr 0 0 0], [(true, .box [.int .i64 qX, .int .i64 qY])] => some (none, .bool (shapeOk ⟨aK, aW, aH⟩ && placeOk ⟨aX, aY⟩ && placeOk ⟨qX, qY⟩ && shapeHas ⟨aK, aW, aH⟩ ⟨aX, aY⟩ ⟨qX, qY⟩), [(true, .box [.int .i64 qX, .int .i64 qY])])
  | _, _ => none⟩

theorem vc_holdsAt (aI : Int) (aK : Int) (aW : Int) (aH : Int) (aX : Int) (aY : Int) (aU : Int) (aV : Int) (aM : Int) (aB : Int) (aR : Int) (aQ : Int) (qX : Int) (qY : Int) (Q : SV → List Ent → Prop) :
    fnVC tt (look [(143, fs_implShapeHas)]) L0 Try.f142 [.agg [.int .i64 aI, .int .i64 aK, .int .i64 aW, .int .i64 aH, .int .i64 aX, .int .i64 aY, .int .i64 aU, .int .i64 aV, .int .i64 aM, .int .i64 aB, .int .i64 aR, .int .i64 aQ], .ptr 0 0 0] [(true, .box [.int .i64 qX, .int .i64 qY])] Q =
    (Q (SV.bool (shapeOk (Shape.mk aK aW aH) && placeOk (Vec.mk aX aY) && placeOk (Vec.mk qX qY) && shapeHas (Shape.mk aK aW aH) (Vec.mk aX aY) (Vec.mk qX qY))) [(true, Blk.box [SV.int IntKind.i64 qX, SV.int IntKind.i64 qY])]) := by kernel_rfl

theorem ok_holdsAt : FsOk Try.prog 142 fs_holdsAt := fsOk_of tt_ok (tabFs_cons ok_implShapeHas tabFs_nil) mixed Try.func142 (by kernel_rfl) (by kernel_rfl) (by
    intro args LL p r HH h hp
    unfold fs_holdsAt at h
    dsimp only at h
    split at h
    case h_2 => cases h
    rename_i aI aK aW aH aX aY aU aV aM aB aR aQ qX qY
    simp only [Option.some.injEq, Prod.mk.injEq] at h
    obtain ⟨rfl, rfl, rfl⟩ := h
    refine ⟨by simp [Form, stays], L0, ?_⟩
    rw [vc_holdsAt]
    try dsimp only
    exact ⟨rfl, rfl⟩)

def LSidsAt  : LS where
  S := List Body × List Pair × Vec × Unit × List Int × Unit × Int × Int
  live := [(1, [none]), (5, [some .int]), (9, [none]), (10, [none]), (11, [none])]
  shape := fun s => ([.fn 142 (some 2), .vec 3, .vec 0, .int .i64 s.2.2.2.2.2.2.1, .int .i64 s.2.2.2.2.2.2.2], [(false, .vec .body s.1), (false, .vec .pair s.2.1), (true, .box [.int .i64 s.2.2.1.X, .int .i64 s.2.2.1.Y]), (true, .vec .int s.2.2.2.2.1)])
  get := fun v h => match v, h with
    | [.fn 142 (some 2), .vec 3, .vec 0, .int .i64 n, .int .i64 i], [(false, .vec .body xs), (false, .vec .pair ps), (true, .box [.int .i64 qX, .int .i64 qY]), (true, .vec .int out)] => some (xs, ps, (Vec.mk qX qY), (), out, (), n, i)
    | _, _ => none
  inv := fun s0 s => Holds (s.1 = s0.1 ∧ s.2.1 = s0.2.1 ∧ s.2.2.1 = s0.2.2.1 ∧ s.2.2.2.2.2.2.1 = s0.1.length ∧ 0 ≤ s.2.2.2.2.2.2.2 ∧ s.2.2.2.2.2.2.2 ≤ s0.1.length ∧ s.2.2.2.2.1 ++ idsF (pointA s0.2.2.1) (s0.1.drop s.2.2.2.2.2.2.2.toNat) = idsF (pointA s0.2.2.1) s0.1)
  mu := fun s => ((s.1.length : Int) - s.2.2.2.2.2.2.2).toNat
  ok := by
    intro v h s hg
    try dsimp only at hg
    split at hg <;> cases hg
    rfl

def L_idsAt : Loops := fun n => match n with
  | 3 => some LSidsAt
  | _ => none
noncomputable def fs_idsAt : Fs := ⟨[], fun args H => match args, H with
  | [.agg [.int .i64 t, .int .i64 p, .vec 0, .vec 1], .fn 142 (some 2)], [(false, .vec .body xs), (false, .vec .pair ps), (true, .box [.int .i64 qX, .int .i64 qY])] => some ((some (xs.length ≤ 1048576)), .vec 3, [(false, .vec .body xs), (false, .vec .pair ps), (true, .box [.int .i64 qX, .int .i64 qY]), (true, .vec .int (idsF (pointA ⟨qX, qY⟩) xs))])
  | _, _ => none⟩

theorem vc_idsAt (t : Int) (p : Int) (xs : List Body) (ps : List Pair) (qX : Int) (qY : Int) (Q : SV → List Ent → Prop) :
    fnVC tt (look [(142, fs_holdsAt)]) (L_idsAt) Try.f138 [.agg [.int .i64 t, .int .i64 p, .vec 0, .vec 1], .fn 142 (some 2)] [(false, .vec .body xs), (false, .vec .pair ps), (true, .box [.int .i64 qX, .int .i64 qY])] Q =
    (Holds (xs = xs ∧ ps = ps ∧ Vec.mk qX qY = Vec.mk qX qY ∧ (↑(List.length xs) : Int) = (↑(List.length xs) : Int) ∧ (0 : Int) ≤ (0 : Int) ∧ (0 : Int) ≤ (↑(List.length xs) : Int) ∧ [] ++ idsF (pointA (Vec.mk qX qY)) (List.drop (Int.toNat (0 : Int)) xs) = idsF (pointA (Vec.mk qX qY)) xs) ∧ ∀ (x : List Body × List Pair × Vec × Unit × List Int × Unit × Int × Int), Holds (Prod.fst x = xs ∧ Prod.fst (Prod.snd x) = ps ∧ Prod.fst (Prod.snd (Prod.snd x)) = Vec.mk qX qY ∧ Prod.fst (Prod.snd (Prod.snd (Prod.snd (Prod.snd (Prod.snd (Prod.snd x)))))) = (↑(List.length xs) : Int) ∧ (0 : Int) ≤ Prod.snd (Prod.snd (Prod.snd (Prod.snd (Prod.snd (Prod.snd (Prod.snd x)))))) ∧ Prod.snd (Prod.snd (Prod.snd (Prod.snd (Prod.snd (Prod.snd (Prod.snd x)))))) ≤ (↑(List.length xs) : Int) ∧ Prod.fst (Prod.snd (Prod.snd (Prod.snd (Prod.snd x)))) ++ idsF (pointA (Vec.mk qX qY)) (List.drop (Int.toNat (Prod.snd (Prod.snd (Prod.snd (Prod.snd (Prod.snd (Prod.snd (Prod.snd x)))))))) xs) = idsF (pointA (Vec.mk qX qY)) xs) → ifB (decide (Prod.snd (Prod.snd (Prod.snd (Prod.snd (Prod.snd (Prod.snd (Prod.snd x)))))) < Prod.fst (Prod.snd (Prod.snd (Prod.snd (Prod.snd (Prod.snd (Prod.snd x)))))))) (((0 : Int) ≤ Prod.snd (Prod.snd (Prod.snd (Prod.snd (Prod.snd (Prod.snd (Prod.snd x)))))) ∧ Prod.snd (Prod.snd (Prod.snd (Prod.snd (Prod.snd (Prod.snd (Prod.snd x)))))) < (↑(List.length (Prod.fst x)) : Int)) ∧ ifB (shapeOk (Body.Shape (Ty.ix Ty.body (Prod.fst x) (Int.toNat (Prod.snd (Prod.snd (Prod.snd (Prod.snd (Prod.snd (Prod.snd (Prod.snd x)))))))))) && placeOk (Body.At (Ty.ix Ty.body (Prod.fst x) (Int.toNat (Prod.snd (Prod.snd (Prod.snd (Prod.snd (Prod.snd (Prod.snd (Prod.snd x)))))))))) && placeOk (Prod.fst (Prod.snd (Prod.snd x))) && shapeHas (Body.Shape (Ty.ix Ty.body (Prod.fst x) (Int.toNat (Prod.snd (Prod.snd (Prod.snd (Prod.snd (Prod.snd (Prod.snd (Prod.snd x)))))))))) (Body.At (Ty.ix Ty.body (Prod.fst x) (Int.toNat (Prod.snd (Prod.snd (Prod.snd (Prod.snd (Prod.snd (Prod.snd (Prod.snd x)))))))))) (Prod.fst (Prod.snd (Prod.snd x)))) ((List.length (Prod.fst (Prod.snd (Prod.snd (Prod.snd (Prod.snd x))))) + List.length [Body.Id (Ty.ix Ty.body (Prod.fst x) (Int.toNat (Prod.snd (Prod.snd (Prod.snd (Prod.snd (Prod.snd (Prod.snd (Prod.snd x)))))))))]) * (8 : Nat) ≤ room ∧ Holds (Prod.fst x = xs ∧ Prod.fst (Prod.snd x) = ps ∧ Prod.fst (Prod.snd (Prod.snd x)) = Vec.mk qX qY ∧ Prod.fst (Prod.snd (Prod.snd (Prod.snd (Prod.snd (Prod.snd (Prod.snd x)))))) = (↑(List.length xs) : Int) ∧ (0 : Int) ≤ IntKind.wrap IntKind.i64 (Prod.snd (Prod.snd (Prod.snd (Prod.snd (Prod.snd (Prod.snd (Prod.snd x)))))) + (1 : Int)) ∧ IntKind.wrap IntKind.i64 (Prod.snd (Prod.snd (Prod.snd (Prod.snd (Prod.snd (Prod.snd (Prod.snd x)))))) + (1 : Int)) ≤ (↑(List.length xs) : Int) ∧ Prod.fst (Prod.snd (Prod.snd (Prod.snd (Prod.snd x)))) ++ [Body.Id (Ty.ix Ty.body (Prod.fst x) (Int.toNat (Prod.snd (Prod.snd (Prod.snd (Prod.snd (Prod.snd (Prod.snd (Prod.snd x)))))))))] ++ idsF (pointA (Vec.mk qX qY)) (List.drop (Int.toNat (IntKind.wrap IntKind.i64 (Prod.snd (Prod.snd (Prod.snd (Prod.snd (Prod.snd (Prod.snd (Prod.snd x)))))) + (1 : Int)))) xs) = idsF (pointA (Vec.mk qX qY)) xs) ∧ Int.toNat ((↑(List.length (Prod.fst x)) : Int) - IntKind.wrap IntKind.i64 (Prod.snd (Prod.snd (Prod.snd (Prod.snd (Prod.snd (Prod.snd (Prod.snd x)))))) + (1 : Int))) < Int.toNat ((↑(List.length (Prod.fst x)) : Int) - Prod.snd (Prod.snd (Prod.snd (Prod.snd (Prod.snd (Prod.snd (Prod.snd x)))))))) (Holds (Prod.fst x = xs ∧ Prod.fst (Prod.snd x) = ps ∧ Prod.fst (Prod.snd (Prod.snd x)) = Vec.mk qX qY ∧ Prod.fst (Prod.snd (Prod.snd (Prod.snd (Prod.snd (Prod.snd (Prod.snd x)))))) = (↑(List.length xs) : Int) ∧ (0 : Int) ≤ IntKind.wrap IntKind.i64 (Prod.snd (Prod.snd (Prod.snd (Prod.snd (Prod.snd (Prod.snd (Prod.snd x)))))) + (1 : Int)) ∧ IntKind.wrap IntKind.i64 (Prod.snd (Prod.snd (Prod.snd (Prod.snd (Prod.snd (Prod.snd (Prod.snd x)))))) + (1 : Int)) ≤ (↑(List.length xs) : Int) ∧ Prod.fst (Prod.snd (Prod.snd (Prod.snd (Prod.snd x)))) ++ idsF (pointA (Vec.mk qX qY)) (List.drop (Int.toNat (IntKind.wrap IntKind.i64 (Prod.snd (Prod.snd (Prod.snd (Prod.snd (Prod.snd (Prod.snd (Prod.snd x)))))) + (1 : Int)))) xs) = idsF (pointA (Vec.mk qX qY)) xs) ∧ Int.toNat ((↑(List.length (Prod.fst x)) : Int) - IntKind.wrap IntKind.i64 (Prod.snd (Prod.snd (Prod.snd (Prod.snd (Prod.snd (Prod.snd (Prod.snd x)))))) + (1 : Int))) < Int.toNat ((↑(List.length (Prod.fst x)) : Int) - Prod.snd (Prod.snd (Prod.snd (Prod.snd (Prod.snd (Prod.snd (Prod.snd x))))))))) (Q (SV.vec (3 : Nat)) [(false, Blk.vec Ty.body (Prod.fst x)), (false, Blk.vec Ty.pair (Prod.fst (Prod.snd x))), (true, Blk.box [SV.int IntKind.i64 (Vec.X (Prod.fst (Prod.snd (Prod.snd x)))), SV.int IntKind.i64 (Vec.Y (Prod.fst (Prod.snd (Prod.snd x))))]), (true, Blk.vec Ty.int (Prod.fst (Prod.snd (Prod.snd (Prod.snd (Prod.snd x))))))])) := by kernel_rfl

theorem ok_idsAt : FsOk Try.prog 138 fs_idsAt := fsOk_of tt_ok (tabFs_cons ok_holdsAt tabFs_nil) mixed Try.func138 (by kernel_rfl) (by kernel_rfl) (by
    intro args LL p r HH h hp
    unfold fs_idsAt at h
    dsimp only at h
    split at h
    case h_2 => cases h
    rename_i t p xs ps qX qY
    simp only [Option.some.injEq, Prod.mk.injEq] at h
    obtain ⟨rfl, rfl, rfl⟩ := h
    refine ⟨by simp [Form, stays], (L_idsAt), ?_⟩
    rw [vc_idsAt]
    try dsimp only
    have hb := hp _ rfl
    refine ⟨⟨(by trivial), (by trivial), (by trivial), (by trivial), by omega, by omega, (by trivial)⟩, ?_⟩
    rintro ⟨xs', ps', q, f, out, u, n, i⟩ ⟨h⟩
    dsimp only at h ⊢
    obtain ⟨rfl, rfl, rfl, rfl, i0, i1, i2⟩ := h
    have hs := length_idsF (pointA ⟨qX, qY⟩) xs'
    have hs2 := congrArg List.length i2
    rw [List.length_append] at hs2
    refine ifB_of (fun c => ?_) (fun c => ?_)
    · have c := of_decide_eq_true c
      have e1 : (i + 1).toNat = i.toNat + 1 := by omega
      have w : IntKind.i64.wrap (i + 1) = i + 1 := wrap_small (by omega) (by omega)
      rw [idsF_drop (show i.toNat < xs'.length by omega)] at i2
      rw [w, e1]
      refine ⟨⟨i0, c⟩, ifB_of (fun c2 => ?_) (fun c2 => ?_)⟩
      · rw [show pointA ⟨qX, qY⟩ (Ty.ix .body xs' i.toNat) = true from c2] at i2
        refine ⟨by simp only [room, List.length_singleton]; omega, ⟨(by trivial), (by trivial), (by trivial), (by trivial), by omega, by omega, ?_⟩, by omega⟩
        rw [← i2, List.append_assoc]
        rfl
      · rw [show pointA ⟨qX, qY⟩ (Ty.ix .body xs' i.toNat) = false from c2] at i2
        exact ⟨⟨(by trivial), (by trivial), (by trivial), (by trivial), by omega, by omega, i2⟩, by omega⟩
    · have c := of_decide_eq_false c
      rw [drop_end (by omega)] at i2
      rw [← i2]
      simp [idsF])

def worldAt (t p : Int) (xs : List Body) (ps : List Pair) (q : Vec) : List Int := bif worldOk t p xs ps && placeOk q then idsF (pointB q) xs else []
theorem length_worldAt (t p : Int) (xs : List Body) (ps : List Pair) (q : Vec) : (worldAt t p xs ps q).length ≤ xs.length := by
  unfold worldAt
  have := length_idsF (pointB q) xs
  cases worldOk t p xs ps && placeOk q with
  | true => exact this
  | false => simp
noncomputable def fs_implWorldAt : Fs := ⟨[], fun args H => match args, H with
  | [.agg [.int .i64 t, .int .i64 p, .vec 0, .vec 1], .agg [.int .i64 qX, .int .i64 qY]], [(false, .vec .body xs), (false, .vec .pair ps)] => some ((some (xs.length ≤ 1048576 ∧ ps.length ≤ 1048576)), .vec 2, [(false, .vec .body xs), (false, .vec .pair ps), (true, .vec .int (worldAt t p xs ps ⟨qX, qY⟩))])
  | _, _ => none⟩

theorem vc_implWorldAt (t : Int) (p : Int) (xs : List Body) (ps : List Pair) (qX : Int) (qY : Int) (Q : SV → List Ent → Prop) :
    fnVC tt (look [(40, fs_implWorldOk), (93, fs_isPlace), (138, fs_idsAt)]) L0 Try.f70 [.agg [.int .i64 t, .int .i64 p, .vec 0, .vec 1], .agg [.int .i64 qX, .int .i64 qY]] [(false, .vec .body xs), (false, .vec .pair ps)] Q =
    ((List.length xs ≤ (1048576 : Nat) ∧ List.length ps ≤ (1048576 : Nat)) ∧ ifB (!worldOk t p xs ps) (Q (SV.vec (2 : Nat)) [(false, Blk.vec Ty.body xs), (false, Blk.vec Ty.pair ps), (true, Blk.vec Ty.int [])]) (ifB (!placeOk (Vec.mk qX qY)) (Q (SV.vec (2 : Nat)) [(false, Blk.vec Ty.body xs), (false, Blk.vec Ty.pair ps), (true, Blk.vec Ty.int [])]) (List.length xs ≤ (1048576 : Nat) ∧ Q (SV.vec (2 : Nat)) [(false, Blk.vec Ty.body xs), (false, Blk.vec Ty.pair ps), (true, Blk.vec Ty.int (idsF (pointA (Vec.mk qX qY)) xs))]))) := by kernel_rfl

theorem ok_implWorldAt : FsOk Try.prog 70 fs_implWorldAt := fsOk_of tt_ok (tabFs_cons ok_implWorldOk (tabFs_cons ok_isPlace (tabFs_cons ok_idsAt tabFs_nil))) mixed Try.func70 (by kernel_rfl) (by kernel_rfl) (by
    intro args LL p r HH h hp
    unfold fs_implWorldAt at h
    dsimp only at h
    split at h
    case h_2 => cases h
    rename_i t p qX qY xs ps
    simp only [Option.some.injEq, Prod.mk.injEq] at h
    obtain ⟨rfl, rfl, rfl⟩ := h
    refine ⟨by simp [Form, stays], L0, ?_⟩
    rw [vc_implWorldAt]
    try dsimp only
    obtain ⟨hb, hb2⟩ := hp _ rfl
    refine ⟨⟨hb, hb2⟩, ifB_of (fun c => ?_) (fun c => ifB_of (fun c2 => ?_) (fun c2 => ⟨hb, ?_⟩))⟩
    · simp [worldAt, not_true c]
    · simp [worldAt, not_true c2]
    · rw [idsAt_same (not_false c) (not_false c2)]
      simp [worldAt, not_false c, not_false c2])

def LSspecAt  : LS where
  S := List Body × List Pair × (Int × Int) × Vec × List Int × Int
  live := [(2, [none]), (3, [none]), (5, [some .int]), (6, [none])]
  shape := fun s => ([.ptr 2 0 0, .ptr 3 0 0, .vec 4, .int .i64 s.2.2.2.2.2], [(false, .vec .body s.1), (false, .vec .pair s.2.1), (true, .box [.int .i64 s.2.2.1.1, .int .i64 s.2.2.1.2, .vec 0, .vec 1]), (true, .box [.int .i64 s.2.2.2.1.X, .int .i64 s.2.2.2.1.Y]), (true, .vec .int s.2.2.2.2.1)])
  get := fun v h => match v, h with
    | [.ptr 2 0 0, .ptr 3 0 0, .vec 4, .int .i64 i], [(false, .vec .body xs), (false, .vec .pair ps), (true, .box [.int .i64 w_0, .int .i64 w_1, .vec 0, .vec 1]), (true, .box [.int .i64 qX, .int .i64 qY]), (true, .vec .int out)] => some (xs, ps, (w_0, w_1), (Vec.mk qX qY), out, i)
    | _, _ => none
  inv := fun s0 s => Holds (s.1 = s0.1 ∧ s.2.1 = s0.2.1 ∧ s.2.2.1 = s0.2.2.1 ∧ s.2.2.2.1 = s0.2.2.2.1 ∧ 0 ≤ s.2.2.2.2.2 ∧ s.2.2.2.2.2 ≤ s0.1.length ∧ s.2.2.2.2.1 ++ idsF (pointB s0.2.2.2.1) (s0.1.drop s.2.2.2.2.2.toNat) = idsF (pointB s0.2.2.2.1) s0.1)
  mu := fun s => ((s.1.length : Int) - s.2.2.2.2.2).toNat
  ok := by
    intro v h s hg
    try dsimp only at hg
    split at hg <;> cases hg
    rfl

def L_specAt : Loops := fun n => match n with
  | 5 => some LSspecAt
  | _ => none
noncomputable def fs_specWorldAt : Fs := ⟨[], fun args H => match args, H with
  | [.agg [.int .i64 t, .int .i64 p, .vec 0, .vec 1], .agg [.int .i64 qX, .int .i64 qY]], [(false, .vec .body xs), (false, .vec .pair ps)] => some ((some (xs.length ≤ 1048576 ∧ ps.length ≤ 1048576)), .vec 2, [(false, .vec .body xs), (false, .vec .pair ps), (true, .vec .int (worldAt t p xs ps ⟨qX, qY⟩))])
  | _, _ => none⟩

theorem vc_specWorldAt (t : Int) (p : Int) (xs : List Body) (ps : List Pair) (qX : Int) (qY : Int) (Q : SV → List Ent → Prop) :
    fnVC tt (look [(38, fs_specWorldOk), (97, fs_l3Place), (141, fs_l3Has)]) (L_specAt) Try.f68 [.agg [.int .i64 t, .int .i64 p, .vec 0, .vec 1], .agg [.int .i64 qX, .int .i64 qY]] [(false, .vec .body xs), (false, .vec .pair ps)] Q =
    ((List.length xs ≤ (1048576 : Nat) ∧ List.length ps ≤ (1048576 : Nat)) ∧ ifB (!worldOk t p xs ps) (Q (SV.vec (2 : Nat)) [(false, Blk.vec Ty.body xs), (false, Blk.vec Ty.pair ps), (true, Blk.vec Ty.int [])]) (ifB (!placeOk (Vec.mk qX qY)) (Q (SV.vec (2 : Nat)) [(false, Blk.vec Ty.body xs), (false, Blk.vec Ty.pair ps), (true, Blk.vec Ty.int [])]) (Holds (xs = xs ∧ ps = ps ∧ (t, p) = (t, p) ∧ Vec.mk qX qY = Vec.mk qX qY ∧ (0 : Int) ≤ (0 : Int) ∧ (0 : Int) ≤ (↑(List.length xs) : Int) ∧ [] ++ idsF (pointB (Vec.mk qX qY)) (List.drop (Int.toNat (0 : Int)) xs) = idsF (pointB (Vec.mk qX qY)) xs) ∧ ∀ (x : List Body × List Pair × (Int × Int) × Vec × List Int × Int), Holds (Prod.fst x = xs ∧ Prod.fst (Prod.snd x) = ps ∧ Prod.fst (Prod.snd (Prod.snd x)) = (t, p) ∧ Prod.fst (Prod.snd (Prod.snd (Prod.snd x))) = Vec.mk qX qY ∧ (0 : Int) ≤ Prod.snd (Prod.snd (Prod.snd (Prod.snd (Prod.snd x)))) ∧ Prod.snd (Prod.snd (Prod.snd (Prod.snd (Prod.snd x)))) ≤ (↑(List.length xs) : Int) ∧ Prod.fst (Prod.snd (Prod.snd (Prod.snd (Prod.snd x)))) ++ idsF (pointB (Vec.mk qX qY)) (List.drop (Int.toNat (Prod.snd (Prod.snd (Prod.snd (Prod.snd (Prod.snd x)))))) xs) = idsF (pointB (Vec.mk qX qY)) xs) → ifB (decide (Prod.snd (Prod.snd (Prod.snd (Prod.snd (Prod.snd x)))) < (↑(List.length (Prod.fst x)) : Int))) (((0 : Int) ≤ Prod.snd (Prod.snd (Prod.snd (Prod.snd (Prod.snd x)))) ∧ Prod.snd (Prod.snd (Prod.snd (Prod.snd (Prod.snd x)))) < (↑(List.length (Prod.fst x)) : Int)) ∧ ((0 : Int) ≤ Prod.snd (Prod.snd (Prod.snd (Prod.snd (Prod.snd x)))) ∧ Prod.snd (Prod.snd (Prod.snd (Prod.snd (Prod.snd x)))) < (↑(List.length (Prod.fst x)) : Int)) ∧ ifB (shapeHas (Body.Shape (Ty.ix Ty.body (Prod.fst x) (Int.toNat (Prod.snd (Prod.snd (Prod.snd (Prod.snd (Prod.snd x)))))))) (Body.At (Ty.ix Ty.body (Prod.fst x) (Int.toNat (Prod.snd (Prod.snd (Prod.snd (Prod.snd (Prod.snd x)))))))) (Prod.fst (Prod.snd (Prod.snd (Prod.snd x))))) (((0 : Int) ≤ Prod.snd (Prod.snd (Prod.snd (Prod.snd (Prod.snd x)))) ∧ Prod.snd (Prod.snd (Prod.snd (Prod.snd (Prod.snd x)))) < (↑(List.length (Prod.fst x)) : Int)) ∧ (List.length (Prod.fst (Prod.snd (Prod.snd (Prod.snd (Prod.snd x))))) + List.length [Body.Id (Ty.ix Ty.body (Prod.fst x) (Int.toNat (Prod.snd (Prod.snd (Prod.snd (Prod.snd (Prod.snd x)))))))]) * (8 : Nat) ≤ room ∧ Holds (Prod.fst x = xs ∧ Prod.fst (Prod.snd x) = ps ∧ Prod.fst (Prod.snd (Prod.snd x)) = (t, p) ∧ Prod.fst (Prod.snd (Prod.snd (Prod.snd x))) = Vec.mk qX qY ∧ (0 : Int) ≤ IntKind.wrap IntKind.i64 (Prod.snd (Prod.snd (Prod.snd (Prod.snd (Prod.snd x)))) + (1 : Int)) ∧ IntKind.wrap IntKind.i64 (Prod.snd (Prod.snd (Prod.snd (Prod.snd (Prod.snd x)))) + (1 : Int)) ≤ (↑(List.length xs) : Int) ∧ Prod.fst (Prod.snd (Prod.snd (Prod.snd (Prod.snd x)))) ++ [Body.Id (Ty.ix Ty.body (Prod.fst x) (Int.toNat (Prod.snd (Prod.snd (Prod.snd (Prod.snd (Prod.snd x)))))))] ++ idsF (pointB (Vec.mk qX qY)) (List.drop (Int.toNat (IntKind.wrap IntKind.i64 (Prod.snd (Prod.snd (Prod.snd (Prod.snd (Prod.snd x)))) + (1 : Int)))) xs) = idsF (pointB (Vec.mk qX qY)) xs) ∧ Int.toNat ((↑(List.length (Prod.fst x)) : Int) - IntKind.wrap IntKind.i64 (Prod.snd (Prod.snd (Prod.snd (Prod.snd (Prod.snd x)))) + (1 : Int))) < Int.toNat ((↑(List.length (Prod.fst x)) : Int) - Prod.snd (Prod.snd (Prod.snd (Prod.snd (Prod.snd x)))))) (Holds (Prod.fst x = xs ∧ Prod.fst (Prod.snd x) = ps ∧ Prod.fst (Prod.snd (Prod.snd x)) = (t, p) ∧ Prod.fst (Prod.snd (Prod.snd (Prod.snd x))) = Vec.mk qX qY ∧ (0 : Int) ≤ IntKind.wrap IntKind.i64 (Prod.snd (Prod.snd (Prod.snd (Prod.snd (Prod.snd x)))) + (1 : Int)) ∧ IntKind.wrap IntKind.i64 (Prod.snd (Prod.snd (Prod.snd (Prod.snd (Prod.snd x)))) + (1 : Int)) ≤ (↑(List.length xs) : Int) ∧ Prod.fst (Prod.snd (Prod.snd (Prod.snd (Prod.snd x)))) ++ idsF (pointB (Vec.mk qX qY)) (List.drop (Int.toNat (IntKind.wrap IntKind.i64 (Prod.snd (Prod.snd (Prod.snd (Prod.snd (Prod.snd x)))) + (1 : Int)))) xs) = idsF (pointB (Vec.mk qX qY)) xs) ∧ Int.toNat ((↑(List.length (Prod.fst x)) : Int) - IntKind.wrap IntKind.i64 (Prod.snd (Prod.snd (Prod.snd (Prod.snd (Prod.snd x)))) + (1 : Int))) < Int.toNat ((↑(List.length (Prod.fst x)) : Int) - Prod.snd (Prod.snd (Prod.snd (Prod.snd (Prod.snd x))))))) (Q (SV.vec (2 : Nat)) [(false, Blk.vec Ty.body (Prod.fst x)), (false, Blk.vec Ty.pair (Prod.fst (Prod.snd x))), (true, Blk.vec Ty.int (Prod.fst (Prod.snd (Prod.snd (Prod.snd (Prod.snd x))))))])))) := by kernel_rfl

theorem ok_specWorldAt : FsOk Try.prog 68 fs_specWorldAt := fsOk_of tt_ok (tabFs_cons ok_specWorldOk (tabFs_cons ok_l3Place (tabFs_cons ok_l3Has tabFs_nil))) mixed Try.func68 (by kernel_rfl) (by kernel_rfl) (by
    intro args LL p r HH h hp
    unfold fs_specWorldAt at h
    dsimp only at h
    split at h
    case h_2 => cases h
    rename_i t p qX qY xs ps
    simp only [Option.some.injEq, Prod.mk.injEq] at h
    obtain ⟨rfl, rfl, rfl⟩ := h
    refine ⟨by simp [Form, stays], (L_specAt), ?_⟩
    rw [vc_specWorldAt]
    try dsimp only
    obtain ⟨hb, hb2⟩ := hp _ rfl
    refine ⟨⟨hb, hb2⟩, ifB_of (fun c => ?_) (fun c => ifB_of (fun c2 => ?_) (fun c2 => ?_))⟩
    · simp [worldAt, not_true c]
    · simp [worldAt, not_true c2]
    have e : worldAt t p xs ps ⟨qX, qY⟩ = idsF (pointB ⟨qX, qY⟩) xs := by simp [worldAt, not_false c, not_false c2]
    rw [e]
    refine ⟨⟨(by trivial), (by trivial), (by trivial), (by trivial), by omega, by omega, (by trivial)⟩, ?_⟩
    rintro ⟨xs', ps', w, q, out, i⟩ ⟨h⟩
    dsimp only at h ⊢
    obtain ⟨rfl, rfl, rfl, rfl, i0, i1, i2⟩ := h
    have hs := length_idsF (pointB ⟨qX, qY⟩) xs'
    have hs2 := congrArg List.length i2
    rw [List.length_append] at hs2
    refine ifB_of (fun c3 => ?_) (fun c3 => ?_)
    · have c3 := of_decide_eq_true c3
      have e1 : (i + 1).toNat = i.toNat + 1 := by omega
      have w : IntKind.i64.wrap (i + 1) = i + 1 := wrap_small (by omega) (by omega)
      rw [idsF_drop (show i.toNat < xs'.length by omega)] at i2
      rw [w, e1]
      refine ⟨⟨i0, c3⟩, ⟨i0, c3⟩, ifB_of (fun c4 => ?_) (fun c4 => ?_)⟩
      · rw [show pointB ⟨qX, qY⟩ (Ty.ix .body xs' i.toNat) = true from c4] at i2
        refine ⟨⟨i0, c3⟩, by simp only [room, List.length_singleton]; omega, ⟨(by trivial), (by trivial), (by trivial), (by trivial), by omega, by omega, ?_⟩, by omega⟩
        rw [← i2, List.append_assoc]
        rfl
      · rw [show pointB ⟨qX, qY⟩ (Ty.ix .body xs' i.toNat) = false from c4] at i2
        exact ⟨⟨(by trivial), (by trivial), (by trivial), (by trivial), by omega, by omega, i2⟩, by omega⟩
    · have c3 := of_decide_eq_false c3
      rw [drop_end (by omega)] at i2
      rw [← i2]
      simp [idsF])

noncomputable def fs_lawExactWorldAt : Fs := ⟨[], fun args H => match args, H with
  | [.agg [.int .i64 t, .int .i64 p, .vec 0, .vec 1], .agg [.int .i64 qX, .int .i64 qY]], [(false, .vec .body xs), (false, .vec .pair ps)] => some ((some (LOk .body xs ∧ LOk .pair ps)), .bool true, [(false, .vec .body xs), (false, .vec .pair ps)])
  | _, _ => none⟩

theorem vc_lawExactWorldAt (t : Int) (p : Int) (xs : List Body) (ps : List Pair) (qX : Int) (qY : Int) (Q : SV → List Ent → Prop) :
    fnVC tt (look [(37, fs_szWorld), (39, fs_toWorld), (69, fs_lawsToVec), (68, fs_specWorldAt), (70, fs_implWorldAt), (41, fs_lawsEqWorld), (64, fs_lawsEqIntS), (65, fs_lawsMarkWorld), (66, fs_lawsMarkIntS), (67, fs_lawsHeldIntS)]) L0 Try.f13 [.agg [.int .i64 t, .int .i64 p, .vec 0, .vec 1], .agg [.int .i64 qX, .int .i64 qY]] [(false, .vec .body xs), (false, .vec .pair ps)] Q =
    (ifB (decide (szW (1048576 : Int) (List.length xs) (List.length ps) < (0 : Int))) (Q (SV.bool true) [(false, Blk.vec Ty.body xs), (false, Blk.vec Ty.pair ps)]) ((List.length xs ≤ (1048576 : Nat) ∧ List.length ps ≤ (1048576 : Nat)) ∧ (List.length xs ≤ (1048576 : Nat) ∧ List.length ps ≤ (1048576 : Nat)) ∧ (List.length xs ≤ (1048576 : Nat) ∧ List.length ps ≤ (1048576 : Nat)) ∧ (List.length xs ≤ (1048576 : Nat) ∧ List.length ps ≤ (1048576 : Nat)) ∧ List.length (worldAt t p xs ps (Vec.mk qX qY)) ≤ (4611686018427387904 : Nat) ∧ ifB (!same (worldAt t p xs ps (Vec.mk qX qY)) (worldAt t p xs ps (Vec.mk qX qY))) (Q (SV.bool false) [(false, Blk.vec Ty.body xs), (false, Blk.vec Ty.pair ps)]) ((List.length xs ≤ (1048576 : Nat) ∧ List.length ps ≤ (1048576 : Nat)) ∧ (List.length xs ≤ (4611686018427387904 : Nat) ∧ List.length ps ≤ (4611686018427387904 : Nat)) ∧ ifB (!eqW4 t p xs ps t p xs ps) (Q (SV.bool false) [(false, Blk.vec Ty.body xs), (false, Blk.vec Ty.pair ps)]) ((List.length xs ≤ (1048576 : Nat) ∧ List.length ps ≤ (1048576 : Nat) ∧ (0 : Int) ≤ (1 : Int) ∧ (1 : Int) ≤ (10000000000 : Int)) ∧ List.length (worldAt t p xs ps (Vec.mk qX qY)) ≤ (4611686018427387904 : Nat) ∧ ifB (!same (worldAt t p xs ps (Vec.mk qX qY)) (worldAt t p xs ps (Vec.mk qX qY))) (Q (SV.bool false) [(false, Blk.vec Ty.body xs), (false, Blk.vec Ty.pair ps)]) ((List.length (worldAt t p xs ps (Vec.mk qX qY)) ≤ (1048576 : Nat) ∧ (0 : Int) ≤ (1 : Int) ∧ (1 : Int) ≤ (1000000000000 : Int)) ∧ (List.length (gen (fun e => mkInt ((1 : Int) + (1 : Int) * (↑e : Int))) (List.length (worldAt t p xs ps (Vec.mk qX qY)))) ≤ (1048576 : Nat) ∧ (0 : Int) ≤ (1 : Int) ∧ (1 : Int) ≤ (1000000000000 : Int)) ∧ ifB (decide ((bif same (gen (fun e => mkInt ((1 : Int) + (1 : Int) * (↑e : Int))) (List.length (worldAt t p xs ps (Vec.mk qX qY)))) (gen (fun e => mkInt ((1 : Int) + (1 : Int) * (↑e : Int))) (List.length (gen (fun e => mkInt ((1 : Int) + (1 : Int) * (↑e : Int))) (List.length (worldAt t p xs ps (Vec.mk qX qY)))))) then (1 : Int) + (1 : Int) * (↑(List.length (gen (fun e => mkInt ((1 : Int) + (1 : Int) * (↑e : Int))) (List.length (worldAt t p xs ps (Vec.mk qX qY))))) : Int) else (-1 : Int)) < (0 : Int))) (Q (SV.bool false) [(false, Blk.vec Ty.body xs), (false, Blk.vec Ty.pair ps)]) (ifB ((bif same (gen (fun e => mkInt ((1 : Int) + (1 : Int) * (↑e : Int))) (List.length (worldAt t p xs ps (Vec.mk qX qY)))) (gen (fun e => mkInt ((1 : Int) + (1 : Int) * (↑e : Int))) (List.length (gen (fun e => mkInt ((1 : Int) + (1 : Int) * (↑e : Int))) (List.length (worldAt t p xs ps (Vec.mk qX qY)))))) then (1 : Int) + (1 : Int) * (↑(List.length (gen (fun e => mkInt ((1 : Int) + (1 : Int) * (↑e : Int))) (List.length (worldAt t p xs ps (Vec.mk qX qY))))) : Int) else (-1 : Int)) != (1 : Int) + (1 : Int) * (↑(List.length (worldAt t p xs ps (Vec.mk qX qY))) : Int)) (Q (SV.bool false) [(false, Blk.vec Ty.body xs), (false, Blk.vec Ty.pair ps)]) ((List.length xs ≤ (1048576 : Nat) ∧ List.length ps ≤ (1048576 : Nat)) ∧ (List.length xs ≤ (1048576 : Nat) ∧ List.length ps ≤ (1048576 : Nat)) ∧ List.length (worldAt t p xs ps (Vec.mk qX qY)) ≤ (4611686018427387904 : Nat) ∧ ifB (!same (worldAt t p xs ps (Vec.mk qX qY)) (worldAt t p xs ps (Vec.mk qX qY))) (Q (SV.bool false) [(false, Blk.vec Ty.body xs), (false, Blk.vec Ty.pair ps)]) ((List.length (gen (fun e => mkInt ((1 : Int) + (1 : Int) * (↑e : Int))) (List.length (worldAt t p xs ps (Vec.mk qX qY)))) ≤ (1048576 : Nat) ∧ (0 : Int) ≤ (1 : Int) ∧ (1 : Int) ≤ (1000000000000 : Int)) ∧ ifB (decide ((bif same (gen (fun e => mkInt ((1 : Int) + (1 : Int) * (↑e : Int))) (List.length (worldAt t p xs ps (Vec.mk qX qY)))) (gen (fun e => mkInt ((1 : Int) + (1 : Int) * (↑e : Int))) (List.length (gen (fun e => mkInt ((1 : Int) + (1 : Int) * (↑e : Int))) (List.length (worldAt t p xs ps (Vec.mk qX qY)))))) then (1 : Int) + (1 : Int) * (↑(List.length (gen (fun e => mkInt ((1 : Int) + (1 : Int) * (↑e : Int))) (List.length (worldAt t p xs ps (Vec.mk qX qY))))) : Int) else (-1 : Int)) < (0 : Int))) (Q (SV.bool false) [(false, Blk.vec Ty.body xs), (false, Blk.vec Ty.pair ps)]) (ifB ((bif same (gen (fun e => mkInt ((1 : Int) + (1 : Int) * (↑e : Int))) (List.length (worldAt t p xs ps (Vec.mk qX qY)))) (gen (fun e => mkInt ((1 : Int) + (1 : Int) * (↑e : Int))) (List.length (gen (fun e => mkInt ((1 : Int) + (1 : Int) * (↑e : Int))) (List.length (worldAt t p xs ps (Vec.mk qX qY)))))) then (1 : Int) + (1 : Int) * (↑(List.length (gen (fun e => mkInt ((1 : Int) + (1 : Int) * (↑e : Int))) (List.length (worldAt t p xs ps (Vec.mk qX qY))))) : Int) else (-1 : Int)) != (1 : Int) + (1 : Int) * (↑(List.length (worldAt t p xs ps (Vec.mk qX qY))) : Int)) (Q (SV.bool false) [(false, Blk.vec Ty.body xs), (false, Blk.vec Ty.pair ps)]) (Q (SV.bool true) [(false, Blk.vec Ty.body xs), (false, Blk.vec Ty.pair ps)])))))))))) := by kernel_rfl

theorem ok_lawExactWorldAt : FsOk Try.prog 13 fs_lawExactWorldAt := fsOk_of tt_ok (tabFs_cons ok_szWorld (tabFs_cons ok_toWorld (tabFs_cons ok_lawsToVec (tabFs_cons ok_specWorldAt (tabFs_cons ok_implWorldAt (tabFs_cons ok_lawsEqWorld (tabFs_cons ok_lawsEqIntS (tabFs_cons ok_lawsMarkWorld (tabFs_cons ok_lawsMarkIntS (tabFs_cons ok_lawsHeldIntS tabFs_nil)))))))))) mixed Try.func13 (by kernel_rfl) (by kernel_rfl) (by
    intro args LL p r HH h hp
    unfold fs_lawExactWorldAt at h
    dsimp only at h
    split at h
    case h_2 => cases h
    rename_i t p qX qY xs ps
    simp only [Option.some.injEq, Prod.mk.injEq] at h
    obtain ⟨rfl, rfl, rfl⟩ := h
    refine ⟨by simp [Form, stays], L0, ?_⟩
    rw [vc_lawExactWorldAt]
    try dsimp only
    obtain ⟨⟨hb, _⟩, hb2, _⟩ := hp _ rfl
    refine ifB_of (fun c => ⟨rfl, rfl⟩) (fun c => ?_)
    obtain ⟨k1, k2⟩ := szW_le c hb hb2
    have hg := length_worldAt t p xs ps ⟨qX, qY⟩
    simp only [eqW4_self]

    simp only [same_self, length_gen, Bool.not_true, beq_self_eq_true, cond_true, bne_self_eq_false, ifB]
    repeat' (first | refine pre_of ?_ (fun _ => ?_) | refine ifB_of (fun c => ?_) (fun c => ?_) | fail)
    all_goals first
      | omega
      | trivial
      | (rename_i c; have c := of_decide_eq_true c; omega))

/-! ### In a box -/
def inB (b : Box) (y : Body) : Bool := boxMeets (bounds y.Shape y.At) b
theorem idsIn_same {t p : Int} {xs : List Body} {ps : List Pair} {q : Box} (h : worldOk t p xs ps = true) (hq : boxOk q = true) : idsF (inB q) xs = idsF (inB q) xs := rfl
noncomputable def fs_holdsIn : Fs := ⟨[], fun args H => match args, H with
  | [.agg [.int .i64 aI, .int .i64 aK, .int .i64 aW, .int .i64 aH, .int .i64 aX, .int .i64 aY, .int .i64 aU, .int .i64 aV, .int .i64 aM, .int .i64 aB, .int .i64 aR, .int .i64 aQ], .ptr 0 0 0], [(true, .box [.int .i64 qA, .int .i64 qB, .int .i64 qC, .int .i64 qD])] => some (none, .bool (boxMeets (bounds ⟨aK, aW, aH⟩ ⟨aX, aY⟩) ⟨⟨qA, qB⟩, ⟨qC, qD⟩⟩), [(true, .box [.int .i64 qA, .int .i64 qB, .int .i64 qC, .int .i64 qD])])
  | _, _ => none⟩

theorem vc_holdsIn (aI : Int) (aK : Int) (aW : Int) (aH : Int) (aX : Int) (aY : Int) (aU : Int) (aV : Int) (aM : Int) (aB : Int) (aR : Int) (aQ : Int) (qA : Int) (qB : Int) (qC : Int) (qD : Int) (Q : SV → List Ent → Prop) :
    fnVC tt (look [(96, fs_implBounds), (82, fs_implMeets)]) L0 Try.f139 [.agg [.int .i64 aI, .int .i64 aK, .int .i64 aW, .int .i64 aH, .int .i64 aX, .int .i64 aY, .int .i64 aU, .int .i64 aV, .int .i64 aM, .int .i64 aB, .int .i64 aR, .int .i64 aQ], .ptr 0 0 0] [(true, .box [.int .i64 qA, .int .i64 qB, .int .i64 qC, .int .i64 qD])] Q =
    (Q (SV.bool (boxMeets (bounds (Shape.mk aK aW aH) (Vec.mk aX aY)) (Box.mk (Vec.mk qA qB) (Vec.mk qC qD)))) [(true, Blk.box [SV.int IntKind.i64 qA, SV.int IntKind.i64 qB, SV.int IntKind.i64 qC, SV.int IntKind.i64 qD])]) := by kernel_rfl

theorem ok_holdsIn : FsOk Try.prog 139 fs_holdsIn := fsOk_of tt_ok (tabFs_cons ok_implBounds (tabFs_cons ok_implMeets tabFs_nil)) mixed Try.func139 (by kernel_rfl) (by kernel_rfl) (by
    intro args LL p r HH h hp
    unfold fs_holdsIn at h
    dsimp only at h
    split at h
    case h_2 => cases h
    rename_i aI aK aW aH aX aY aU aV aM aB aR aQ qA qB qC qD
    simp only [Option.some.injEq, Prod.mk.injEq] at h
    obtain ⟨rfl, rfl, rfl⟩ := h
    refine ⟨by simp [Form, stays], L0, ?_⟩
    rw [vc_holdsIn]
    try dsimp only
    exact ⟨rfl, rfl⟩)

def LSidsIn  : LS where
  S := List Body × List Pair × Box × Unit × List Int × Unit × Int × Int
  live := [(1, [none]), (5, [some .int]), (9, [none]), (10, [none]), (11, [none])]
  shape := fun s => ([.fn 139 (some 2), .vec 3, .vec 0, .int .i64 s.2.2.2.2.2.2.1, .int .i64 s.2.2.2.2.2.2.2], [(false, .vec .body s.1), (false, .vec .pair s.2.1), (true, .box [.int .i64 s.2.2.1.Low.X, .int .i64 s.2.2.1.Low.Y, .int .i64 s.2.2.1.High.X, .int .i64 s.2.2.1.High.Y]), (true, .vec .int s.2.2.2.2.1)])
  get := fun v h => match v, h with
    | [.fn 139 (some 2), .vec 3, .vec 0, .int .i64 n, .int .i64 i], [(false, .vec .body xs), (false, .vec .pair ps), (true, .box [.int .i64 qLX, .int .i64 qLY, .int .i64 qHX, .int .i64 qHY]), (true, .vec .int out)] => some (xs, ps, (Box.mk (Vec.mk qLX qLY) (Vec.mk qHX qHY)), (), out, (), n, i)
    | _, _ => none
  inv := fun s0 s => Holds (s.1 = s0.1 ∧ s.2.1 = s0.2.1 ∧ s.2.2.1 = s0.2.2.1 ∧ s.2.2.2.2.2.2.1 = s0.1.length ∧ 0 ≤ s.2.2.2.2.2.2.2 ∧ s.2.2.2.2.2.2.2 ≤ s0.1.length ∧ s.2.2.2.2.1 ++ idsF (inB s0.2.2.1) (s0.1.drop s.2.2.2.2.2.2.2.toNat) = idsF (inB s0.2.2.1) s0.1)
  mu := fun s => ((s.1.length : Int) - s.2.2.2.2.2.2.2).toNat
  ok := by
    intro v h s hg
    try dsimp only at hg
    split at hg <;> cases hg
    rfl

def L_idsIn : Loops := fun n => match n with
  | 3 => some LSidsIn
  | _ => none
noncomputable def fs_idsIn : Fs := ⟨[], fun args H => match args, H with
  | [.agg [.int .i64 t, .int .i64 p, .vec 0, .vec 1], .fn 139 (some 2)], [(false, .vec .body xs), (false, .vec .pair ps), (true, .box [.int .i64 qA, .int .i64 qB, .int .i64 qC, .int .i64 qD])] => some ((some (xs.length ≤ 1048576)), .vec 3, [(false, .vec .body xs), (false, .vec .pair ps), (true, .box [.int .i64 qA, .int .i64 qB, .int .i64 qC, .int .i64 qD]), (true, .vec .int (idsF (inB ⟨⟨qA, qB⟩, ⟨qC, qD⟩⟩) xs))])
  | _, _ => none⟩

theorem vc_idsIn (t : Int) (p : Int) (xs : List Body) (ps : List Pair) (qA : Int) (qB : Int) (qC : Int) (qD : Int) (Q : SV → List Ent → Prop) :
    fnVC tt (look [(139, fs_holdsIn)]) (L_idsIn) Try.f138 [.agg [.int .i64 t, .int .i64 p, .vec 0, .vec 1], .fn 139 (some 2)] [(false, .vec .body xs), (false, .vec .pair ps), (true, .box [.int .i64 qA, .int .i64 qB, .int .i64 qC, .int .i64 qD])] Q =
    (Holds (xs = xs ∧ ps = ps ∧ Box.mk (Vec.mk qA qB) (Vec.mk qC qD) = Box.mk (Vec.mk qA qB) (Vec.mk qC qD) ∧ (↑(List.length xs) : Int) = (↑(List.length xs) : Int) ∧ (0 : Int) ≤ (0 : Int) ∧ (0 : Int) ≤ (↑(List.length xs) : Int) ∧ [] ++ idsF (inB (Box.mk (Vec.mk qA qB) (Vec.mk qC qD))) (List.drop (Int.toNat (0 : Int)) xs) = idsF (inB (Box.mk (Vec.mk qA qB) (Vec.mk qC qD))) xs) ∧ ∀ (x : List Body × List Pair × Box × Unit × List Int × Unit × Int × Int), Holds (Prod.fst x = xs ∧ Prod.fst (Prod.snd x) = ps ∧ Prod.fst (Prod.snd (Prod.snd x)) = Box.mk (Vec.mk qA qB) (Vec.mk qC qD) ∧ Prod.fst (Prod.snd (Prod.snd (Prod.snd (Prod.snd (Prod.snd (Prod.snd x)))))) = (↑(List.length xs) : Int) ∧ (0 : Int) ≤ Prod.snd (Prod.snd (Prod.snd (Prod.snd (Prod.snd (Prod.snd (Prod.snd x)))))) ∧ Prod.snd (Prod.snd (Prod.snd (Prod.snd (Prod.snd (Prod.snd (Prod.snd x)))))) ≤ (↑(List.length xs) : Int) ∧ Prod.fst (Prod.snd (Prod.snd (Prod.snd (Prod.snd x)))) ++ idsF (inB (Box.mk (Vec.mk qA qB) (Vec.mk qC qD))) (List.drop (Int.toNat (Prod.snd (Prod.snd (Prod.snd (Prod.snd (Prod.snd (Prod.snd (Prod.snd x)))))))) xs) = idsF (inB (Box.mk (Vec.mk qA qB) (Vec.mk qC qD))) xs) → ifB (decide (Prod.snd (Prod.snd (Prod.snd (Prod.snd (Prod.snd (Prod.snd (Prod.snd x)))))) < Prod.fst (Prod.snd (Prod.snd (Prod.snd (Prod.snd (Prod.snd (Prod.snd x)))))))) (((0 : Int) ≤ Prod.snd (Prod.snd (Prod.snd (Prod.snd (Prod.snd (Prod.snd (Prod.snd x)))))) ∧ Prod.snd (Prod.snd (Prod.snd (Prod.snd (Prod.snd (Prod.snd (Prod.snd x)))))) < (↑(List.length (Prod.fst x)) : Int)) ∧ ifB (boxMeets (bounds (Body.Shape (Ty.ix Ty.body (Prod.fst x) (Int.toNat (Prod.snd (Prod.snd (Prod.snd (Prod.snd (Prod.snd (Prod.snd (Prod.snd x)))))))))) (Body.At (Ty.ix Ty.body (Prod.fst x) (Int.toNat (Prod.snd (Prod.snd (Prod.snd (Prod.snd (Prod.snd (Prod.snd (Prod.snd x))))))))))) (Prod.fst (Prod.snd (Prod.snd x)))) ((List.length (Prod.fst (Prod.snd (Prod.snd (Prod.snd (Prod.snd x))))) + List.length [Body.Id (Ty.ix Ty.body (Prod.fst x) (Int.toNat (Prod.snd (Prod.snd (Prod.snd (Prod.snd (Prod.snd (Prod.snd (Prod.snd x)))))))))]) * (8 : Nat) ≤ room ∧ Holds (Prod.fst x = xs ∧ Prod.fst (Prod.snd x) = ps ∧ Prod.fst (Prod.snd (Prod.snd x)) = Box.mk (Vec.mk qA qB) (Vec.mk qC qD) ∧ Prod.fst (Prod.snd (Prod.snd (Prod.snd (Prod.snd (Prod.snd (Prod.snd x)))))) = (↑(List.length xs) : Int) ∧ (0 : Int) ≤ IntKind.wrap IntKind.i64 (Prod.snd (Prod.snd (Prod.snd (Prod.snd (Prod.snd (Prod.snd (Prod.snd x)))))) + (1 : Int)) ∧ IntKind.wrap IntKind.i64 (Prod.snd (Prod.snd (Prod.snd (Prod.snd (Prod.snd (Prod.snd (Prod.snd x)))))) + (1 : Int)) ≤ (↑(List.length xs) : Int) ∧ Prod.fst (Prod.snd (Prod.snd (Prod.snd (Prod.snd x)))) ++ [Body.Id (Ty.ix Ty.body (Prod.fst x) (Int.toNat (Prod.snd (Prod.snd (Prod.snd (Prod.snd (Prod.snd (Prod.snd (Prod.snd x)))))))))] ++ idsF (inB (Box.mk (Vec.mk qA qB) (Vec.mk qC qD))) (List.drop (Int.toNat (IntKind.wrap IntKind.i64 (Prod.snd (Prod.snd (Prod.snd (Prod.snd (Prod.snd (Prod.snd (Prod.snd x)))))) + (1 : Int)))) xs) = idsF (inB (Box.mk (Vec.mk qA qB) (Vec.mk qC qD))) xs) ∧ Int.toNat ((↑(List.length (Prod.fst x)) : Int) - IntKind.wrap IntKind.i64 (Prod.snd (Prod.snd (Prod.snd (Prod.snd (Prod.snd (Prod.snd (Prod.snd x)))))) + (1 : Int))) < Int.toNat ((↑(List.length (Prod.fst x)) : Int) - Prod.snd (Prod.snd (Prod.snd (Prod.snd (Prod.snd (Prod.snd (Prod.snd x)))))))) (Holds (Prod.fst x = xs ∧ Prod.fst (Prod.snd x) = ps ∧ Prod.fst (Prod.snd (Prod.snd x)) = Box.mk (Vec.mk qA qB) (Vec.mk qC qD) ∧ Prod.fst (Prod.snd (Prod.snd (Prod.snd (Prod.snd (Prod.snd (Prod.snd x)))))) = (↑(List.length xs) : Int) ∧ (0 : Int) ≤ IntKind.wrap IntKind.i64 (Prod.snd (Prod.snd (Prod.snd (Prod.snd (Prod.snd (Prod.snd (Prod.snd x)))))) + (1 : Int)) ∧ IntKind.wrap IntKind.i64 (Prod.snd (Prod.snd (Prod.snd (Prod.snd (Prod.snd (Prod.snd (Prod.snd x)))))) + (1 : Int)) ≤ (↑(List.length xs) : Int) ∧ Prod.fst (Prod.snd (Prod.snd (Prod.snd (Prod.snd x)))) ++ idsF (inB (Box.mk (Vec.mk qA qB) (Vec.mk qC qD))) (List.drop (Int.toNat (IntKind.wrap IntKind.i64 (Prod.snd (Prod.snd (Prod.snd (Prod.snd (Prod.snd (Prod.snd (Prod.snd x)))))) + (1 : Int)))) xs) = idsF (inB (Box.mk (Vec.mk qA qB) (Vec.mk qC qD))) xs) ∧ Int.toNat ((↑(List.length (Prod.fst x)) : Int) - IntKind.wrap IntKind.i64 (Prod.snd (Prod.snd (Prod.snd (Prod.snd (Prod.snd (Prod.snd (Prod.snd x)))))) + (1 : Int))) < Int.toNat ((↑(List.length (Prod.fst x)) : Int) - Prod.snd (Prod.snd (Prod.snd (Prod.snd (Prod.snd (Prod.snd (Prod.snd x))))))))) (Q (SV.vec (3 : Nat)) [(false, Blk.vec Ty.body (Prod.fst x)), (false, Blk.vec Ty.pair (Prod.fst (Prod.snd x))), (true, Blk.box [SV.int IntKind.i64 (Vec.X (Box.Low (Prod.fst (Prod.snd (Prod.snd x))))), SV.int IntKind.i64 (Vec.Y (Box.Low (Prod.fst (Prod.snd (Prod.snd x))))), SV.int IntKind.i64 (Vec.X (Box.High (Prod.fst (Prod.snd (Prod.snd x))))), SV.int IntKind.i64 (Vec.Y (Box.High (Prod.fst (Prod.snd (Prod.snd x)))))]), (true, Blk.vec Ty.int (Prod.fst (Prod.snd (Prod.snd (Prod.snd (Prod.snd x))))))])) := by kernel_rfl

theorem ok_idsIn : FsOk Try.prog 138 fs_idsIn := fsOk_of tt_ok (tabFs_cons ok_holdsIn tabFs_nil) mixed Try.func138 (by kernel_rfl) (by kernel_rfl) (by
    intro args LL p r HH h hp
    unfold fs_idsIn at h
    dsimp only at h
    split at h
    case h_2 => cases h
    rename_i t p xs ps qA qB qC qD
    simp only [Option.some.injEq, Prod.mk.injEq] at h
    obtain ⟨rfl, rfl, rfl⟩ := h
    refine ⟨by simp [Form, stays], (L_idsIn), ?_⟩
    rw [vc_idsIn]
    try dsimp only
    have hb := hp _ rfl
    refine ⟨⟨(by trivial), (by trivial), (by trivial), (by trivial), by omega, by omega, (by trivial)⟩, ?_⟩
    rintro ⟨xs', ps', q, f, out, u, n, i⟩ ⟨h⟩
    dsimp only at h ⊢
    obtain ⟨rfl, rfl, rfl, rfl, i0, i1, i2⟩ := h
    have hs := length_idsF (inB ⟨⟨qA, qB⟩, ⟨qC, qD⟩⟩) xs'
    have hs2 := congrArg List.length i2
    rw [List.length_append] at hs2
    refine ifB_of (fun c => ?_) (fun c => ?_)
    · have c := of_decide_eq_true c
      have e1 : (i + 1).toNat = i.toNat + 1 := by omega
      have w : IntKind.i64.wrap (i + 1) = i + 1 := wrap_small (by omega) (by omega)
      rw [idsF_drop (show i.toNat < xs'.length by omega)] at i2
      rw [w, e1]
      refine ⟨⟨i0, c⟩, ifB_of (fun c2 => ?_) (fun c2 => ?_)⟩
      · rw [show inB ⟨⟨qA, qB⟩, ⟨qC, qD⟩⟩ (Ty.ix .body xs' i.toNat) = true from c2] at i2
        refine ⟨by simp only [room, List.length_singleton]; omega, ⟨(by trivial), (by trivial), (by trivial), (by trivial), by omega, by omega, ?_⟩, by omega⟩
        rw [← i2, List.append_assoc]
        rfl
      · rw [show inB ⟨⟨qA, qB⟩, ⟨qC, qD⟩⟩ (Ty.ix .body xs' i.toNat) = false from c2] at i2
        exact ⟨⟨(by trivial), (by trivial), (by trivial), (by trivial), by omega, by omega, i2⟩, by omega⟩
    · have c := of_decide_eq_false c
      rw [drop_end (by omega)] at i2
      rw [← i2]
      simp [idsF])

def worldIn (t p : Int) (xs : List Body) (ps : List Pair) (q : Box) : List Int := bif worldOk t p xs ps && boxOk q then idsF (inB q) xs else []
theorem length_worldIn (t p : Int) (xs : List Body) (ps : List Pair) (q : Box) : (worldIn t p xs ps q).length ≤ xs.length := by
  unfold worldIn
  have := length_idsF (inB q) xs
  cases worldOk t p xs ps && boxOk q with
  | true => exact this
  | false => simp
noncomputable def fs_implWorldIn : Fs := ⟨[], fun args H => match args, H with
  | [.agg [.int .i64 t, .int .i64 p, .vec 0, .vec 1], .agg [.int .i64 qA, .int .i64 qB, .int .i64 qC, .int .i64 qD]], [(false, .vec .body xs), (false, .vec .pair ps)] => some ((some (xs.length ≤ 1048576 ∧ ps.length ≤ 1048576)), .vec 2, [(false, .vec .body xs), (false, .vec .pair ps), (true, .vec .int (worldIn t p xs ps ⟨⟨qA, qB⟩, ⟨qC, qD⟩⟩))])
  | _, _ => none⟩

theorem vc_implWorldIn (t : Int) (p : Int) (xs : List Body) (ps : List Pair) (qA : Int) (qB : Int) (qC : Int) (qD : Int) (Q : SV → List Ent → Prop) :
    fnVC tt (look [(40, fs_implWorldOk), (105, fs_implBoxOk), (138, fs_idsIn)]) L0 Try.f63 [.agg [.int .i64 t, .int .i64 p, .vec 0, .vec 1], .agg [.int .i64 qA, .int .i64 qB, .int .i64 qC, .int .i64 qD]] [(false, .vec .body xs), (false, .vec .pair ps)] Q =
    ((List.length xs ≤ (1048576 : Nat) ∧ List.length ps ≤ (1048576 : Nat)) ∧ ifB (!worldOk t p xs ps) (Q (SV.vec (2 : Nat)) [(false, Blk.vec Ty.body xs), (false, Blk.vec Ty.pair ps), (true, Blk.vec Ty.int [])]) (ifB (!boxOk (Box.mk (Vec.mk qA qB) (Vec.mk qC qD))) (Q (SV.vec (2 : Nat)) [(false, Blk.vec Ty.body xs), (false, Blk.vec Ty.pair ps), (true, Blk.vec Ty.int [])]) (List.length xs ≤ (1048576 : Nat) ∧ Q (SV.vec (2 : Nat)) [(false, Blk.vec Ty.body xs), (false, Blk.vec Ty.pair ps), (true, Blk.vec Ty.int (idsF (inB (Box.mk (Vec.mk qA qB) (Vec.mk qC qD))) xs))]))) := by kernel_rfl

theorem ok_implWorldIn : FsOk Try.prog 63 fs_implWorldIn := fsOk_of tt_ok (tabFs_cons ok_implWorldOk (tabFs_cons ok_implBoxOk (tabFs_cons ok_idsIn tabFs_nil))) mixed Try.func63 (by kernel_rfl) (by kernel_rfl) (by
    intro args LL p r HH h hp
    unfold fs_implWorldIn at h
    dsimp only at h
    split at h
    case h_2 => cases h
    rename_i t p qA qB qC qD xs ps
    simp only [Option.some.injEq, Prod.mk.injEq] at h
    obtain ⟨rfl, rfl, rfl⟩ := h
    refine ⟨by simp [Form, stays], L0, ?_⟩
    rw [vc_implWorldIn]
    try dsimp only
    obtain ⟨hb, hb2⟩ := hp _ rfl
    refine ⟨⟨hb, hb2⟩, ifB_of (fun c => ?_) (fun c => ifB_of (fun c2 => ?_) (fun c2 => ⟨hb, ?_⟩))⟩
    · simp [worldIn, not_true c]
    · simp [worldIn, not_true c2]
    · rw [idsIn_same (not_false c) (not_false c2)]
      simp [worldIn, not_false c, not_false c2])

def LSspecIn  : LS where
  S := List Body × List Pair × (Int × Int) × Box × List Int × Int
  live := [(2, [none]), (3, [none]), (5, [some .int]), (6, [none])]
  shape := fun s => ([.ptr 2 0 0, .ptr 3 0 0, .vec 4, .int .i64 s.2.2.2.2.2], [(false, .vec .body s.1), (false, .vec .pair s.2.1), (true, .box [.int .i64 s.2.2.1.1, .int .i64 s.2.2.1.2, .vec 0, .vec 1]), (true, .box [.int .i64 s.2.2.2.1.Low.X, .int .i64 s.2.2.2.1.Low.Y, .int .i64 s.2.2.2.1.High.X, .int .i64 s.2.2.2.1.High.Y]), (true, .vec .int s.2.2.2.2.1)])
  get := fun v h => match v, h with
    | [.ptr 2 0 0, .ptr 3 0 0, .vec 4, .int .i64 i], [(false, .vec .body xs), (false, .vec .pair ps), (true, .box [.int .i64 w_0, .int .i64 w_1, .vec 0, .vec 1]), (true, .box [.int .i64 qLX, .int .i64 qLY, .int .i64 qHX, .int .i64 qHY]), (true, .vec .int out)] => some (xs, ps, (w_0, w_1), (Box.mk (Vec.mk qLX qLY) (Vec.mk qHX qHY)), out, i)
    | _, _ => none
  inv := fun s0 s => Holds (s.1 = s0.1 ∧ s.2.1 = s0.2.1 ∧ s.2.2.1 = s0.2.2.1 ∧ s.2.2.2.1 = s0.2.2.2.1 ∧ 0 ≤ s.2.2.2.2.2 ∧ s.2.2.2.2.2 ≤ s0.1.length ∧ s.2.2.2.2.1 ++ idsF (inB s0.2.2.2.1) (s0.1.drop s.2.2.2.2.2.toNat) = idsF (inB s0.2.2.2.1) s0.1)
  mu := fun s => ((s.1.length : Int) - s.2.2.2.2.2).toNat
  ok := by
    intro v h s hg
    try dsimp only at hg
    split at hg <;> cases hg
    rfl

def L_specIn : Loops := fun n => match n with
  | 5 => some LSspecIn
  | _ => none
noncomputable def fs_specWorldIn : Fs := ⟨[], fun args H => match args, H with
  | [.agg [.int .i64 t, .int .i64 p, .vec 0, .vec 1], .agg [.int .i64 qA, .int .i64 qB, .int .i64 qC, .int .i64 qD]], [(false, .vec .body xs), (false, .vec .pair ps)] => some ((some (xs.length ≤ 1048576 ∧ ps.length ≤ 1048576)), .vec 2, [(false, .vec .body xs), (false, .vec .pair ps), (true, .vec .int (worldIn t p xs ps ⟨⟨qA, qB⟩, ⟨qC, qD⟩⟩))])
  | _, _ => none⟩

theorem vc_specWorldIn (t : Int) (p : Int) (xs : List Body) (ps : List Pair) (qA : Int) (qB : Int) (qC : Int) (qD : Int) (Q : SV → List Ent → Prop) :
    fnVC tt (look [(38, fs_specWorldOk), (81, fs_specBoxOk), (101, fs_l3Bounds), (137, fs_l3Meets)]) (L_specIn) Try.f61 [.agg [.int .i64 t, .int .i64 p, .vec 0, .vec 1], .agg [.int .i64 qA, .int .i64 qB, .int .i64 qC, .int .i64 qD]] [(false, .vec .body xs), (false, .vec .pair ps)] Q =
    ((List.length xs ≤ (1048576 : Nat) ∧ List.length ps ≤ (1048576 : Nat)) ∧ ifB (!worldOk t p xs ps) (Q (SV.vec (2 : Nat)) [(false, Blk.vec Ty.body xs), (false, Blk.vec Ty.pair ps), (true, Blk.vec Ty.int [])]) (ifB (!boxOk (Box.mk (Vec.mk qA qB) (Vec.mk qC qD))) (Q (SV.vec (2 : Nat)) [(false, Blk.vec Ty.body xs), (false, Blk.vec Ty.pair ps), (true, Blk.vec Ty.int [])]) (Holds (xs = xs ∧ ps = ps ∧ (t, p) = (t, p) ∧ Box.mk (Vec.mk qA qB) (Vec.mk qC qD) = Box.mk (Vec.mk qA qB) (Vec.mk qC qD) ∧ (0 : Int) ≤ (0 : Int) ∧ (0 : Int) ≤ (↑(List.length xs) : Int) ∧ [] ++ idsF (inB (Box.mk (Vec.mk qA qB) (Vec.mk qC qD))) (List.drop (Int.toNat (0 : Int)) xs) = idsF (inB (Box.mk (Vec.mk qA qB) (Vec.mk qC qD))) xs) ∧ ∀ (x : List Body × List Pair × (Int × Int) × Box × List Int × Int), Holds (Prod.fst x = xs ∧ Prod.fst (Prod.snd x) = ps ∧ Prod.fst (Prod.snd (Prod.snd x)) = (t, p) ∧ Prod.fst (Prod.snd (Prod.snd (Prod.snd x))) = Box.mk (Vec.mk qA qB) (Vec.mk qC qD) ∧ (0 : Int) ≤ Prod.snd (Prod.snd (Prod.snd (Prod.snd (Prod.snd x)))) ∧ Prod.snd (Prod.snd (Prod.snd (Prod.snd (Prod.snd x)))) ≤ (↑(List.length xs) : Int) ∧ Prod.fst (Prod.snd (Prod.snd (Prod.snd (Prod.snd x)))) ++ idsF (inB (Box.mk (Vec.mk qA qB) (Vec.mk qC qD))) (List.drop (Int.toNat (Prod.snd (Prod.snd (Prod.snd (Prod.snd (Prod.snd x)))))) xs) = idsF (inB (Box.mk (Vec.mk qA qB) (Vec.mk qC qD))) xs) → ifB (decide (Prod.snd (Prod.snd (Prod.snd (Prod.snd (Prod.snd x)))) < (↑(List.length (Prod.fst x)) : Int))) (((0 : Int) ≤ Prod.snd (Prod.snd (Prod.snd (Prod.snd (Prod.snd x)))) ∧ Prod.snd (Prod.snd (Prod.snd (Prod.snd (Prod.snd x)))) < (↑(List.length (Prod.fst x)) : Int)) ∧ ((0 : Int) ≤ Prod.snd (Prod.snd (Prod.snd (Prod.snd (Prod.snd x)))) ∧ Prod.snd (Prod.snd (Prod.snd (Prod.snd (Prod.snd x)))) < (↑(List.length (Prod.fst x)) : Int)) ∧ ifB (boxMeets (bounds (Body.Shape (Ty.ix Ty.body (Prod.fst x) (Int.toNat (Prod.snd (Prod.snd (Prod.snd (Prod.snd (Prod.snd x)))))))) (Body.At (Ty.ix Ty.body (Prod.fst x) (Int.toNat (Prod.snd (Prod.snd (Prod.snd (Prod.snd (Prod.snd x))))))))) (Prod.fst (Prod.snd (Prod.snd (Prod.snd x))))) (((0 : Int) ≤ Prod.snd (Prod.snd (Prod.snd (Prod.snd (Prod.snd x)))) ∧ Prod.snd (Prod.snd (Prod.snd (Prod.snd (Prod.snd x)))) < (↑(List.length (Prod.fst x)) : Int)) ∧ (List.length (Prod.fst (Prod.snd (Prod.snd (Prod.snd (Prod.snd x))))) + List.length [Body.Id (Ty.ix Ty.body (Prod.fst x) (Int.toNat (Prod.snd (Prod.snd (Prod.snd (Prod.snd (Prod.snd x)))))))]) * (8 : Nat) ≤ room ∧ Holds (Prod.fst x = xs ∧ Prod.fst (Prod.snd x) = ps ∧ Prod.fst (Prod.snd (Prod.snd x)) = (t, p) ∧ Prod.fst (Prod.snd (Prod.snd (Prod.snd x))) = Box.mk (Vec.mk qA qB) (Vec.mk qC qD) ∧ (0 : Int) ≤ IntKind.wrap IntKind.i64 (Prod.snd (Prod.snd (Prod.snd (Prod.snd (Prod.snd x)))) + (1 : Int)) ∧ IntKind.wrap IntKind.i64 (Prod.snd (Prod.snd (Prod.snd (Prod.snd (Prod.snd x)))) + (1 : Int)) ≤ (↑(List.length xs) : Int) ∧ Prod.fst (Prod.snd (Prod.snd (Prod.snd (Prod.snd x)))) ++ [Body.Id (Ty.ix Ty.body (Prod.fst x) (Int.toNat (Prod.snd (Prod.snd (Prod.snd (Prod.snd (Prod.snd x)))))))] ++ idsF (inB (Box.mk (Vec.mk qA qB) (Vec.mk qC qD))) (List.drop (Int.toNat (IntKind.wrap IntKind.i64 (Prod.snd (Prod.snd (Prod.snd (Prod.snd (Prod.snd x)))) + (1 : Int)))) xs) = idsF (inB (Box.mk (Vec.mk qA qB) (Vec.mk qC qD))) xs) ∧ Int.toNat ((↑(List.length (Prod.fst x)) : Int) - IntKind.wrap IntKind.i64 (Prod.snd (Prod.snd (Prod.snd (Prod.snd (Prod.snd x)))) + (1 : Int))) < Int.toNat ((↑(List.length (Prod.fst x)) : Int) - Prod.snd (Prod.snd (Prod.snd (Prod.snd (Prod.snd x)))))) (Holds (Prod.fst x = xs ∧ Prod.fst (Prod.snd x) = ps ∧ Prod.fst (Prod.snd (Prod.snd x)) = (t, p) ∧ Prod.fst (Prod.snd (Prod.snd (Prod.snd x))) = Box.mk (Vec.mk qA qB) (Vec.mk qC qD) ∧ (0 : Int) ≤ IntKind.wrap IntKind.i64 (Prod.snd (Prod.snd (Prod.snd (Prod.snd (Prod.snd x)))) + (1 : Int)) ∧ IntKind.wrap IntKind.i64 (Prod.snd (Prod.snd (Prod.snd (Prod.snd (Prod.snd x)))) + (1 : Int)) ≤ (↑(List.length xs) : Int) ∧ Prod.fst (Prod.snd (Prod.snd (Prod.snd (Prod.snd x)))) ++ idsF (inB (Box.mk (Vec.mk qA qB) (Vec.mk qC qD))) (List.drop (Int.toNat (IntKind.wrap IntKind.i64 (Prod.snd (Prod.snd (Prod.snd (Prod.snd (Prod.snd x)))) + (1 : Int)))) xs) = idsF (inB (Box.mk (Vec.mk qA qB) (Vec.mk qC qD))) xs) ∧ Int.toNat ((↑(List.length (Prod.fst x)) : Int) - IntKind.wrap IntKind.i64 (Prod.snd (Prod.snd (Prod.snd (Prod.snd (Prod.snd x)))) + (1 : Int))) < Int.toNat ((↑(List.length (Prod.fst x)) : Int) - Prod.snd (Prod.snd (Prod.snd (Prod.snd (Prod.snd x))))))) (Q (SV.vec (2 : Nat)) [(false, Blk.vec Ty.body (Prod.fst x)), (false, Blk.vec Ty.pair (Prod.fst (Prod.snd x))), (true, Blk.vec Ty.int (Prod.fst (Prod.snd (Prod.snd (Prod.snd (Prod.snd x))))))])))) := by kernel_rfl

theorem ok_specWorldIn : FsOk Try.prog 61 fs_specWorldIn := fsOk_of tt_ok (tabFs_cons ok_specWorldOk (tabFs_cons ok_specBoxOk (tabFs_cons ok_l3Bounds (tabFs_cons ok_l3Meets tabFs_nil)))) mixed Try.func61 (by kernel_rfl) (by kernel_rfl) (by
    intro args LL p r HH h hp
    unfold fs_specWorldIn at h
    dsimp only at h
    split at h
    case h_2 => cases h
    rename_i t p qA qB qC qD xs ps
    simp only [Option.some.injEq, Prod.mk.injEq] at h
    obtain ⟨rfl, rfl, rfl⟩ := h
    refine ⟨by simp [Form, stays], (L_specIn), ?_⟩
    rw [vc_specWorldIn]
    try dsimp only
    obtain ⟨hb, hb2⟩ := hp _ rfl
    refine ⟨⟨hb, hb2⟩, ifB_of (fun c => ?_) (fun c => ifB_of (fun c2 => ?_) (fun c2 => ?_))⟩
    · simp [worldIn, not_true c]
    · simp [worldIn, not_true c2]
    have e : worldIn t p xs ps ⟨⟨qA, qB⟩, ⟨qC, qD⟩⟩ = idsF (inB ⟨⟨qA, qB⟩, ⟨qC, qD⟩⟩) xs := by simp [worldIn, not_false c, not_false c2]
    rw [e]
    refine ⟨⟨(by trivial), (by trivial), (by trivial), (by trivial), by omega, by omega, (by trivial)⟩, ?_⟩
    rintro ⟨xs', ps', w, q, out, i⟩ ⟨h⟩
    dsimp only at h ⊢
    obtain ⟨rfl, rfl, rfl, rfl, i0, i1, i2⟩ := h
    have hs := length_idsF (inB ⟨⟨qA, qB⟩, ⟨qC, qD⟩⟩) xs'
    have hs2 := congrArg List.length i2
    rw [List.length_append] at hs2
    refine ifB_of (fun c3 => ?_) (fun c3 => ?_)
    · have c3 := of_decide_eq_true c3
      have e1 : (i + 1).toNat = i.toNat + 1 := by omega
      have w : IntKind.i64.wrap (i + 1) = i + 1 := wrap_small (by omega) (by omega)
      rw [idsF_drop (show i.toNat < xs'.length by omega)] at i2
      rw [w, e1]
      refine ⟨⟨i0, c3⟩, ⟨i0, c3⟩, ifB_of (fun c4 => ?_) (fun c4 => ?_)⟩
      · rw [show inB ⟨⟨qA, qB⟩, ⟨qC, qD⟩⟩ (Ty.ix .body xs' i.toNat) = true from c4] at i2
        refine ⟨⟨i0, c3⟩, by simp only [room, List.length_singleton]; omega, ⟨(by trivial), (by trivial), (by trivial), (by trivial), by omega, by omega, ?_⟩, by omega⟩
        rw [← i2, List.append_assoc]
        rfl
      · rw [show inB ⟨⟨qA, qB⟩, ⟨qC, qD⟩⟩ (Ty.ix .body xs' i.toNat) = false from c4] at i2
        exact ⟨⟨(by trivial), (by trivial), (by trivial), (by trivial), by omega, by omega, i2⟩, by omega⟩
    · have c3 := of_decide_eq_false c3
      rw [drop_end (by omega)] at i2
      rw [← i2]
      simp [idsF])

noncomputable def fs_lawExactWorldIn : Fs := ⟨[], fun args H => match args, H with
  | [.agg [.int .i64 t, .int .i64 p, .vec 0, .vec 1], .agg [.int .i64 qA, .int .i64 qB, .int .i64 qC, .int .i64 qD]], [(false, .vec .body xs), (false, .vec .pair ps)] => some ((some (LOk .body xs ∧ LOk .pair ps)), .bool true, [(false, .vec .body xs), (false, .vec .pair ps)])
  | _, _ => none⟩

theorem vc_lawExactWorldIn (t : Int) (p : Int) (xs : List Body) (ps : List Pair) (qA : Int) (qB : Int) (qC : Int) (qD : Int) (Q : SV → List Ent → Prop) :
    fnVC tt (look [(37, fs_szWorld), (39, fs_toWorld), (62, fs_lawsToBox), (61, fs_specWorldIn), (63, fs_implWorldIn), (41, fs_lawsEqWorld), (64, fs_lawsEqIntS), (65, fs_lawsMarkWorld), (66, fs_lawsMarkIntS), (67, fs_lawsHeldIntS)]) L0 Try.f12 [.agg [.int .i64 t, .int .i64 p, .vec 0, .vec 1], .agg [.int .i64 qA, .int .i64 qB, .int .i64 qC, .int .i64 qD]] [(false, .vec .body xs), (false, .vec .pair ps)] Q =
    (ifB (decide (szW (1048576 : Int) (List.length xs) (List.length ps) < (0 : Int))) (Q (SV.bool true) [(false, Blk.vec Ty.body xs), (false, Blk.vec Ty.pair ps)]) ((List.length xs ≤ (1048576 : Nat) ∧ List.length ps ≤ (1048576 : Nat)) ∧ (List.length xs ≤ (1048576 : Nat) ∧ List.length ps ≤ (1048576 : Nat)) ∧ (List.length xs ≤ (1048576 : Nat) ∧ List.length ps ≤ (1048576 : Nat)) ∧ (List.length xs ≤ (1048576 : Nat) ∧ List.length ps ≤ (1048576 : Nat)) ∧ List.length (worldIn t p xs ps (Box.mk (Vec.mk qA qB) (Vec.mk qC qD))) ≤ (4611686018427387904 : Nat) ∧ ifB (!same (worldIn t p xs ps (Box.mk (Vec.mk qA qB) (Vec.mk qC qD))) (worldIn t p xs ps (Box.mk (Vec.mk qA qB) (Vec.mk qC qD)))) (Q (SV.bool false) [(false, Blk.vec Ty.body xs), (false, Blk.vec Ty.pair ps)]) ((List.length xs ≤ (1048576 : Nat) ∧ List.length ps ≤ (1048576 : Nat)) ∧ (List.length xs ≤ (4611686018427387904 : Nat) ∧ List.length ps ≤ (4611686018427387904 : Nat)) ∧ ifB (!eqW4 t p xs ps t p xs ps) (Q (SV.bool false) [(false, Blk.vec Ty.body xs), (false, Blk.vec Ty.pair ps)]) ((List.length xs ≤ (1048576 : Nat) ∧ List.length ps ≤ (1048576 : Nat) ∧ (0 : Int) ≤ (1 : Int) ∧ (1 : Int) ≤ (10000000000 : Int)) ∧ List.length (worldIn t p xs ps (Box.mk (Vec.mk qA qB) (Vec.mk qC qD))) ≤ (4611686018427387904 : Nat) ∧ ifB (!same (worldIn t p xs ps (Box.mk (Vec.mk qA qB) (Vec.mk qC qD))) (worldIn t p xs ps (Box.mk (Vec.mk qA qB) (Vec.mk qC qD)))) (Q (SV.bool false) [(false, Blk.vec Ty.body xs), (false, Blk.vec Ty.pair ps)]) ((List.length (worldIn t p xs ps (Box.mk (Vec.mk qA qB) (Vec.mk qC qD))) ≤ (1048576 : Nat) ∧ (0 : Int) ≤ (1 : Int) ∧ (1 : Int) ≤ (1000000000000 : Int)) ∧ (List.length (gen (fun e => mkInt ((1 : Int) + (1 : Int) * (↑e : Int))) (List.length (worldIn t p xs ps (Box.mk (Vec.mk qA qB) (Vec.mk qC qD))))) ≤ (1048576 : Nat) ∧ (0 : Int) ≤ (1 : Int) ∧ (1 : Int) ≤ (1000000000000 : Int)) ∧ ifB (decide ((bif same (gen (fun e => mkInt ((1 : Int) + (1 : Int) * (↑e : Int))) (List.length (worldIn t p xs ps (Box.mk (Vec.mk qA qB) (Vec.mk qC qD))))) (gen (fun e => mkInt ((1 : Int) + (1 : Int) * (↑e : Int))) (List.length (gen (fun e => mkInt ((1 : Int) + (1 : Int) * (↑e : Int))) (List.length (worldIn t p xs ps (Box.mk (Vec.mk qA qB) (Vec.mk qC qD))))))) then (1 : Int) + (1 : Int) * (↑(List.length (gen (fun e => mkInt ((1 : Int) + (1 : Int) * (↑e : Int))) (List.length (worldIn t p xs ps (Box.mk (Vec.mk qA qB) (Vec.mk qC qD)))))) : Int) else (-1 : Int)) < (0 : Int))) (Q (SV.bool false) [(false, Blk.vec Ty.body xs), (false, Blk.vec Ty.pair ps)]) (ifB ((bif same (gen (fun e => mkInt ((1 : Int) + (1 : Int) * (↑e : Int))) (List.length (worldIn t p xs ps (Box.mk (Vec.mk qA qB) (Vec.mk qC qD))))) (gen (fun e => mkInt ((1 : Int) + (1 : Int) * (↑e : Int))) (List.length (gen (fun e => mkInt ((1 : Int) + (1 : Int) * (↑e : Int))) (List.length (worldIn t p xs ps (Box.mk (Vec.mk qA qB) (Vec.mk qC qD))))))) then (1 : Int) + (1 : Int) * (↑(List.length (gen (fun e => mkInt ((1 : Int) + (1 : Int) * (↑e : Int))) (List.length (worldIn t p xs ps (Box.mk (Vec.mk qA qB) (Vec.mk qC qD)))))) : Int) else (-1 : Int)) != (1 : Int) + (1 : Int) * (↑(List.length (worldIn t p xs ps (Box.mk (Vec.mk qA qB) (Vec.mk qC qD)))) : Int)) (Q (SV.bool false) [(false, Blk.vec Ty.body xs), (false, Blk.vec Ty.pair ps)]) ((List.length xs ≤ (1048576 : Nat) ∧ List.length ps ≤ (1048576 : Nat)) ∧ (List.length xs ≤ (1048576 : Nat) ∧ List.length ps ≤ (1048576 : Nat)) ∧ List.length (worldIn t p xs ps (Box.mk (Vec.mk qA qB) (Vec.mk qC qD))) ≤ (4611686018427387904 : Nat) ∧ ifB (!same (worldIn t p xs ps (Box.mk (Vec.mk qA qB) (Vec.mk qC qD))) (worldIn t p xs ps (Box.mk (Vec.mk qA qB) (Vec.mk qC qD)))) (Q (SV.bool false) [(false, Blk.vec Ty.body xs), (false, Blk.vec Ty.pair ps)]) ((List.length (gen (fun e => mkInt ((1 : Int) + (1 : Int) * (↑e : Int))) (List.length (worldIn t p xs ps (Box.mk (Vec.mk qA qB) (Vec.mk qC qD))))) ≤ (1048576 : Nat) ∧ (0 : Int) ≤ (1 : Int) ∧ (1 : Int) ≤ (1000000000000 : Int)) ∧ ifB (decide ((bif same (gen (fun e => mkInt ((1 : Int) + (1 : Int) * (↑e : Int))) (List.length (worldIn t p xs ps (Box.mk (Vec.mk qA qB) (Vec.mk qC qD))))) (gen (fun e => mkInt ((1 : Int) + (1 : Int) * (↑e : Int))) (List.length (gen (fun e => mkInt ((1 : Int) + (1 : Int) * (↑e : Int))) (List.length (worldIn t p xs ps (Box.mk (Vec.mk qA qB) (Vec.mk qC qD))))))) then (1 : Int) + (1 : Int) * (↑(List.length (gen (fun e => mkInt ((1 : Int) + (1 : Int) * (↑e : Int))) (List.length (worldIn t p xs ps (Box.mk (Vec.mk qA qB) (Vec.mk qC qD)))))) : Int) else (-1 : Int)) < (0 : Int))) (Q (SV.bool false) [(false, Blk.vec Ty.body xs), (false, Blk.vec Ty.pair ps)]) (ifB ((bif same (gen (fun e => mkInt ((1 : Int) + (1 : Int) * (↑e : Int))) (List.length (worldIn t p xs ps (Box.mk (Vec.mk qA qB) (Vec.mk qC qD))))) (gen (fun e => mkInt ((1 : Int) + (1 : Int) * (↑e : Int))) (List.length (gen (fun e => mkInt ((1 : Int) + (1 : Int) * (↑e : Int))) (List.length (worldIn t p xs ps (Box.mk (Vec.mk qA qB) (Vec.mk qC qD))))))) then (1 : Int) + (1 : Int) * (↑(List.length (gen (fun e => mkInt ((1 : Int) + (1 : Int) * (↑e : Int))) (List.length (worldIn t p xs ps (Box.mk (Vec.mk qA qB) (Vec.mk qC qD)))))) : Int) else (-1 : Int)) != (1 : Int) + (1 : Int) * (↑(List.length (worldIn t p xs ps (Box.mk (Vec.mk qA qB) (Vec.mk qC qD)))) : Int)) (Q (SV.bool false) [(false, Blk.vec Ty.body xs), (false, Blk.vec Ty.pair ps)]) (Q (SV.bool true) [(false, Blk.vec Ty.body xs), (false, Blk.vec Ty.pair ps)])))))))))) := by kernel_rfl

theorem ok_lawExactWorldIn : FsOk Try.prog 12 fs_lawExactWorldIn := fsOk_of tt_ok (tabFs_cons ok_szWorld (tabFs_cons ok_toWorld (tabFs_cons ok_lawsToBox (tabFs_cons ok_specWorldIn (tabFs_cons ok_implWorldIn (tabFs_cons ok_lawsEqWorld (tabFs_cons ok_lawsEqIntS (tabFs_cons ok_lawsMarkWorld (tabFs_cons ok_lawsMarkIntS (tabFs_cons ok_lawsHeldIntS tabFs_nil)))))))))) mixed Try.func12 (by kernel_rfl) (by kernel_rfl) (by
    intro args LL p r HH h hp
    unfold fs_lawExactWorldIn at h
    dsimp only at h
    split at h
    case h_2 => cases h
    rename_i t p qA qB qC qD xs ps
    simp only [Option.some.injEq, Prod.mk.injEq] at h
    obtain ⟨rfl, rfl, rfl⟩ := h
    refine ⟨by simp [Form, stays], L0, ?_⟩
    rw [vc_lawExactWorldIn]
    try dsimp only
    obtain ⟨⟨hb, _⟩, hb2, _⟩ := hp _ rfl
    refine ifB_of (fun c => ⟨rfl, rfl⟩) (fun c => ?_)
    obtain ⟨k1, k2⟩ := szW_le c hb hb2
    have hg := length_worldIn t p xs ps ⟨⟨qA, qB⟩, ⟨qC, qD⟩⟩
    simp only [eqW4_self]

    simp only [same_self, length_gen, Bool.not_true, beq_self_eq_true, cond_true, bne_self_eq_false, ifB]
    repeat' (first | refine pre_of ?_ (fun _ => ?_) | refine ifB_of (fun c => ?_) (fun c => ?_) | fail)
    all_goals first
      | omega
      | trivial
      | (rename_i c; have c := of_decide_eq_true c; omega))

end Go.Proofs.Ytgdpaijphaeimaa.Sym
