/-
  Worlds: a body put.
  No condition.
-/
import Derived.Test.YthkdelepjndacaaW1
import Derived.Test.YthkdelepjndacaaI1
namespace Go.Proofs.Ythkdelepjndacaa.Sym
open Go
set_option linter.unusedVariables false
set_option linter.unusedSimpArgs false
set_option maxRecDepth 100000

def insB (xs : List Body) (k : Nat) (b : Body) : List Body := xs.take k ++ [b] ++ xs.drop k
def putCode (ok : Bool) (xs : List Body) (b : Body) : Int := bif ok && bodyOk b then bif hasB xs b.Id then 2 else bif decide (xs.length ≥ 12) then 3 else 0 else 1
def putBodies (xs : List Body) (b : Body) : List Body := bif bodyOk b && !hasB xs b.Id && !decide (xs.length ≥ 12) then insB xs (atB xs b.Id) b else xs
theorem take_restB (xs : List Body) (k : Nat) : List.take (xs.length - k) (List.drop k xs) = xs.drop k := List.take_of_length_le (by simp)
theorem worldOk_len {t p : Int} {xs : List Body} {ps : List Pair} (h : worldOk t p xs ps = true) : xs.length ≤ 12 := by
  simp only [worldOk, Bool.and_eq_true] at h
  exact bodiesOk_len h.1.2
noncomputable def fs_specWorldPut : Fs := ⟨[], fun args H => match args, H with
  | [.agg [.int .i64 t, .int .i64 p, .vec 0, .vec 1], .agg [.int .i64 aI, .int .i64 aK, .int .i64 aW, .int .i64 aH, .int .i64 aX, .int .i64 aY, .int .i64 aU, .int .i64 aV, .int .i64 aM, .int .i64 aB, .int .i64 aR, .int .i64 aQ]], [(false, .vec .body xs), (false, .vec .pair ps)] => some ((some (xs.length ≤ 1048576 ∧ ps.length ≤ 1048576)), .tup [.agg [.int .i64 (orI (worldOk t p xs ps) t), .int .i64 (orI (worldOk t p xs ps) p), .vec 2, .vec 3], .int .i64 (putCode (worldOk t p xs ps) xs ⟨aI, ⟨aK, aW, aH⟩, ⟨aX, aY⟩, ⟨aU, aV⟩, aM, aB, aR, aQ⟩)], [(false, .vec .body xs), (false, .vec .pair ps), (true, .vec .body (orL (worldOk t p xs ps) (putBodies xs ⟨aI, ⟨aK, aW, aH⟩, ⟨aX, aY⟩, ⟨aU, aV⟩, aM, aB, aR, aQ⟩))), (true, .vec .pair (orL (worldOk t p xs ps) ps))])
  | _, _ => none⟩

theorem vc_specWorldPut (t : Int) (p : Int) (xs : List Body) (ps : List Pair) (aI : Int) (aK : Int) (aW : Int) (aH : Int) (aX : Int) (aY : Int) (aU : Int) (aV : Int) (aM : Int) (aB : Int) (aR : Int) (aQ : Int) (Q : SV → List Ent → Prop) :
    fnVC tt (look [(61, fs_specWorldOk), (66, fs_l10At), (79, fs_specBodyOk), (68, fs_specCopyW)]) L0 Try.f40 [.agg [.int .i64 t, .int .i64 p, .vec 0, .vec 1], .agg [.int .i64 aI, .int .i64 aK, .int .i64 aW, .int .i64 aH, .int .i64 aX, .int .i64 aY, .int .i64 aU, .int .i64 aV, .int .i64 aM, .int .i64 aB, .int .i64 aR, .int .i64 aQ]] [(false, .vec .body xs), (false, .vec .pair ps)] Q =
    ((List.length xs ≤ (1048576 : Nat) ∧ List.length ps ≤ (1048576 : Nat)) ∧ ifB (!worldOk t p xs ps) (Q (SV.tup [SV.agg [SV.int IntKind.i64 (0 : Int), SV.int IntKind.i64 (0 : Int), SV.vec (2 : Nat), SV.vec (3 : Nat)], SV.int IntKind.i64 (1 : Int)]) [(false, Blk.vec Ty.body xs), (false, Blk.vec Ty.pair ps), (true, Blk.vec Ty.body []), (true, Blk.vec Ty.pair [])]) (List.length xs ≤ (4611686018427387904 : Nat) ∧ ifB (!bodyOk (Body.mk aI (Shape.mk aK aW aH) (Vec.mk aX aY) (Vec.mk aU aV) aM aB aR aQ)) ((List.length xs ≤ (1048576 : Nat) ∧ List.length ps ≤ (1048576 : Nat)) ∧ Q (SV.tup [SV.agg [SV.int IntKind.i64 t, SV.int IntKind.i64 p, SV.vec (2 : Nat), SV.vec (3 : Nat)], SV.int IntKind.i64 (1 : Int)]) [(false, Blk.vec Ty.body xs), (false, Blk.vec Ty.pair ps), (true, Blk.vec Ty.body xs), (true, Blk.vec Ty.pair ps)]) (ifB (hasB xs aI) ((List.length xs ≤ (1048576 : Nat) ∧ List.length ps ≤ (1048576 : Nat)) ∧ Q (SV.tup [SV.agg [SV.int IntKind.i64 t, SV.int IntKind.i64 p, SV.vec (2 : Nat), SV.vec (3 : Nat)], SV.int IntKind.i64 (2 : Int)]) [(false, Blk.vec Ty.body xs), (false, Blk.vec Ty.pair ps), (true, Blk.vec Ty.body xs), (true, Blk.vec Ty.pair ps)]) (ifB (decide ((↑(List.length xs) : Int) ≥ (12 : Int))) ((List.length xs ≤ (1048576 : Nat) ∧ List.length ps ≤ (1048576 : Nat)) ∧ Q (SV.tup [SV.agg [SV.int IntKind.i64 t, SV.int IntKind.i64 p, SV.vec (2 : Nat), SV.vec (3 : Nat)], SV.int IntKind.i64 (3 : Int)]) [(false, Blk.vec Ty.body xs), (false, Blk.vec Ty.pair ps), (true, Blk.vec Ty.body xs), (true, Blk.vec Ty.pair ps)]) ((List.length xs ≤ (1048576 : Nat) ∧ List.length ps ≤ (1048576 : Nat)) ∧ ((0 : Int) ≤ (↑(atB xs aI) : Int) ∧ (↑(atB xs aI) : Int) ≤ (↑(List.length xs) : Int)) ∧ ((0 : Nat) + List.length (List.take (Int.toNat (↑(atB xs aI) : Int)) (List.drop (0 : Nat) xs))) * (96 : Nat) ≤ room ∧ (List.length ([] ++ List.take (Int.toNat (↑(atB xs aI) : Int)) (List.drop (0 : Nat) xs)) + List.length [Body.mk aI (Shape.mk aK aW aH) (Vec.mk aX aY) (Vec.mk aU aV) aM aB aR aQ]) * (96 : Nat) ≤ room ∧ ((0 : Int) ≤ (↑(atB xs aI) : Int) ∧ (↑(atB xs aI) : Int) ≤ (↑(List.length xs) : Int)) ∧ (List.length ([] ++ List.take (Int.toNat (↑(atB xs aI) : Int)) (List.drop (0 : Nat) xs) ++ [Body.mk aI (Shape.mk aK aW aH) (Vec.mk aX aY) (Vec.mk aU aV) aM aB aR aQ]) + List.length (List.take (List.length xs - Int.toNat (↑(atB xs aI) : Int)) (List.drop (Int.toNat (↑(atB xs aI) : Int)) xs))) * (96 : Nat) ≤ room ∧ Q (SV.tup [SV.agg [SV.int IntKind.i64 t, SV.int IntKind.i64 p, SV.vec (2 : Nat), SV.vec (3 : Nat)], SV.int IntKind.i64 (0 : Int)]) [(false, Blk.vec Ty.body xs), (false, Blk.vec Ty.pair ps), (true, Blk.vec Ty.body ([] ++ List.take (Int.toNat (↑(atB xs aI) : Int)) (List.drop (0 : Nat) xs) ++ [Body.mk aI (Shape.mk aK aW aH) (Vec.mk aX aY) (Vec.mk aU aV) aM aB aR aQ] ++ List.take (List.length xs - Int.toNat (↑(atB xs aI) : Int)) (List.drop (Int.toNat (↑(atB xs aI) : Int)) xs))), (true, Blk.vec Ty.pair ps)]))))) := by kernel_rfl

theorem ok_specWorldPut : FsOk Try.prog 40 fs_specWorldPut := fsOk_of tt_ok (tabFs_cons ok_specWorldOk (tabFs_cons ok_l10At (tabFs_cons ok_specBodyOk (tabFs_cons ok_specCopyW tabFs_nil)))) mixed Try.func40 (by kernel_rfl) (by kernel_rfl) (by
    intro args LL p r HH h hp
    unfold fs_specWorldPut at h
    dsimp only at h
    split at h
    case h_2 => cases h
    rename_i t p aI aK aW aH aX aY aU aV aM aB aR aQ xs ps
    simp only [Option.some.injEq, Prod.mk.injEq] at h
    obtain ⟨rfl, rfl, rfl⟩ := h
    refine ⟨by simp [Form, stays], L0, ?_⟩
    rw [vc_specWorldPut]
    try dsimp only
    obtain ⟨hb, hb2⟩ := hp _ rfl
    have hk := atB_le xs aI
    refine ⟨⟨hb, hb2⟩, ifB_of (fun c => ?_) (fun c => ⟨by omega, ifB_of (fun c2 => ⟨⟨hb, hb2⟩, ?_⟩) (fun c2 => ifB_of (fun c3 => ⟨⟨hb, hb2⟩, ?_⟩) (fun c3 => ifB_of (fun c4 => ⟨⟨hb, hb2⟩, ?_⟩) (fun c4 => ⟨⟨hb, hb2⟩, ?_⟩)))⟩)⟩
    · simp [orI, orL, putCode, putBodies, not_true c]
    · simp [orI, orL, putCode, putBodies, not_false c, not_true c2]
    · simp [orI, orL, putCode, putBodies, not_false c, not_false c2, c3]
    · have c4 := of_decide_eq_true c4
      simp [orI, orL, putCode, putBodies, not_false c, not_false c2, c3, show xs.length ≥ 12 by omega]
    · have c4 := of_decide_eq_false c4
      simp only [Int.toNat_natCast, List.drop_zero, take_restB, List.length_take, List.length_drop, List.length_append, List.length_nil, List.length_cons, room]
      refine ⟨⟨by omega, by omega⟩, by omega, by omega, ⟨by omega, by omega⟩, by omega, ?_⟩
      simp [orI, orL, putCode, putBodies, insB, not_false c, not_false c2, c3, show ¬ xs.length ≥ 12 by omega])

noncomputable def fs_implWorldPut : Fs := ⟨[], fun args H => match args, H with
  | [.agg [.int .i64 t, .int .i64 p, .vec 0, .vec 1], .agg [.int .i64 aI, .int .i64 aK, .int .i64 aW, .int .i64 aH, .int .i64 aX, .int .i64 aY, .int .i64 aU, .int .i64 aV, .int .i64 aM, .int .i64 aB, .int .i64 aR, .int .i64 aQ]], [(false, .vec .body xs), (false, .vec .pair ps)] => some ((some (xs.length ≤ 1048576 ∧ ps.length ≤ 1048576)), .tup [.agg [.int .i64 (orI (worldOk t p xs ps) t), .int .i64 (orI (worldOk t p xs ps) p), .vec 2, .vec 3], .int .i64 (putCode (worldOk t p xs ps) xs ⟨aI, ⟨aK, aW, aH⟩, ⟨aX, aY⟩, ⟨aU, aV⟩, aM, aB, aR, aQ⟩)], [(false, .vec .body xs), (false, .vec .pair ps), (true, .vec .body (orL (worldOk t p xs ps) (putBodies xs ⟨aI, ⟨aK, aW, aH⟩, ⟨aX, aY⟩, ⟨aU, aV⟩, aM, aB, aR, aQ⟩))), (true, .vec .pair (orL (worldOk t p xs ps) ps))])
  | _, _ => none⟩

theorem vc_implWorldPut (t : Int) (p : Int) (xs : List Body) (ps : List Pair) (aI : Int) (aK : Int) (aW : Int) (aH : Int) (aX : Int) (aY : Int) (aU : Int) (aV : Int) (aM : Int) (aB : Int) (aR : Int) (aQ : Int) (Q : SV → List Ent → Prop) :
    fnVC tt (look [(50, fs_implWorldOk), (70, fs_implCopyW), (71, fs_place), (81, fs_implBodyOk), (82, fs_insBodies)]) L0 Try.f42 [.agg [.int .i64 t, .int .i64 p, .vec 0, .vec 1], .agg [.int .i64 aI, .int .i64 aK, .int .i64 aW, .int .i64 aH, .int .i64 aX, .int .i64 aY, .int .i64 aU, .int .i64 aV, .int .i64 aM, .int .i64 aB, .int .i64 aR, .int .i64 aQ]] [(false, .vec .body xs), (false, .vec .pair ps)] Q =
    ((List.length xs ≤ (1048576 : Nat) ∧ List.length ps ≤ (1048576 : Nat)) ∧ ifB (!worldOk t p xs ps) (Q (SV.tup [SV.agg [SV.int IntKind.i64 (0 : Int), SV.int IntKind.i64 (0 : Int), SV.vec (2 : Nat), SV.vec (3 : Nat)], SV.int IntKind.i64 (1 : Int)]) [(false, Blk.vec Ty.body xs), (false, Blk.vec Ty.pair ps), (true, Blk.vec Ty.body []), (true, Blk.vec Ty.pair [])]) ((List.length xs ≤ (1048576 : Nat) ∧ List.length ps ≤ (1048576 : Nat)) ∧ List.length xs ≤ (4611686018427387904 : Nat) ∧ ifB (!bodyOk (Body.mk aI (Shape.mk aK aW aH) (Vec.mk aX aY) (Vec.mk aU aV) aM aB aR aQ)) (Q (SV.tup [SV.agg [SV.int IntKind.i64 t, SV.int IntKind.i64 p, SV.vec (2 : Nat), SV.vec (3 : Nat)], SV.int IntKind.i64 (1 : Int)]) [(false, Blk.vec Ty.body xs), (false, Blk.vec Ty.pair ps), (true, Blk.vec Ty.body xs), (true, Blk.vec Ty.pair ps)]) (ifB (hasB xs aI) (Q (SV.tup [SV.agg [SV.int IntKind.i64 t, SV.int IntKind.i64 p, SV.vec (2 : Nat), SV.vec (3 : Nat)], SV.int IntKind.i64 (2 : Int)]) [(false, Blk.vec Ty.body xs), (false, Blk.vec Ty.pair ps), (true, Blk.vec Ty.body xs), (true, Blk.vec Ty.pair ps)]) (ifB ((↑(List.length xs) : Int) == (12 : Int)) (Q (SV.tup [SV.agg [SV.int IntKind.i64 t, SV.int IntKind.i64 p, SV.vec (2 : Nat), SV.vec (3 : Nat)], SV.int IntKind.i64 (3 : Int)]) [(false, Blk.vec Ty.body xs), (false, Blk.vec Ty.pair ps), (true, Blk.vec Ty.body xs), (true, Blk.vec Ty.pair ps)]) (((0 : Int) ≤ (↑(atB xs aI) : Int) ∧ (↑(atB xs aI) : Int) ≤ (↑(List.length xs) : Int) ∧ List.length [Body.mk aI (Shape.mk aK aW aH) (Vec.mk aX aY) (Vec.mk aU aV) aM aB aR aQ] = (1 : Nat) ∧ List.length xs ≤ (1048576 : Nat)) ∧ Q (SV.tup [SV.agg [SV.int IntKind.i64 t, SV.int IntKind.i64 p, SV.vec (2 : Nat), SV.vec (3 : Nat)], SV.int IntKind.i64 (0 : Int)]) [(false, Blk.vec Ty.body xs), (false, Blk.vec Ty.pair ps), (true, Blk.vec Ty.body (insL_Bodies xs (Int.toNat (↑(atB xs aI) : Int)) [Body.mk aI (Shape.mk aK aW aH) (Vec.mk aX aY) (Vec.mk aU aV) aM aB aR aQ])), (true, Blk.vec Ty.pair ps)]))))) := by kernel_rfl

theorem ok_implWorldPut : FsOk Try.prog 42 fs_implWorldPut := fsOk_of tt_ok (tabFs_cons ok_implWorldOk (tabFs_cons ok_implCopyW (tabFs_cons ok_place (tabFs_cons ok_implBodyOk (tabFs_cons ok_insBodies tabFs_nil))))) mixed Try.func42 (by kernel_rfl) (by kernel_rfl) (by
    intro args LL p r HH h hp
    unfold fs_implWorldPut at h
    dsimp only at h
    split at h
    case h_2 => cases h
    rename_i t p aI aK aW aH aX aY aU aV aM aB aR aQ xs ps
    simp only [Option.some.injEq, Prod.mk.injEq] at h
    obtain ⟨rfl, rfl, rfl⟩ := h
    refine ⟨by simp [Form, stays], L0, ?_⟩
    rw [vc_implWorldPut]
    try dsimp only
    obtain ⟨hb, hb2⟩ := hp _ rfl
    have hk := atB_le xs aI
    refine ⟨⟨hb, hb2⟩, ifB_of (fun c => ?_) (fun c => ⟨⟨hb, hb2⟩, by omega, ifB_of (fun c2 => ?_) (fun c2 => ifB_of (fun c3 => ?_) (fun c3 => ifB_of (fun c4 => ?_) (fun c4 => ?_)))⟩)⟩
    · simp [orI, orL, putCode, putBodies, not_true c]
    · simp [orI, orL, putCode, putBodies, not_false c, not_true c2]
    · simp [orI, orL, putCode, putBodies, not_false c, not_false c2, c3]
    · have c4 : (xs.length : Int) = 12 := by simpa using c4
      simp [orI, orL, putCode, putBodies, not_false c, not_false c2, c3, show xs.length ≥ 12 by omega]
    · have c4 : ¬ (xs.length : Int) = 12 := by simpa using c4
      have hl := worldOk_len (not_false c)
      refine ⟨⟨by omega, by omega, rfl, hb⟩, ?_⟩
      simp [orI, orL, putCode, putBodies, insB, insL_Bodies, not_false c, not_false c2, c3, show ¬ xs.length ≥ 12 by omega])

theorem length_putW (ok : Bool) (xs : List Body) (b : Body) (h : xs.length ≤ 1048576) : (orL ok (putBodies xs b)).length ≤ 1048576 := by
  refine Nat.le_trans (length_orL _ _) ?_
  unfold putBodies
  cases q : bodyOk b && !hasB xs b.Id && !decide (xs.length ≥ 12) with
  | false => simp only [cond_false]; omega
  | true =>
    simp only [Bool.and_eq_true, Bool.not_eq_true', decide_eq_false_iff_not] at q
    simp only [insB, cond_true, List.length_append, List.length_take, List.length_drop, List.length_singleton]
    omega
noncomputable def fs_lawExactWorldPut : Fs := ⟨[], fun args H => match args, H with
  | [.agg [.int .i64 t, .int .i64 p, .vec 0, .vec 1], .agg [.int .i64 aI, .int .i64 aK, .int .i64 aW, .int .i64 aH, .int .i64 aX, .int .i64 aY, .int .i64 aU, .int .i64 aV, .int .i64 aM, .int .i64 aB, .int .i64 aR, .int .i64 aQ]], [(false, .vec .body xs), (false, .vec .pair ps)] => some ((some (LOk .body xs ∧ LOk .pair ps)), .bool true, [(false, .vec .body xs), (false, .vec .pair ps)])
  | _, _ => none⟩

theorem vc_lawExactWorldPut (t : Int) (p : Int) (xs : List Body) (ps : List Pair) (aI : Int) (aK : Int) (aW : Int) (aH : Int) (aX : Int) (aY : Int) (aU : Int) (aV : Int) (aM : Int) (aB : Int) (aR : Int) (aQ : Int) (Q : SV → List Ent → Prop) :
    fnVC tt (look [(22, fs_szWorld), (24, fs_toWorld), (41, fs_lawsToBody), (40, fs_specWorldPut), (42, fs_implWorldPut), (27, fs_lawsEqWorld), (31, fs_lawsMarkWorld), (32, fs_lawsHeldWorld)]) L0 Try.f8 [.agg [.int .i64 t, .int .i64 p, .vec 0, .vec 1], .agg [.int .i64 aI, .int .i64 aK, .int .i64 aW, .int .i64 aH, .int .i64 aX, .int .i64 aY, .int .i64 aU, .int .i64 aV, .int .i64 aM, .int .i64 aB, .int .i64 aR, .int .i64 aQ]] [(false, .vec .body xs), (false, .vec .pair ps)] Q =
    (let A5_ := (false, Blk.vec Ty.pair ps); let A4_ := (false, Blk.vec Ty.body xs); let A3_ := (orL (worldOk t p xs ps) ps); let A2_ := (putCode (worldOk t p xs ps) xs (Body.mk aI (Shape.mk aK aW aH) (Vec.mk aX aY) (Vec.mk aU aV) aM aB aR aQ) != putCode (worldOk t p xs ps) xs (Body.mk aI (Shape.mk aK aW aH) (Vec.mk aX aY) (Vec.mk aU aV) aM aB aR aQ)); let A1_ := (orL (worldOk t p xs ps) (putBodies xs (Body.mk aI (Shape.mk aK aW aH) (Vec.mk aX aY) (Vec.mk aU aV) aM aB aR aQ))); let A6_ := (!eqW4 (orI (worldOk t p xs ps) t) (orI (worldOk t p xs ps) p) A1_ A3_ (orI (worldOk t p xs ps) t) (orI (worldOk t p xs ps) p) A1_ A3_); ifB (decide (szW (1048576 : Int) (List.length xs) (List.length ps) < (0 : Int))) (Q (SV.bool true) [A4_, A5_]) ((List.length xs ≤ (1048576 : Nat) ∧ List.length ps ≤ (1048576 : Nat)) ∧ (List.length xs ≤ (1048576 : Nat) ∧ List.length ps ≤ (1048576 : Nat)) ∧ (List.length xs ≤ (1048576 : Nat) ∧ List.length ps ≤ (1048576 : Nat)) ∧ (List.length xs ≤ (1048576 : Nat) ∧ List.length ps ≤ (1048576 : Nat)) ∧ (List.length A1_ ≤ (4611686018427387904 : Nat) ∧ List.length A3_ ≤ (4611686018427387904 : Nat)) ∧ ifB A6_ (Q (SV.bool false) [A4_, A5_]) (ifB A2_ (Q (SV.bool false) [A4_, A5_]) ((List.length xs ≤ (1048576 : Nat) ∧ List.length ps ≤ (1048576 : Nat)) ∧ (List.length xs ≤ (4611686018427387904 : Nat) ∧ List.length ps ≤ (4611686018427387904 : Nat)) ∧ ifB (!eqW4 t p xs ps t p xs ps) (Q (SV.bool false) [A4_, A5_]) ((List.length xs ≤ (1048576 : Nat) ∧ List.length ps ≤ (1048576 : Nat) ∧ (0 : Int) ≤ (1 : Int) ∧ (1 : Int) ≤ (10000000000 : Int)) ∧ (List.length A1_ ≤ (4611686018427387904 : Nat) ∧ List.length A3_ ≤ (4611686018427387904 : Nat)) ∧ ifB A6_ (Q (SV.bool false) [A4_, A5_]) (ifB A2_ (Q (SV.bool false) [A4_, A5_]) ((List.length A1_ ≤ (1048576 : Nat) ∧ List.length A3_ ≤ (1048576 : Nat) ∧ (0 : Int) ≤ (1 : Int) ∧ (1 : Int) ≤ (10000000000 : Int)) ∧ (List.length (gen (fun e => mkBody ((1 : Int) + (12 : Int) * (↑e : Int))) (List.length A1_)) ≤ (1048576 : Nat) ∧ List.length (gen (fun e => mkPair ((1 : Int) + (12 : Int) * (↑(List.length A1_) : Int) + (2 : Int) * (↑e : Int))) (List.length A3_)) ≤ (1048576 : Nat) ∧ (0 : Int) ≤ (1 : Int) ∧ (1 : Int) ≤ (10000000000 : Int)) ∧ ifB (decide (heldW (1 : Int) (gen (fun e => mkBody ((1 : Int) + (12 : Int) * (↑e : Int))) (List.length A1_)) (gen (fun e => mkPair ((1 : Int) + (12 : Int) * (↑(List.length A1_) : Int) + (2 : Int) * (↑e : Int))) (List.length A3_)) < (0 : Int))) (Q (SV.bool false) [A4_, A5_]) (ifB (heldW (1 : Int) (gen (fun e => mkBody ((1 : Int) + (12 : Int) * (↑e : Int))) (List.length A1_)) (gen (fun e => mkPair ((1 : Int) + (12 : Int) * (↑(List.length A1_) : Int) + (2 : Int) * (↑e : Int))) (List.length A3_)) != (1 : Int) + (12 : Int) * (↑(List.length A1_) : Int) + (2 : Int) * (↑(List.length A3_) : Int)) (Q (SV.bool false) [A4_, A5_]) ((List.length xs ≤ (1048576 : Nat) ∧ List.length ps ≤ (1048576 : Nat)) ∧ (List.length xs ≤ (1048576 : Nat) ∧ List.length ps ≤ (1048576 : Nat)) ∧ (List.length A1_ ≤ (4611686018427387904 : Nat) ∧ List.length A3_ ≤ (4611686018427387904 : Nat)) ∧ ifB A6_ (Q (SV.bool false) [A4_, A5_]) (ifB A2_ (Q (SV.bool false) [A4_, A5_]) ((List.length (gen (fun e => mkBody ((1 : Int) + (12 : Int) * (↑e : Int))) (List.length A1_)) ≤ (1048576 : Nat) ∧ List.length (gen (fun e => mkPair ((1 : Int) + (12 : Int) * (↑(List.length A1_) : Int) + (2 : Int) * (↑e : Int))) (List.length A3_)) ≤ (1048576 : Nat) ∧ (0 : Int) ≤ (1 : Int) ∧ (1 : Int) ≤ (10000000000 : Int)) ∧ ifB (decide (heldW (1 : Int) (gen (fun e => mkBody ((1 : Int) + (12 : Int) * (↑e : Int))) (List.length A1_)) (gen (fun e => mkPair ((1 : Int) + (12 : Int) * (↑(List.length A1_) : Int) + (2 : Int) * (↑e : Int))) (List.length A3_)) < (0 : Int))) (Q (SV.bool false) [A4_, A5_]) (ifB (heldW (1 : Int) (gen (fun e => mkBody ((1 : Int) + (12 : Int) * (↑e : Int))) (List.length A1_)) (gen (fun e => mkPair ((1 : Int) + (12 : Int) * (↑(List.length A1_) : Int) + (2 : Int) * (↑e : Int))) (List.length A3_)) != (1 : Int) + (12 : Int) * (↑(List.length A1_) : Int) + (2 : Int) * (↑(List.length A3_) : Int)) (Q (SV.bool false) [A4_, A5_]) (Q (SV.bool true) [A4_, A5_]))))))))))))) := by kernel_rfl

theorem ok_lawExactWorldPut : FsOk Try.prog 8 fs_lawExactWorldPut := fsOk_of tt_ok (tabFs_cons ok_szWorld (tabFs_cons ok_toWorld (tabFs_cons ok_lawsToBody (tabFs_cons ok_specWorldPut (tabFs_cons ok_implWorldPut (tabFs_cons ok_lawsEqWorld (tabFs_cons ok_lawsMarkWorld (tabFs_cons ok_lawsHeldWorld tabFs_nil)))))))) mixed Try.func8 (by kernel_rfl) (by kernel_rfl) (by
    intro args LL p r HH h hp
    unfold fs_lawExactWorldPut at h
    dsimp only at h
    split at h
    case h_2 => cases h
    rename_i t p aI aK aW aH aX aY aU aV aM aB aR aQ xs ps
    simp only [Option.some.injEq, Prod.mk.injEq] at h
    obtain ⟨rfl, rfl, rfl⟩ := h
    refine ⟨by simp [Form, stays], L0, ?_⟩
    rw [vc_lawExactWorldPut]
    try dsimp only
    obtain ⟨⟨hb, _⟩, hb2, _⟩ := hp _ rfl
    refine ifB_of (fun c => ⟨rfl, rfl⟩) (fun c => ?_)
    obtain ⟨k1, k2⟩ := szW_le c hb hb2
    have h1 := length_putW (worldOk t p xs ps) xs ⟨aI, ⟨aK, aW, aH⟩, ⟨aX, aY⟩, ⟨aU, aV⟩, aM, aB, aR, aQ⟩ k1
    have h2 := length_orL (worldOk t p xs ps) ps
    have hh := heldW_marked (k := 1) (m := (orL (worldOk t p xs ps) (putBodies xs ⟨aI, ⟨aK, aW, aH⟩, ⟨aX, aY⟩, ⟨aU, aV⟩, aM, aB, aR, aQ⟩)).length) (n := (orL (worldOk t p xs ps) ps).length)
    simp only [eqW4_self, hh]

    simp only [same_self, length_gen, Bool.not_true, beq_self_eq_true, cond_true, bne_self_eq_false, ifB]
    repeat' (first | refine pre_of ?_ (fun _ => ?_) | refine ifB_of (fun c => ?_) (fun c => ?_) | fail)
    all_goals first
      | omega
      | trivial
      | (rename_i c; have c := of_decide_eq_true c; omega))

end Go.Proofs.Ythkdelepjndacaa.Sym
