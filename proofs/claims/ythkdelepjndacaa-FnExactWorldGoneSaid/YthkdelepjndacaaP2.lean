/-
  Bodies pushed and moved: the walks.
  No condition.
-/
import Derived.Test.YthkdelepjndacaaP1
import Derived.Test.YthkdelepjndacaaG3
namespace Go.Proofs.Ythkdelepjndacaa.Sym
open Go
set_option linter.unusedVariables false
set_option linter.unusedSimpArgs false
set_option maxRecDepth 100000

theorem withinS_drive (n : Int) : withinS n 20000000 = withinI n 20000000 := by rw [withinI_drive]; exact withinS_const n (by omega) (by omega)
theorem withinI_far (n : Int) : withinI n 2560000 = clampTo 2560000 n := withinI_const n (by omega) (by omega)
theorem withinS_at (n : Int) : withinS n 2560000 = withinI n 2560000 := by rw [withinI_far]; exact withinS_const n (by omega) (by omega)
theorem W_opp (a p : Int) : W (a + W (0 - p)) = W (a - p) := by
  simp only [W, IntKind.wrap_i64]
  omega
theorem setC_drive (xs : List Body) (e : Nat) (a b : Int) : setC .body xs e (0 + 6) [.int .i64 a, .int .i64 b] = xs.set e { Ty.ix .body xs e with Drive := ⟨a, b⟩ } := rfl
theorem setC_at (xs : List Body) (e : Nat) (a b : Int) : setC .body xs e (0 + 4) [.int .i64 a, .int .i64 b] = xs.set e { Ty.ix .body xs e with At := ⟨a, b⟩ } := rfl
theorem setC_quiet (xs : List Body) (e : Nat) (b : Int) : setC .body xs e (0 + 11) [.int .i64 b] = xs.set e { Ty.ix .body xs e with Quiet := b } := rfl
theorem setC_driveX (xs : List Body) (e : Nat) (b : Int) : setC .body xs e (0 + 6 + 0) [.int .i64 b] = xs.set e { Ty.ix .body xs e with Drive := ⟨b, (Ty.ix .body xs e).Drive.Y⟩ } := rfl
theorem setC_driveY (xs : List Body) (e : Nat) (b : Int) : setC .body xs e (0 + 6 + 1) [.int .i64 b] = xs.set e { Ty.ix .body xs e with Drive := ⟨(Ty.ix .body xs e).Drive.X, b⟩ } := rfl
theorem set_ix {T : Ty} (xs : List T.El) {e : Nat} (h : e < xs.length) : xs.set e (T.ix xs e) = xs := by
  apply List.ext_getElem?
  intro j
  rw [List.getElem?_set]
  split
  · rename_i q
    subst q
    exact (ix_get (T := T) h).symm
  · rfl
noncomputable def fs_specPushB : Fs := ⟨[], fun args H => match args, H with
  | [.agg [.int .i64 bI, .int .i64 bK, .int .i64 bW, .int .i64 bH, .int .i64 bX, .int .i64 bY, .int .i64 bU, .int .i64 bV, .int .i64 bM, .int .i64 bB, .int .i64 bR, .int .i64 bQ], .agg [.int .i64 pX, .int .i64 pY]], [] => some (none, .agg [.int .i64 (pushB (Body.mk bI (Shape.mk bK bW bH) (Vec.mk bX bY) (Vec.mk bU bV) bM bB bR bQ) (Vec.mk pX pY)).Id, .int .i64 (pushB (Body.mk bI (Shape.mk bK bW bH) (Vec.mk bX bY) (Vec.mk bU bV) bM bB bR bQ) (Vec.mk pX pY)).Shape.Kind, .int .i64 (pushB (Body.mk bI (Shape.mk bK bW bH) (Vec.mk bX bY) (Vec.mk bU bV) bM bB bR bQ) (Vec.mk pX pY)).Shape.Wide, .int .i64 (pushB (Body.mk bI (Shape.mk bK bW bH) (Vec.mk bX bY) (Vec.mk bU bV) bM bB bR bQ) (Vec.mk pX pY)).Shape.High, .int .i64 (pushB (Body.mk bI (Shape.mk bK bW bH) (Vec.mk bX bY) (Vec.mk bU bV) bM bB bR bQ) (Vec.mk pX pY)).At.X, .int .i64 (pushB (Body.mk bI (Shape.mk bK bW bH) (Vec.mk bX bY) (Vec.mk bU bV) bM bB bR bQ) (Vec.mk pX pY)).At.Y, .int .i64 (pushB (Body.mk bI (Shape.mk bK bW bH) (Vec.mk bX bY) (Vec.mk bU bV) bM bB bR bQ) (Vec.mk pX pY)).Drive.X, .int .i64 (pushB (Body.mk bI (Shape.mk bK bW bH) (Vec.mk bX bY) (Vec.mk bU bV) bM bB bR bQ) (Vec.mk pX pY)).Drive.Y, .int .i64 (pushB (Body.mk bI (Shape.mk bK bW bH) (Vec.mk bX bY) (Vec.mk bU bV) bM bB bR bQ) (Vec.mk pX pY)).Mass, .int .i64 (pushB (Body.mk bI (Shape.mk bK bW bH) (Vec.mk bX bY) (Vec.mk bU bV) bM bB bR bQ) (Vec.mk pX pY)).Bounce, .int .i64 (pushB (Body.mk bI (Shape.mk bK bW bH) (Vec.mk bX bY) (Vec.mk bU bV) bM bB bR bQ) (Vec.mk pX pY)).Rub, .int .i64 (pushB (Body.mk bI (Shape.mk bK bW bH) (Vec.mk bX bY) (Vec.mk bU bV) bM bB bR bQ) (Vec.mk pX pY)).Quiet], [])
  | _, _ => none⟩

theorem vc_specPushB (bI : Int) (bK : Int) (bW : Int) (bH : Int) (bX : Int) (bY : Int) (bU : Int) (bV : Int) (bM : Int) (bB : Int) (bR : Int) (bQ : Int) (pX : Int) (pY : Int) (Q : SV → List Ent → Prop) :
    fnVC tt (look [(125, fs_specWithin)]) L0 Try.f69 [.agg [.int .i64 bI, .int .i64 bK, .int .i64 bW, .int .i64 bH, .int .i64 bX, .int .i64 bY, .int .i64 bU, .int .i64 bV, .int .i64 bM, .int .i64 bB, .int .i64 bR, .int .i64 bQ], .agg [.int .i64 pX, .int .i64 pY]] [] Q =
    (ifB (bM == (0 : Int)) (Q (SV.agg [SV.int IntKind.i64 bI, SV.int IntKind.i64 bK, SV.int IntKind.i64 bW, SV.int IntKind.i64 bH, SV.int IntKind.i64 bX, SV.int IntKind.i64 bY, SV.int IntKind.i64 bU, SV.int IntKind.i64 bV, SV.int IntKind.i64 bM, SV.int IntKind.i64 bB, SV.int IntKind.i64 bR, SV.int IntKind.i64 bQ]) []) (Q (SV.agg [SV.int IntKind.i64 bI, SV.int IntKind.i64 bK, SV.int IntKind.i64 bW, SV.int IntKind.i64 bH, SV.int IntKind.i64 bX, SV.int IntKind.i64 bY, SV.int IntKind.i64 (withinS (IntKind.wrap IntKind.i64 (bU + pX)) (20000000 : Int)), SV.int IntKind.i64 (withinS (IntKind.wrap IntKind.i64 (bV + pY)) (20000000 : Int)), SV.int IntKind.i64 bM, SV.int IntKind.i64 bB, SV.int IntKind.i64 bR, SV.int IntKind.i64 (0 : Int)]) [])) := by kernel_rfl

theorem ok_specPushB : FsOk Try.prog 69 fs_specPushB := fsOk_of tt_ok (tabFs_cons ok_specWithin tabFs_nil) mixed Try.func69 (by kernel_rfl) (by kernel_rfl) (by
    intro args LL p r HH h hp
    unfold fs_specPushB at h
    dsimp only at h
    split at h
    case h_2 => cases h
    rename_i bI bK bW bH bX bY bU bV bM bB bR bQ pX pY
    simp only [Option.some.injEq, Prod.mk.injEq] at h
    obtain ⟨rfl, rfl, rfl⟩ := h
    refine ⟨by simp [Form, stays], L0, ?_⟩
    rw [vc_specPushB]
    try dsimp only
    unfold pushB
    refine ifB_of (fun c => ?_) (fun c => ?_)
    · have c : bM = 0 := eq_of_beq c
      simp [if_pos c]
    · have c : ¬ bM = 0 := beq_eq_false_iff_ne.1 c
      simp [if_neg c, withinS_drive, W])

noncomputable def fs_specMoveB : Fs := ⟨[], fun args H => match args, H with
  | [.agg [.int .i64 bI, .int .i64 bK, .int .i64 bW, .int .i64 bH, .int .i64 bX, .int .i64 bY, .int .i64 bU, .int .i64 bV, .int .i64 bM, .int .i64 bB, .int .i64 bR, .int .i64 bQ], .agg [.int .i64 pX, .int .i64 pY]], [] => some (none, .agg [.int .i64 (moveB (Body.mk bI (Shape.mk bK bW bH) (Vec.mk bX bY) (Vec.mk bU bV) bM bB bR bQ) (Vec.mk pX pY)).Id, .int .i64 (moveB (Body.mk bI (Shape.mk bK bW bH) (Vec.mk bX bY) (Vec.mk bU bV) bM bB bR bQ) (Vec.mk pX pY)).Shape.Kind, .int .i64 (moveB (Body.mk bI (Shape.mk bK bW bH) (Vec.mk bX bY) (Vec.mk bU bV) bM bB bR bQ) (Vec.mk pX pY)).Shape.Wide, .int .i64 (moveB (Body.mk bI (Shape.mk bK bW bH) (Vec.mk bX bY) (Vec.mk bU bV) bM bB bR bQ) (Vec.mk pX pY)).Shape.High, .int .i64 (moveB (Body.mk bI (Shape.mk bK bW bH) (Vec.mk bX bY) (Vec.mk bU bV) bM bB bR bQ) (Vec.mk pX pY)).At.X, .int .i64 (moveB (Body.mk bI (Shape.mk bK bW bH) (Vec.mk bX bY) (Vec.mk bU bV) bM bB bR bQ) (Vec.mk pX pY)).At.Y, .int .i64 (moveB (Body.mk bI (Shape.mk bK bW bH) (Vec.mk bX bY) (Vec.mk bU bV) bM bB bR bQ) (Vec.mk pX pY)).Drive.X, .int .i64 (moveB (Body.mk bI (Shape.mk bK bW bH) (Vec.mk bX bY) (Vec.mk bU bV) bM bB bR bQ) (Vec.mk pX pY)).Drive.Y, .int .i64 (moveB (Body.mk bI (Shape.mk bK bW bH) (Vec.mk bX bY) (Vec.mk bU bV) bM bB bR bQ) (Vec.mk pX pY)).Mass, .int .i64 (moveB (Body.mk bI (Shape.mk bK bW bH) (Vec.mk bX bY) (Vec.mk bU bV) bM bB bR bQ) (Vec.mk pX pY)).Bounce, .int .i64 (moveB (Body.mk bI (Shape.mk bK bW bH) (Vec.mk bX bY) (Vec.mk bU bV) bM bB bR bQ) (Vec.mk pX pY)).Rub, .int .i64 (moveB (Body.mk bI (Shape.mk bK bW bH) (Vec.mk bX bY) (Vec.mk bU bV) bM bB bR bQ) (Vec.mk pX pY)).Quiet], [])
  | _, _ => none⟩

theorem vc_specMoveB (bI : Int) (bK : Int) (bW : Int) (bH : Int) (bX : Int) (bY : Int) (bU : Int) (bV : Int) (bM : Int) (bB : Int) (bR : Int) (bQ : Int) (pX : Int) (pY : Int) (Q : SV → List Ent → Prop) :
    fnVC tt (look [(125, fs_specWithin)]) L0 Try.f150 [.agg [.int .i64 bI, .int .i64 bK, .int .i64 bW, .int .i64 bH, .int .i64 bX, .int .i64 bY, .int .i64 bU, .int .i64 bV, .int .i64 bM, .int .i64 bB, .int .i64 bR, .int .i64 bQ], .agg [.int .i64 pX, .int .i64 pY]] [] Q =
    (ifB (withinS (IntKind.wrap IntKind.i64 (bX + pX)) (2560000 : Int) != IntKind.wrap IntKind.i64 (bX + pX)) (ifB (withinS (IntKind.wrap IntKind.i64 (bY + pY)) (2560000 : Int) != IntKind.wrap IntKind.i64 (bY + pY)) (Q (SV.agg [SV.int IntKind.i64 bI, SV.int IntKind.i64 bK, SV.int IntKind.i64 bW, SV.int IntKind.i64 bH, SV.int IntKind.i64 (withinS (IntKind.wrap IntKind.i64 (bX + pX)) (2560000 : Int)), SV.int IntKind.i64 (withinS (IntKind.wrap IntKind.i64 (bY + pY)) (2560000 : Int)), SV.int IntKind.i64 (0 : Int), SV.int IntKind.i64 (0 : Int), SV.int IntKind.i64 bM, SV.int IntKind.i64 bB, SV.int IntKind.i64 bR, SV.int IntKind.i64 bQ]) []) (Q (SV.agg [SV.int IntKind.i64 bI, SV.int IntKind.i64 bK, SV.int IntKind.i64 bW, SV.int IntKind.i64 bH, SV.int IntKind.i64 (withinS (IntKind.wrap IntKind.i64 (bX + pX)) (2560000 : Int)), SV.int IntKind.i64 (withinS (IntKind.wrap IntKind.i64 (bY + pY)) (2560000 : Int)), SV.int IntKind.i64 (0 : Int), SV.int IntKind.i64 bV, SV.int IntKind.i64 bM, SV.int IntKind.i64 bB, SV.int IntKind.i64 bR, SV.int IntKind.i64 bQ]) [])) (ifB (withinS (IntKind.wrap IntKind.i64 (bY + pY)) (2560000 : Int) != IntKind.wrap IntKind.i64 (bY + pY)) (Q (SV.agg [SV.int IntKind.i64 bI, SV.int IntKind.i64 bK, SV.int IntKind.i64 bW, SV.int IntKind.i64 bH, SV.int IntKind.i64 (withinS (IntKind.wrap IntKind.i64 (bX + pX)) (2560000 : Int)), SV.int IntKind.i64 (withinS (IntKind.wrap IntKind.i64 (bY + pY)) (2560000 : Int)), SV.int IntKind.i64 bU, SV.int IntKind.i64 (0 : Int), SV.int IntKind.i64 bM, SV.int IntKind.i64 bB, SV.int IntKind.i64 bR, SV.int IntKind.i64 bQ]) []) (Q (SV.agg [SV.int IntKind.i64 bI, SV.int IntKind.i64 bK, SV.int IntKind.i64 bW, SV.int IntKind.i64 bH, SV.int IntKind.i64 (withinS (IntKind.wrap IntKind.i64 (bX + pX)) (2560000 : Int)), SV.int IntKind.i64 (withinS (IntKind.wrap IntKind.i64 (bY + pY)) (2560000 : Int)), SV.int IntKind.i64 bU, SV.int IntKind.i64 bV, SV.int IntKind.i64 bM, SV.int IntKind.i64 bB, SV.int IntKind.i64 bR, SV.int IntKind.i64 bQ]) []))) := by kernel_rfl

theorem ok_specMoveB : FsOk Try.prog 150 fs_specMoveB := fsOk_of tt_ok (tabFs_cons ok_specWithin tabFs_nil) mixed Try.func150 (by kernel_rfl) (by kernel_rfl) (by
    intro args LL p r HH h hp
    unfold fs_specMoveB at h
    dsimp only at h
    split at h
    case h_2 => cases h
    rename_i bI bK bW bH bX bY bU bV bM bB bR bQ pX pY
    simp only [Option.some.injEq, Prod.mk.injEq] at h
    obtain ⟨rfl, rfl, rfl⟩ := h
    refine ⟨by simp [Form, stays], L0, ?_⟩
    rw [vc_specMoveB]
    try dsimp only
    unfold moveB
    simp only [withinS_at]
    refine ifB_of (fun c => ifB_of (fun c2 => ?_) (fun c2 => ?_)) (fun c => ifB_of (fun c2 => ?_) (fun c2 => ?_))
    all_goals
      simp only [bne_iff_ne, ne_eq, bne_eq_false_iff_eq] at c c2
      simp [W, c, c2])

noncomputable def fs_implPushB : Fs := ⟨[], fun args H => match args, H with
  | [.ptr 0 e 0, .agg [.int .i64 pX, .int .i64 pY]], [(true, .vec .body xs)] => some ((some (e < xs.length)), .tup [], [(true, .vec .body (xs.set e (pushB (Ty.ix .body xs e) ⟨pX, pY⟩)))])
  | _, _ => none⟩

theorem vc_implPushB (e : Nat) (xs : List Body) (pX : Int) (pY : Int) (Q : SV → List Ent → Prop) :
    fnVC tt (look [(105, fs_bodyFixed), (130, fs_vecPlus), (129, fs_vecClamped)]) L0 Try.f73 [.ptr 0 e 0, .agg [.int .i64 pX, .int .i64 pY]] [(true, .vec .body xs)] Q =
    (ifB (!Body.Mass (Ty.ix Ty.body xs e) == (0 : Int)) (Q (SV.tup []) [(true, Blk.vec Ty.body (setC Ty.body (setC Ty.body xs e ((0 : Nat) + (6 : Nat)) [SV.int IntKind.i64 (withinI (Vec.X (plus (Body.Drive (Ty.ix Ty.body xs e)) (Vec.mk pX pY))) (20000000 : Int)), SV.int IntKind.i64 (withinI (Vec.Y (plus (Body.Drive (Ty.ix Ty.body xs e)) (Vec.mk pX pY))) (20000000 : Int))]) e ((0 : Nat) + (11 : Nat)) [SV.int IntKind.i64 (0 : Int)]))]) (Q (SV.tup []) [(true, Blk.vec Ty.body xs)])) := by kernel_rfl

theorem ok_implPushB : FsOk Try.prog 73 fs_implPushB := fsOk_of tt_ok (tabFs_cons ok_bodyFixed (tabFs_cons ok_vecPlus (tabFs_cons ok_vecClamped tabFs_nil))) mixed Try.func73 (by kernel_rfl) (by kernel_rfl) (by
    intro args LL p r HH h hp
    unfold fs_implPushB at h
    dsimp only at h
    split at h
    case h_2 => cases h
    rename_i e pX pY xs
    simp only [Option.some.injEq, Prod.mk.injEq] at h
    obtain ⟨rfl, rfl, rfl⟩ := h
    refine ⟨by simp [Form, stays], L0, ?_⟩
    rw [vc_implPushB]
    try dsimp only
    have he := hp _ rfl
    unfold pushB
    refine ifB_of (fun c => ?_) (fun c => ?_)
    · have c : ¬ (Ty.ix .body xs e).Mass = 0 := by simpa using c
      rw [setC_drive, setC_quiet, ix_set_self_body _ _ he, List.set_set, if_neg c]
      exact ⟨rfl, rfl⟩
    · have c : (Ty.ix .body xs e).Mass = 0 := by simpa using c
      rw [if_pos c, set_ix (T := .body) xs he]
      exact ⟨rfl, rfl⟩)

noncomputable def fs_implMoveB : Fs := ⟨[], fun args H => match args, H with
  | [.ptr 0 e 0, .agg [.int .i64 pX, .int .i64 pY]], [(true, .vec .body xs)] => some ((some (e < xs.length)), .tup [], [(true, .vec .body (xs.set e (moveB (Ty.ix .body xs e) ⟨pX, pY⟩)))])
  | _, _ => none⟩

theorem vc_implMoveB (e : Nat) (xs : List Body) (pX : Int) (pY : Int) (Q : SV → List Ent → Prop) :
    fnVC tt (look [(105, fs_bodyFixed), (130, fs_vecPlus), (129, fs_vecClamped)]) L0 Try.f106 [.ptr 0 e 0, .agg [.int .i64 pX, .int .i64 pY]] [(true, .vec .body xs)] Q =
    (ifB (Vec.X (Body.At (Ty.ix Ty.body (setC Ty.body xs e ((0 : Nat) + (4 : Nat)) [SV.int IntKind.i64 (withinI (Vec.X (plus (Body.At (Ty.ix Ty.body xs e)) (Vec.mk pX pY))) (2560000 : Int)), SV.int IntKind.i64 (withinI (Vec.Y (plus (Body.At (Ty.ix Ty.body xs e)) (Vec.mk pX pY))) (2560000 : Int))]) e)) != Vec.X (plus (Body.At (Ty.ix Ty.body xs e)) (Vec.mk pX pY))) (ifB (Vec.Y (Body.At (Ty.ix Ty.body (setC Ty.body (setC Ty.body xs e ((0 : Nat) + (4 : Nat)) [SV.int IntKind.i64 (withinI (Vec.X (plus (Body.At (Ty.ix Ty.body xs e)) (Vec.mk pX pY))) (2560000 : Int)), SV.int IntKind.i64 (withinI (Vec.Y (plus (Body.At (Ty.ix Ty.body xs e)) (Vec.mk pX pY))) (2560000 : Int))]) e ((0 : Nat) + (6 : Nat) + (0 : Nat)) [SV.int IntKind.i64 (0 : Int)]) e)) != Vec.Y (plus (Body.At (Ty.ix Ty.body xs e)) (Vec.mk pX pY))) (Q (SV.tup []) [(true, Blk.vec Ty.body (setC Ty.body (setC Ty.body (setC Ty.body xs e ((0 : Nat) + (4 : Nat)) [SV.int IntKind.i64 (withinI (Vec.X (plus (Body.At (Ty.ix Ty.body xs e)) (Vec.mk pX pY))) (2560000 : Int)), SV.int IntKind.i64 (withinI (Vec.Y (plus (Body.At (Ty.ix Ty.body xs e)) (Vec.mk pX pY))) (2560000 : Int))]) e ((0 : Nat) + (6 : Nat) + (0 : Nat)) [SV.int IntKind.i64 (0 : Int)]) e ((0 : Nat) + (6 : Nat) + (1 : Nat)) [SV.int IntKind.i64 (0 : Int)]))]) (Q (SV.tup []) [(true, Blk.vec Ty.body (setC Ty.body (setC Ty.body xs e ((0 : Nat) + (4 : Nat)) [SV.int IntKind.i64 (withinI (Vec.X (plus (Body.At (Ty.ix Ty.body xs e)) (Vec.mk pX pY))) (2560000 : Int)), SV.int IntKind.i64 (withinI (Vec.Y (plus (Body.At (Ty.ix Ty.body xs e)) (Vec.mk pX pY))) (2560000 : Int))]) e ((0 : Nat) + (6 : Nat) + (0 : Nat)) [SV.int IntKind.i64 (0 : Int)]))])) (ifB (Vec.Y (Body.At (Ty.ix Ty.body (setC Ty.body xs e ((0 : Nat) + (4 : Nat)) [SV.int IntKind.i64 (withinI (Vec.X (plus (Body.At (Ty.ix Ty.body xs e)) (Vec.mk pX pY))) (2560000 : Int)), SV.int IntKind.i64 (withinI (Vec.Y (plus (Body.At (Ty.ix Ty.body xs e)) (Vec.mk pX pY))) (2560000 : Int))]) e)) != Vec.Y (plus (Body.At (Ty.ix Ty.body xs e)) (Vec.mk pX pY))) (Q (SV.tup []) [(true, Blk.vec Ty.body (setC Ty.body (setC Ty.body xs e ((0 : Nat) + (4 : Nat)) [SV.int IntKind.i64 (withinI (Vec.X (plus (Body.At (Ty.ix Ty.body xs e)) (Vec.mk pX pY))) (2560000 : Int)), SV.int IntKind.i64 (withinI (Vec.Y (plus (Body.At (Ty.ix Ty.body xs e)) (Vec.mk pX pY))) (2560000 : Int))]) e ((0 : Nat) + (6 : Nat) + (1 : Nat)) [SV.int IntKind.i64 (0 : Int)]))]) (Q (SV.tup []) [(true, Blk.vec Ty.body (setC Ty.body xs e ((0 : Nat) + (4 : Nat)) [SV.int IntKind.i64 (withinI (Vec.X (plus (Body.At (Ty.ix Ty.body xs e)) (Vec.mk pX pY))) (2560000 : Int)), SV.int IntKind.i64 (withinI (Vec.Y (plus (Body.At (Ty.ix Ty.body xs e)) (Vec.mk pX pY))) (2560000 : Int))]))]))) := by kernel_rfl

theorem ok_implMoveB : FsOk Try.prog 106 fs_implMoveB := fsOk_of tt_ok (tabFs_cons ok_bodyFixed (tabFs_cons ok_vecPlus (tabFs_cons ok_vecClamped tabFs_nil))) mixed Try.func106 (by kernel_rfl) (by kernel_rfl) (by
    intro args LL p r HH h hp
    unfold fs_implMoveB at h
    dsimp only at h
    split at h
    case h_2 => cases h
    rename_i e pX pY xs
    simp only [Option.some.injEq, Prod.mk.injEq] at h
    obtain ⟨rfl, rfl, rfl⟩ := h
    refine ⟨by simp [Form, stays], L0, ?_⟩
    rw [vc_implMoveB]
    try dsimp only
    have he := hp _ rfl
    unfold moveB
    simp only [setC_at, setC_driveX, setC_driveY, ix_set_self_body _ _ he, List.set_set, List.length_set, he]
    refine ifB_of (fun c => ifB_of (fun c2 => ?_) (fun c2 => ?_)) (fun c => ifB_of (fun c2 => ?_) (fun c2 => ?_))
    all_goals
      simp only [plus, bne_iff_ne, ne_eq, bne_eq_false_iff_eq] at c c2
      simp only [plus, if_pos, if_neg, if_false, if_true, c, c2]
      first
        | exact ⟨rfl, rfl⟩
        | exact ⟨(by trivial), (by trivial)⟩)

noncomputable def fs_implBears : Fs := ⟨[], fun args H => match args, H with
  | [.agg [.int .i64 bI, .int .i64 bK, .int .i64 bW, .int .i64 bH, .int .i64 bX, .int .i64 bY, .int .i64 bU, .int .i64 bV, .int .i64 bM, .int .i64 bB, .int .i64 bR, .int .i64 bQ], .agg [.int .i64 pX, .int .i64 pY]], [] => some (none, .bool (bearsF (Body.mk bI (Shape.mk bK bW bH) (Vec.mk bX bY) (Vec.mk bU bV) bM bB bR bQ) (Vec.mk pX pY)), [])
  | _, _ => none⟩

theorem vc_implBears (bI : Int) (bK : Int) (bW : Int) (bH : Int) (bX : Int) (bY : Int) (bU : Int) (bV : Int) (bM : Int) (bB : Int) (bR : Int) (bQ : Int) (pX : Int) (pY : Int) (Q : SV → List Ent → Prop) :
    fnVC tt (look [(105, fs_bodyFixed), (130, fs_vecPlus), (72, fs_isDrive)]) L0 Try.f134 [.agg [.int .i64 bI, .int .i64 bK, .int .i64 bW, .int .i64 bH, .int .i64 bX, .int .i64 bY, .int .i64 bU, .int .i64 bV, .int .i64 bM, .int .i64 bB, .int .i64 bR, .int .i64 bQ], .agg [.int .i64 pX, .int .i64 pY]] [] Q =
    (ifB (bM == (0 : Int)) (Q (SV.bool true) []) (Q (SV.bool (driveOk (plus (Vec.mk bU bV) (Vec.mk pX pY)))) [])) := by kernel_rfl

theorem ok_implBears : FsOk Try.prog 134 fs_implBears := fsOk_of tt_ok (tabFs_cons ok_bodyFixed (tabFs_cons ok_vecPlus (tabFs_cons ok_isDrive tabFs_nil))) mixed Try.func134 (by kernel_rfl) (by kernel_rfl) (by
    intro args LL p r HH h hp
    unfold fs_implBears at h
    dsimp only at h
    split at h
    case h_2 => cases h
    rename_i bI bK bW bH bX bY bU bV bM bB bR bQ pX pY
    simp only [Option.some.injEq, Prod.mk.injEq] at h
    obtain ⟨rfl, rfl, rfl⟩ := h
    refine ⟨by simp [Form, stays], L0, ?_⟩
    rw [vc_implBears]
    try dsimp only
    unfold bearsF
    refine ifB_of (fun c => ?_) (fun c => ?_)
    · have c : (bM == 0) = true := c
      simp [c]
    · have c : (bM == 0) = false := c
      simp only [c, Bool.false_or]
      exact ⟨(by trivial), (by trivial)⟩)

noncomputable def fs_specShare : Fs := ⟨[], fun args H => match args, H with
  | [.agg [.int .i64 aI, .int .i64 aK, .int .i64 aW, .int .i64 aH, .int .i64 aX, .int .i64 aY, .int .i64 aU, .int .i64 aV, .int .i64 aM, .int .i64 aB, .int .i64 aR, .int .i64 aQ], .agg [.int .i64 bI, .int .i64 bK, .int .i64 bW, .int .i64 bH, .int .i64 bX, .int .i64 bY, .int .i64 bU, .int .i64 bV, .int .i64 bM, .int .i64 bB, .int .i64 bR, .int .i64 bQ], .int .i64 n], [] => some ((some (0 ≤ (Body.mk aI (Shape.mk aK aW aH) (Vec.mk aX aY) (Vec.mk aU aV) aM aB aR aQ).Mass ∧ (Body.mk aI (Shape.mk aK aW aH) (Vec.mk aX aY) (Vec.mk aU aV) aM aB aR aQ).Mass ≤ 1000000 ∧ 0 ≤ (Body.mk bI (Shape.mk bK bW bH) (Vec.mk bX bY) (Vec.mk bU bV) bM bB bR bQ).Mass ∧ (Body.mk bI (Shape.mk bK bW bH) (Vec.mk bX bY) (Vec.mk bU bV) bM bB bR bQ).Mass ≤ 1000000)), .int .i64 (shareF (Body.mk aI (Shape.mk aK aW aH) (Vec.mk aX aY) (Vec.mk aU aV) aM aB aR aQ) (Body.mk bI (Shape.mk bK bW bH) (Vec.mk bX bY) (Vec.mk bU bV) bM bB bR bQ) n), [])
  | _, _ => none⟩

theorem vc_specShare (aI : Int) (aK : Int) (aW : Int) (aH : Int) (aX : Int) (aY : Int) (aU : Int) (aV : Int) (aM : Int) (aB : Int) (aR : Int) (aQ : Int) (bI : Int) (bK : Int) (bW : Int) (bH : Int) (bX : Int) (bY : Int) (bU : Int) (bV : Int) (bM : Int) (bB : Int) (bR : Int) (bQ : Int) (n : Int) (Q : SV → List Ent → Prop) :
    fnVC tt (look []) L0 Try.f149 [.agg [.int .i64 aI, .int .i64 aK, .int .i64 aW, .int .i64 aH, .int .i64 aX, .int .i64 aY, .int .i64 aU, .int .i64 aV, .int .i64 aM, .int .i64 aB, .int .i64 aR, .int .i64 aQ], .agg [.int .i64 bI, .int .i64 bK, .int .i64 bW, .int .i64 bH, .int .i64 bX, .int .i64 bY, .int .i64 bU, .int .i64 bV, .int .i64 bM, .int .i64 bB, .int .i64 bR, .int .i64 bQ], .int .i64 n] [] Q =
    (ifB (aM == (0 : Int)) (Q (SV.int IntKind.i64 (0 : Int)) []) (ifB (bM == (0 : Int)) (Q (SV.int IntKind.i64 n) []) (IntKind.wrap IntKind.i64 (aM + bM) ≠ (0 : Int) ∧ Q (SV.int IntKind.i64 (IntKind.wrap IntKind.i64 (Int.tdiv (IntKind.wrap IntKind.i64 (n * bM)) (IntKind.wrap IntKind.i64 (aM + bM))))) []))) := by kernel_rfl

theorem ok_specShare : FsOk Try.prog 149 fs_specShare := fsOk_of tt_ok tabFs_nil mixed Try.func149 (by kernel_rfl) (by kernel_rfl) (by
    intro args LL p r HH h hp
    unfold fs_specShare at h
    dsimp only at h
    split at h
    case h_2 => cases h
    rename_i aI aK aW aH aX aY aU aV aM aB aR aQ bI bK bW bH bX bY bU bV bM bB bR bQ n
    simp only [Option.some.injEq, Prod.mk.injEq] at h
    obtain ⟨rfl, rfl, rfl⟩ := h
    refine ⟨by simp [Form, stays], L0, ?_⟩
    rw [vc_specShare]
    try dsimp only
    unfold shareF
    refine ifB_of (fun c => ?_) (fun c => ifB_of (fun c2 => ?_) (fun c2 => ?_))
    · have c : aM = 0 := eq_of_beq c
      simp [if_pos c]
    · have c : ¬ aM = 0 := beq_eq_false_iff_ne.1 c
      have c2 : bM = 0 := eq_of_beq c2
      simp [if_neg c, if_pos c2]
    · have c : ¬ aM = 0 := beq_eq_false_iff_ne.1 c
      have c2 : ¬ bM = 0 := beq_eq_false_iff_ne.1 c2
      simp only [if_neg c, if_neg c2]
      obtain ⟨h1, h2, h3, h4⟩ := hp _ rfl
      rw [show IntKind.i64.wrap (aM + bM) = aM + bM from wrap_small (by omega) (by omega)]
      exact ⟨by omega, (by trivial), (by trivial)⟩)

noncomputable def fs_specFits : Fs := ⟨[], fun args H => match args, H with
  | [.agg [.int .i64 aI, .int .i64 aK, .int .i64 aW, .int .i64 aH, .int .i64 aX, .int .i64 aY, .int .i64 aU, .int .i64 aV, .int .i64 aM, .int .i64 aB, .int .i64 aR, .int .i64 aQ], .agg [.int .i64 bI, .int .i64 bK, .int .i64 bW, .int .i64 bH, .int .i64 bX, .int .i64 bY, .int .i64 bU, .int .i64 bV, .int .i64 bM, .int .i64 bB, .int .i64 bR, .int .i64 bQ], .agg [.int .i64 pX, .int .i64 pY]], [] => some (none, .bool (bearsF (Body.mk aI (Shape.mk aK aW aH) (Vec.mk aX aY) (Vec.mk aU aV) aM aB aR aQ) (oppV (Vec.mk pX pY)) && bearsF (Body.mk bI (Shape.mk bK bW bH) (Vec.mk bX bY) (Vec.mk bU bV) bM bB bR bQ) (Vec.mk pX pY)), [])
  | _, _ => none⟩

theorem vc_specFits (aI : Int) (aK : Int) (aW : Int) (aH : Int) (aX : Int) (aY : Int) (aU : Int) (aV : Int) (aM : Int) (aB : Int) (aR : Int) (aQ : Int) (bI : Int) (bK : Int) (bW : Int) (bH : Int) (bX : Int) (bY : Int) (bU : Int) (bV : Int) (bM : Int) (bB : Int) (bR : Int) (bQ : Int) (pX : Int) (pY : Int) (Q : SV → List Ent → Prop) :
    fnVC tt (look [(67, fs_l6Drive)]) L0 Try.f163 [.agg [.int .i64 aI, .int .i64 aK, .int .i64 aW, .int .i64 aH, .int .i64 aX, .int .i64 aY, .int .i64 aU, .int .i64 aV, .int .i64 aM, .int .i64 aB, .int .i64 aR, .int .i64 aQ], .agg [.int .i64 bI, .int .i64 bK, .int .i64 bW, .int .i64 bH, .int .i64 bX, .int .i64 bY, .int .i64 bU, .int .i64 bV, .int .i64 bM, .int .i64 bB, .int .i64 bR, .int .i64 bQ], .agg [.int .i64 pX, .int .i64 pY]] [] Q =
    (ifB (aM == (0 : Int)) (ifB (bM == (0 : Int)) (Q (SV.bool true) []) (Q (SV.bool (driveOk (Vec.mk (IntKind.wrap IntKind.i64 (bU + pX)) (IntKind.wrap IntKind.i64 (bV + pY))))) [])) (ifB (driveOk (Vec.mk (IntKind.wrap IntKind.i64 (aU - pX)) (IntKind.wrap IntKind.i64 (aV - pY)))) (ifB (bM == (0 : Int)) (Q (SV.bool true) []) (Q (SV.bool (driveOk (Vec.mk (IntKind.wrap IntKind.i64 (bU + pX)) (IntKind.wrap IntKind.i64 (bV + pY))))) [])) (Q (SV.bool false) []))) := by kernel_rfl

theorem ok_specFits : FsOk Try.prog 163 fs_specFits := fsOk_of tt_ok (tabFs_cons ok_l6Drive tabFs_nil) mixed Try.func163 (by kernel_rfl) (by kernel_rfl) (by
    intro args LL p r HH h hp
    unfold fs_specFits at h
    dsimp only at h
    split at h
    case h_2 => cases h
    rename_i aI aK aW aH aX aY aU aV aM aB aR aQ bI bK bW bH bX bY bU bV bM bB bR bQ pX pY
    simp only [Option.some.injEq, Prod.mk.injEq] at h
    obtain ⟨rfl, rfl, rfl⟩ := h
    refine ⟨by simp [Form, stays], L0, ?_⟩
    rw [vc_specFits]
    try dsimp only
    simp only [bearsF, plus, oppV, W_opp]
    refine ifB_of (fun c => ifB_of (fun c2 => ?_) (fun c2 => ?_)) (fun c => ifB_of (fun c2 => ifB_of (fun c3 => ?_) (fun c3 => ?_)) (fun c2 => ?_))
    all_goals
      simp_all [W])

noncomputable def fs_specOne : Fs := ⟨[true], fun args H => match args, H with
  | [.vec 0, .agg [.int .i64 cA, .int .i64 cB, .int .i64 cX, .int .i64 cY, .int .i64 cD], .bool z], [(true, .vec .body xs)] => some ((some (AllP xs ∧ ctOk xs.length ⟨cA, cB, ⟨⟨cX, cY⟩, cD⟩⟩)), .tup [], [(true, .vec .body (pushOne xs ⟨cA, cB, ⟨⟨cX, cY⟩, cD⟩⟩ z))])
  | _, _ => none⟩

theorem vc_specOne (z : Bool) (xs : List Body) (cA : Int) (cB : Int) (cX : Int) (cY : Int) (cD : Int) (Q : SV → List Ent → Prop) :
    fnVC tt (look [(162, fs_l8Push), (163, fs_specFits), (69, fs_specPushB)]) L0 Try.f132 [.vec 0, .agg [.int .i64 cA, .int .i64 cB, .int .i64 cX, .int .i64 cY, .int .i64 cD], .bool z] [(true, .vec .body xs)] Q =
    (((0 : Int) ≤ cA ∧ cA < (↑(List.length xs) : Int)) ∧ ((0 : Int) ≤ cB ∧ cB < (↑(List.length xs) : Int)) ∧ (POk (Ty.ix Ty.body xs (Int.toNat cA)) ∧ POk (Ty.ix Ty.body xs (Int.toNat cB))) ∧ ifB (Vec.X (pushV (Ty.ix Ty.body xs (Int.toNat cA)) (Ty.ix Ty.body xs (Int.toNat cB)) (Hit.mk (Vec.mk cX cY) cD) z) == (0 : Int) && Vec.Y (pushV (Ty.ix Ty.body xs (Int.toNat cA)) (Ty.ix Ty.body xs (Int.toNat cB)) (Hit.mk (Vec.mk cX cY) cD) z) == (0 : Int)) (Q (SV.tup []) [(true, Blk.vec Ty.body xs)]) (((0 : Int) ≤ cA ∧ cA < (↑(List.length xs) : Int)) ∧ ((0 : Int) ≤ cB ∧ cB < (↑(List.length xs) : Int)) ∧ ifB (!(bearsF (Ty.ix Ty.body xs (Int.toNat cA)) (oppV (pushV (Ty.ix Ty.body xs (Int.toNat cA)) (Ty.ix Ty.body xs (Int.toNat cB)) (Hit.mk (Vec.mk cX cY) cD) z)) && bearsF (Ty.ix Ty.body xs (Int.toNat cB)) (pushV (Ty.ix Ty.body xs (Int.toNat cA)) (Ty.ix Ty.body xs (Int.toNat cB)) (Hit.mk (Vec.mk cX cY) cD) z))) (Q (SV.tup []) [(true, Blk.vec Ty.body xs)]) (((0 : Int) ≤ cA ∧ cA < (↑(List.length xs) : Int)) ∧ ((0 : Int) ≤ cA ∧ cA < (↑(List.length xs) : Int)) ∧ ((0 : Int) ≤ cB ∧ cB < (↑(List.length (List.set xs (Int.toNat cA) (pushB (Ty.ix Ty.body xs (Int.toNat cA)) (Vec.mk (IntKind.wrap IntKind.i64 ((0 : Int) - Vec.X (pushV (Ty.ix Ty.body xs (Int.toNat cA)) (Ty.ix Ty.body xs (Int.toNat cB)) (Hit.mk (Vec.mk cX cY) cD) z))) (IntKind.wrap IntKind.i64 ((0 : Int) - Vec.Y (pushV (Ty.ix Ty.body xs (Int.toNat cA)) (Ty.ix Ty.body xs (Int.toNat cB)) (Hit.mk (Vec.mk cX cY) cD) z))))))) : Int)) ∧ ((0 : Int) ≤ cB ∧ cB < (↑(List.length (List.set xs (Int.toNat cA) (pushB (Ty.ix Ty.body xs (Int.toNat cA)) (Vec.mk (IntKind.wrap IntKind.i64 ((0 : Int) - Vec.X (pushV (Ty.ix Ty.body xs (Int.toNat cA)) (Ty.ix Ty.body xs (Int.toNat cB)) (Hit.mk (Vec.mk cX cY) cD) z))) (IntKind.wrap IntKind.i64 ((0 : Int) - Vec.Y (pushV (Ty.ix Ty.body xs (Int.toNat cA)) (Ty.ix Ty.body xs (Int.toNat cB)) (Hit.mk (Vec.mk cX cY) cD) z))))))) : Int)) ∧ Q (SV.tup []) [(true, Blk.vec Ty.body (List.set (List.set xs (Int.toNat cA) (pushB (Ty.ix Ty.body xs (Int.toNat cA)) (Vec.mk (IntKind.wrap IntKind.i64 ((0 : Int) - Vec.X (pushV (Ty.ix Ty.body xs (Int.toNat cA)) (Ty.ix Ty.body xs (Int.toNat cB)) (Hit.mk (Vec.mk cX cY) cD) z))) (IntKind.wrap IntKind.i64 ((0 : Int) - Vec.Y (pushV (Ty.ix Ty.body xs (Int.toNat cA)) (Ty.ix Ty.body xs (Int.toNat cB)) (Hit.mk (Vec.mk cX cY) cD) z)))))) (Int.toNat cB) (pushB (Ty.ix Ty.body (List.set xs (Int.toNat cA) (pushB (Ty.ix Ty.body xs (Int.toNat cA)) (Vec.mk (IntKind.wrap IntKind.i64 ((0 : Int) - Vec.X (pushV (Ty.ix Ty.body xs (Int.toNat cA)) (Ty.ix Ty.body xs (Int.toNat cB)) (Hit.mk (Vec.mk cX cY) cD) z))) (IntKind.wrap IntKind.i64 ((0 : Int) - Vec.Y (pushV (Ty.ix Ty.body xs (Int.toNat cA)) (Ty.ix Ty.body xs (Int.toNat cB)) (Hit.mk (Vec.mk cX cY) cD) z)))))) (Int.toNat cB)) (pushV (Ty.ix Ty.body xs (Int.toNat cA)) (Ty.ix Ty.body xs (Int.toNat cB)) (Hit.mk (Vec.mk cX cY) cD) z))))]))) := by kernel_rfl

theorem ok_specOne : FsOk Try.prog 132 fs_specOne := fsOk_of tt_ok (tabFs_cons ok_l8Push (tabFs_cons ok_specFits (tabFs_cons ok_specPushB tabFs_nil))) mixed Try.func132 (by kernel_rfl) (by kernel_rfl) (by
    intro args LL p r HH h hp
    unfold fs_specOne at h
    dsimp only at h
    split at h
    case h_2 => cases h
    rename_i cA cB cX cY cD z xs
    simp only [Option.some.injEq, Prod.mk.injEq] at h
    obtain ⟨rfl, rfl, rfl⟩ := h
    refine ⟨by simp [Form, stays], L0, ?_⟩
    rw [vc_specOne]
    try dsimp only
    obtain ⟨hA, hc⟩ := hp _ rfl
    have hne := ct_ne hc
    obtain ⟨a0, a1, b0, b1, ne⟩ := hc
    dsimp only at a0 a1 b0 b1 ne hne
    have PA := hA cA.toNat (by omega)
    have PB := hA cB.toNat (by omega)
    refine ⟨⟨a0, a1⟩, ⟨b0, b1⟩, ⟨PA, PB⟩, ?_⟩
    unfold pushOne
    dsimp only
    generalize pushV (Ty.body.ix xs cA.toNat) (Ty.body.ix xs cB.toNat) ⟨⟨cX, cY⟩, cD⟩ z = p
    have b2 : cB < ((xs.set cA.toNat (pushB (Ty.body.ix xs cA.toNat) ⟨IntKind.i64.wrap (0 - p.X), IntKind.i64.wrap (0 - p.Y)⟩)).length : Int) := by rw [List.length_set]; exact b1
    refine ifB_of (fun c => ?_) (fun c => ⟨⟨a0, a1⟩, ⟨b0, b1⟩, ifB_of (fun c2 => ?_) (fun c2 => ⟨⟨a0, a1⟩, ⟨a0, a1⟩, ⟨b0, b2⟩, ⟨b0, b2⟩, ?_⟩)⟩)
    · have c : zeroV2 p = true := c
      simp [c]
    · have c2 := not_true c2
      rw [Bool.and_assoc, c2]
      simp
    · have c : zeroV2 p = false := c
      have c2 := not_false c2
      rw [Bool.and_assoc, c2, c, ix_set_ne (T := .body) hne]
      exact ⟨rfl, rfl⟩)

noncomputable def fs_specCopyB : Fs := ⟨[], fun args H => match args, H with
  | [.vec 0], [(false, .vec .body xs)] => some ((some (xs.length ≤ 1048576)), .vec 1, [(false, .vec .body xs), (true, .vec .body xs)])
  | _, _ => none⟩

theorem vc_specCopyB (xs : List Body) (Q : SV → List Ent → Prop) :
    fnVC tt (look []) L0 Try.f99 [.vec 0] [(false, .vec .body xs)] Q =
    (((0 : Nat) + List.length xs) * (96 : Nat) ≤ room ∧ Q (SV.vec (1 : Nat)) [(false, Blk.vec Ty.body xs), (true, Blk.vec Ty.body ([] ++ xs))]) := by kernel_rfl

theorem ok_specCopyB : FsOk Try.prog 99 fs_specCopyB := fsOk_of tt_ok tabFs_nil mixed Try.func99 (by kernel_rfl) (by kernel_rfl) (by
    intro args LL p r HH h hp
    unfold fs_specCopyB at h
    dsimp only at h
    split at h
    case h_2 => cases h
    rename_i xs
    simp only [Option.some.injEq, Prod.mk.injEq] at h
    obtain ⟨rfl, rfl, rfl⟩ := h
    refine ⟨by simp [Form, stays], L0, ?_⟩
    rw [vc_specCopyB]
    try dsimp only
    have hb := hp _ rfl
    refine ⟨by simp only [room, List.length_nil]; omega, ?_⟩
    simp)

noncomputable def fs_cloneBodies : Fs := ⟨[], fun args H => match args, H with
  | [.vec 0], [(false, .vec .body xs)] => some ((some (xs.length ≤ 1048576)), .vec 1, [(false, .vec .body xs), (true, .vec .body xs)])
  | _, _ => none⟩

theorem vc_cloneBodies (xs : List Body) (Q : SV → List Ent → Prop) :
    fnVC tt (look []) L0 Try.f56 [.vec 0] [(false, .vec .body xs)] Q =
    (∀ (b : Bool), (b = true → List.length xs = (0 : Nat)) → ifB b (Q (SV.vec (1 : Nat)) [(false, Blk.vec Ty.body xs), (true, Blk.vec Ty.body [])]) (((0 : Nat) + List.length xs) * (96 : Nat) ≤ room ∧ Q (SV.vec (1 : Nat)) [(false, Blk.vec Ty.body xs), (true, Blk.vec Ty.body ([] ++ xs))])) := by kernel_rfl

theorem ok_cloneBodies : FsOk Try.prog 56 fs_cloneBodies := fsOk_of tt_ok tabFs_nil mixed Try.func56 (by kernel_rfl) (by kernel_rfl) (by
    intro args LL p r HH h hp
    unfold fs_cloneBodies at h
    dsimp only at h
    split at h
    case h_2 => cases h
    rename_i xs
    simp only [Option.some.injEq, Prod.mk.injEq] at h
    obtain ⟨rfl, rfl, rfl⟩ := h
    refine ⟨by simp [Form, stays], L0, ?_⟩
    rw [vc_cloneBodies]
    try dsimp only
    have hb := hp _ rfl
    intro z hz
    refine ifB_of (fun c => ?_) (fun c => ⟨by simp only [room]; omega, ?_⟩)
    · have := List.length_eq_zero_iff.1 (hz c)
      subst this
      exact ⟨rfl, rfl⟩
    · simp)

theorem pushRound_drop {cs : List Contact} {k : Nat} (h : k < cs.length) (ys : List Body) (z : Bool) : pushRound ys z (cs.drop k) = pushRound (pushOne ys (Ty.ix .contact cs k) z) z (cs.drop (k + 1)) := by
  rw [drop_ix (T := .contact) h]
  rfl
def LSall1  : LS where
  S := List Body × List Contact × Unit × List Body × Int
  live := [(1, [none]), (5, [some .body]), (6, [none])]
  shape := fun s => ([.vec 1, .vec 2, .int .i64 s.2.2.2.2], [(false, .vec .body s.1), (false, .vec .contact s.2.1), (true, .vec .body s.2.2.2.1)])
  get := fun v h => match v, h with
    | [.vec 1, .vec 2, .int .i64 j], [(false, .vec .body xs), (false, .vec .contact cs), (true, .vec .body ys)] => some (xs, cs, (), ys, j)
    | _, _ => none
  inv := fun s0 s => Holds (s.1 = s0.1 ∧ s.2.1 = s0.2.1 ∧ 0 ≤ s.2.2.2.2 ∧ s.2.2.2.2 ≤ 4 ∧ Kin s0.1 s.2.2.2.1 ∧ pushRest s0.2.1 (4 - s.2.2.2.2).toNat s.2.2.2.1 = pushAllF s0.1 s0.2.1)
  mu := fun s => (4 - s.2.2.2.2).toNat
  ok := by
    intro v h s hg
    try dsimp only at hg
    split at hg <;> cases hg
    rfl

def LSall2  : LS where
  S := List Body × List Contact × Unit × List Body × Int × Int
  live := [(1, [none]), (5, [some .body]), (6, [none]), (7, [none])]
  shape := fun s => ([.vec 1, .vec 2, .int .i64 s.2.2.2.2.1, .int .i64 s.2.2.2.2.2], [(false, .vec .body s.1), (false, .vec .contact s.2.1), (true, .vec .body s.2.2.2.1)])
  get := fun v h => match v, h with
    | [.vec 1, .vec 2, .int .i64 j, .int .i64 k], [(false, .vec .body xs), (false, .vec .contact cs), (true, .vec .body ys)] => some (xs, cs, (), ys, j, k)
    | _, _ => none
  inv := fun s0 s => Holds (s.1 = s0.1 ∧ s.2.1 = s0.2.1 ∧ s.2.2.2.2.1 = s0.2.2.2.2.1 ∧ 0 ≤ s.2.2.2.2.2 ∧ s.2.2.2.2.2 ≤ s0.2.1.length ∧ Kin s0.1 s.2.2.2.1 ∧ pushRound s.2.2.2.1 (s0.2.2.2.2.1 == 0) (s0.2.1.drop s.2.2.2.2.2.toNat) = pushRound s0.2.2.2.1 (s0.2.2.2.2.1 == 0) (s0.2.1.drop s0.2.2.2.2.2.toNat))
  mu := fun s => ((s.2.1.length : Int) - s.2.2.2.2.2).toNat
  ok := by
    intro v h s hg
    try dsimp only at hg
    split at hg <;> cases hg
    rfl

def L_specAll : Loops := fun n => match n with
  | 3 => some LSall1
  | 6 => some LSall2
  | _ => none
noncomputable def fs_specAll : Fs := ⟨[], fun args H => match args, H with
  | [.vec 0, .vec 1], [(false, .vec .body xs), (false, .vec .contact cs)] => some ((some (AllP xs ∧ xs.length ≤ 12 ∧ CtsOk xs.length cs)), .vec 2, [(false, .vec .body xs), (false, .vec .contact cs), (true, .vec .body (pushAllF xs cs))])
  | _, _ => none⟩

theorem vc_specAll (xs : List Body) (cs : List Contact) (Q : SV → List Ent → Prop) :
    fnVC tt (look [(99, fs_specCopyB), (132, fs_specOne)]) (L_specAll) Try.f77 [.vec 0, .vec 1] [(false, .vec .body xs), (false, .vec .contact cs)] Q =
    (List.length xs ≤ (1048576 : Nat) ∧ Holds (xs = xs ∧ cs = cs ∧ (0 : Int) ≤ (0 : Int) ∧ (0 : Int) ≤ (4 : Int) ∧ Kin xs xs ∧ pushRest cs (Int.toNat ((4 : Int) - (0 : Int))) xs = pushAllF xs cs) ∧ ∀ (x : List Body × List Contact × Unit × List Body × Int), Holds (Prod.fst x = xs ∧ Prod.fst (Prod.snd x) = cs ∧ (0 : Int) ≤ Prod.snd (Prod.snd (Prod.snd (Prod.snd x))) ∧ Prod.snd (Prod.snd (Prod.snd (Prod.snd x))) ≤ (4 : Int) ∧ Kin xs (Prod.fst (Prod.snd (Prod.snd (Prod.snd x)))) ∧ pushRest cs (Int.toNat ((4 : Int) - Prod.snd (Prod.snd (Prod.snd (Prod.snd x))))) (Prod.fst (Prod.snd (Prod.snd (Prod.snd x)))) = pushAllF xs cs) → ifB (decide (Prod.snd (Prod.snd (Prod.snd (Prod.snd x))) < (4 : Int))) (Holds (Prod.fst x = Prod.fst x ∧ Prod.fst (Prod.snd x) = Prod.fst (Prod.snd x) ∧ Prod.snd (Prod.snd (Prod.snd (Prod.snd x))) = Prod.snd (Prod.snd (Prod.snd (Prod.snd x))) ∧ (0 : Int) ≤ (0 : Int) ∧ (0 : Int) ≤ (↑(List.length (Prod.fst (Prod.snd x))) : Int) ∧ Kin (Prod.fst x) (Prod.fst (Prod.snd (Prod.snd (Prod.snd x)))) ∧ pushRound (Prod.fst (Prod.snd (Prod.snd (Prod.snd x)))) (Prod.snd (Prod.snd (Prod.snd (Prod.snd x))) == (0 : Int)) (List.drop (Int.toNat (0 : Int)) (Prod.fst (Prod.snd x))) = pushRound (Prod.fst (Prod.snd (Prod.snd (Prod.snd x)))) (Prod.snd (Prod.snd (Prod.snd (Prod.snd x))) == (0 : Int)) (List.drop (Int.toNat (0 : Int)) (Prod.fst (Prod.snd x)))) ∧ ∀ (x_1 : List Body × List Contact × Unit × List Body × Int × Int), Holds (Prod.fst x_1 = Prod.fst x ∧ Prod.fst (Prod.snd x_1) = Prod.fst (Prod.snd x) ∧ Prod.fst (Prod.snd (Prod.snd (Prod.snd (Prod.snd x_1)))) = Prod.snd (Prod.snd (Prod.snd (Prod.snd x))) ∧ (0 : Int) ≤ Prod.snd (Prod.snd (Prod.snd (Prod.snd (Prod.snd x_1)))) ∧ Prod.snd (Prod.snd (Prod.snd (Prod.snd (Prod.snd x_1)))) ≤ (↑(List.length (Prod.fst (Prod.snd x))) : Int) ∧ Kin (Prod.fst x) (Prod.fst (Prod.snd (Prod.snd (Prod.snd x_1)))) ∧ pushRound (Prod.fst (Prod.snd (Prod.snd (Prod.snd x_1)))) (Prod.snd (Prod.snd (Prod.snd (Prod.snd x))) == (0 : Int)) (List.drop (Int.toNat (Prod.snd (Prod.snd (Prod.snd (Prod.snd (Prod.snd x_1)))))) (Prod.fst (Prod.snd x))) = pushRound (Prod.fst (Prod.snd (Prod.snd (Prod.snd x)))) (Prod.snd (Prod.snd (Prod.snd (Prod.snd x))) == (0 : Int)) (List.drop (Int.toNat (0 : Int)) (Prod.fst (Prod.snd x)))) → ifB (decide (Prod.snd (Prod.snd (Prod.snd (Prod.snd (Prod.snd x_1)))) < (↑(List.length (Prod.fst (Prod.snd x_1))) : Int))) (((0 : Int) ≤ Prod.snd (Prod.snd (Prod.snd (Prod.snd (Prod.snd x_1)))) ∧ Prod.snd (Prod.snd (Prod.snd (Prod.snd (Prod.snd x_1)))) < (↑(List.length (Prod.fst (Prod.snd x_1))) : Int)) ∧ ((∀ (k : Nat), k < List.length (Prod.fst (Prod.snd (Prod.snd (Prod.snd x_1)))) → POk (Ty.ix Ty.body (Prod.fst (Prod.snd (Prod.snd (Prod.snd x_1)))) k)) ∧ (0 : Int) ≤ Contact.A (Ty.ix Ty.contact (Prod.fst (Prod.snd x_1)) (Int.toNat (Prod.snd (Prod.snd (Prod.snd (Prod.snd (Prod.snd x_1))))))) ∧ Contact.A (Ty.ix Ty.contact (Prod.fst (Prod.snd x_1)) (Int.toNat (Prod.snd (Prod.snd (Prod.snd (Prod.snd (Prod.snd x_1))))))) < (↑(List.length (Prod.fst (Prod.snd (Prod.snd (Prod.snd x_1))))) : Int) ∧ (0 : Int) ≤ Contact.B (Ty.ix Ty.contact (Prod.fst (Prod.snd x_1)) (Int.toNat (Prod.snd (Prod.snd (Prod.snd (Prod.snd (Prod.snd x_1))))))) ∧ Contact.B (Ty.ix Ty.contact (Prod.fst (Prod.snd x_1)) (Int.toNat (Prod.snd (Prod.snd (Prod.snd (Prod.snd (Prod.snd x_1))))))) < (↑(List.length (Prod.fst (Prod.snd (Prod.snd (Prod.snd x_1))))) : Int) ∧ Contact.A (Ty.ix Ty.contact (Prod.fst (Prod.snd x_1)) (Int.toNat (Prod.snd (Prod.snd (Prod.snd (Prod.snd (Prod.snd x_1))))))) ≠ Contact.B (Ty.ix Ty.contact (Prod.fst (Prod.snd x_1)) (Int.toNat (Prod.snd (Prod.snd (Prod.snd (Prod.snd (Prod.snd x_1)))))))) ∧ Holds (Prod.fst x_1 = Prod.fst x ∧ Prod.fst (Prod.snd x_1) = Prod.fst (Prod.snd x) ∧ Prod.fst (Prod.snd (Prod.snd (Prod.snd (Prod.snd x_1)))) = Prod.snd (Prod.snd (Prod.snd (Prod.snd x))) ∧ (0 : Int) ≤ IntKind.wrap IntKind.i64 (Prod.snd (Prod.snd (Prod.snd (Prod.snd (Prod.snd x_1)))) + (1 : Int)) ∧ IntKind.wrap IntKind.i64 (Prod.snd (Prod.snd (Prod.snd (Prod.snd (Prod.snd x_1)))) + (1 : Int)) ≤ (↑(List.length (Prod.fst (Prod.snd x))) : Int) ∧ Kin (Prod.fst x) (pushOne (Prod.fst (Prod.snd (Prod.snd (Prod.snd x_1)))) (Ty.ix Ty.contact (Prod.fst (Prod.snd x_1)) (Int.toNat (Prod.snd (Prod.snd (Prod.snd (Prod.snd (Prod.snd x_1))))))) (Prod.fst (Prod.snd (Prod.snd (Prod.snd (Prod.snd x_1)))) == (0 : Int))) ∧ pushRound (pushOne (Prod.fst (Prod.snd (Prod.snd (Prod.snd x_1)))) (Ty.ix Ty.contact (Prod.fst (Prod.snd x_1)) (Int.toNat (Prod.snd (Prod.snd (Prod.snd (Prod.snd (Prod.snd x_1))))))) (Prod.fst (Prod.snd (Prod.snd (Prod.snd (Prod.snd x_1)))) == (0 : Int))) (Prod.snd (Prod.snd (Prod.snd (Prod.snd x))) == (0 : Int)) (List.drop (Int.toNat (IntKind.wrap IntKind.i64 (Prod.snd (Prod.snd (Prod.snd (Prod.snd (Prod.snd x_1)))) + (1 : Int)))) (Prod.fst (Prod.snd x))) = pushRound (Prod.fst (Prod.snd (Prod.snd (Prod.snd x)))) (Prod.snd (Prod.snd (Prod.snd (Prod.snd x))) == (0 : Int)) (List.drop (Int.toNat (0 : Int)) (Prod.fst (Prod.snd x)))) ∧ Int.toNat ((↑(List.length (Prod.fst (Prod.snd x_1))) : Int) - IntKind.wrap IntKind.i64 (Prod.snd (Prod.snd (Prod.snd (Prod.snd (Prod.snd x_1)))) + (1 : Int))) < Int.toNat ((↑(List.length (Prod.fst (Prod.snd x_1))) : Int) - Prod.snd (Prod.snd (Prod.snd (Prod.snd (Prod.snd x_1)))))) (Holds (Prod.fst x_1 = xs ∧ Prod.fst (Prod.snd x_1) = cs ∧ (0 : Int) ≤ IntKind.wrap IntKind.i64 (Prod.fst (Prod.snd (Prod.snd (Prod.snd (Prod.snd x_1)))) + (1 : Int)) ∧ IntKind.wrap IntKind.i64 (Prod.fst (Prod.snd (Prod.snd (Prod.snd (Prod.snd x_1)))) + (1 : Int)) ≤ (4 : Int) ∧ Kin xs (Prod.fst (Prod.snd (Prod.snd (Prod.snd x_1)))) ∧ pushRest cs (Int.toNat ((4 : Int) - IntKind.wrap IntKind.i64 (Prod.fst (Prod.snd (Prod.snd (Prod.snd (Prod.snd x_1)))) + (1 : Int)))) (Prod.fst (Prod.snd (Prod.snd (Prod.snd x_1)))) = pushAllF xs cs) ∧ Int.toNat ((4 : Int) - IntKind.wrap IntKind.i64 (Prod.fst (Prod.snd (Prod.snd (Prod.snd (Prod.snd x_1)))) + (1 : Int))) < Int.toNat ((4 : Int) - Prod.snd (Prod.snd (Prod.snd (Prod.snd x)))))) (Q (SV.vec (2 : Nat)) [(false, Blk.vec Ty.body (Prod.fst x)), (false, Blk.vec Ty.contact (Prod.fst (Prod.snd x))), (true, Blk.vec Ty.body (Prod.fst (Prod.snd (Prod.snd (Prod.snd x)))))])) := by kernel_rfl

theorem ok_specAll : FsOk Try.prog 77 fs_specAll := fsOk_of tt_ok (tabFs_cons ok_specCopyB (tabFs_cons ok_specOne tabFs_nil)) mixed Try.func77 (by kernel_rfl) (by kernel_rfl) (by
    intro args LL p r HH h hp
    unfold fs_specAll at h
    dsimp only at h
    split at h
    case h_2 => cases h
    rename_i xs cs
    simp only [Option.some.injEq, Prod.mk.injEq] at h
    obtain ⟨rfl, rfl, rfl⟩ := h
    refine ⟨by simp [Form, stays], (L_specAll), ?_⟩
    rw [vc_specAll]
    try dsimp only
    obtain ⟨hA, hl, hc⟩ := hp _ rfl
    have hc0 := hc.1
    refine ⟨by omega, ⟨(by trivial), (by trivial), by omega, by omega, .refl _, pushRest_all _ _⟩, ?_⟩
    rintro ⟨xs', cs', u, ys, j⟩ ⟨h⟩
    dsimp only at h ⊢
    obtain ⟨rfl, rfl, j0, j1, hk, h2⟩ := h
    refine ifB_of (fun c1 => ?_) (fun c1 => ?_)
    · have c1 := of_decide_eq_true c1
      rw [pushRest_at j0 c1] at h2
      refine ⟨⟨(by trivial), (by trivial), (by trivial), by omega, by omega, hk, (by trivial)⟩, ?_⟩
      rintro ⟨xs'', cs'', u', zs, j', k⟩ ⟨h⟩
      dsimp only at h ⊢
      obtain ⟨rfl, rfl, rfl, k0, k1, hk2, h3⟩ := h
      refine ifB_of (fun c2 => ?_) (fun c2 => ?_)
      · have c2 := of_decide_eq_true c2
        have hik : k.toNat < cs''.length := by omega
        rw [pushRound_drop hik] at h3
        have e2 : (k + 1).toNat = k.toNat + 1 := by omega
        have w : IntKind.i64.wrap (k + 1) = k + 1 := wrap_small (by omega) (by omega)
        have hck := hc.2 _ hik
        rw [w, e2]
        refine ⟨⟨k0, c2⟩, ⟨allP_kin hk2 hA, hk2.1 ▸ hck⟩, ⟨(by trivial), (by trivial), (by trivial), by omega, by omega, ?_, h3⟩, by omega⟩
        exact hk2.trans (kin_pushOne (ct_ne hck))
      · have c2 := of_decide_eq_false c2
        have w : IntKind.i64.wrap (j' + 1) = j' + 1 := wrap_small (by omega) (by omega)
        rw [drop_end (by omega)] at h3
        have h3 : zs = pushRound ys (j' == 0) cs'' := h3
        rw [w]
        refine ⟨⟨(by trivial), (by trivial), by omega, by omega, hk2, by rw [h3]; exact h2⟩, by omega⟩
    · have c1 := of_decide_eq_false c1
      have e : (4 - j).toNat = 0 := by omega
      rw [e] at h2
      have h2 : ys = _ := h2
      rw [h2]
      exact ⟨rfl, rfl⟩)

def LSip1 (xs : List Body) : LS where
  S := List Body × List Contact × Unit × Unit × Int
  live := [(0, [none]), (1, [none]), (10, [none])]
  shape := fun s => ([.vec 0, .vec 1, .int .i64 s.2.2.2.2], [(true, .vec .body s.1), (false, .vec .contact s.2.1)])
  get := fun v h => match v, h with
    | [.vec 0, .vec 1, .int .i64 j], [(true, .vec .body ys), (false, .vec .contact cs)] => some (ys, cs, (), (), j)
    | _, _ => none
  inv := fun s0 s => Holds (s.2.1 = s0.2.1 ∧ 0 ≤ s.2.2.2.2 ∧ s.2.2.2.2 ≤ 4 ∧ Kin xs s.1 ∧ pushRest s0.2.1 (4 - s.2.2.2.2).toNat s.1 = pushAllF xs s0.2.1)
  mu := fun s => (4 - s.2.2.2.2).toNat
  ok := by
    intro v h s hg
    try dsimp only at hg
    split at hg <;> cases hg
    rfl

def LSip2 (xs : List Body) : LS where
  S := List Body × List Contact × Unit × Unit × Int × Int × Unit × Int × Int
  live := [(0, [none]), (1, [none]), (4, [none]), (10, [none]), (13, [none]), (14, [none]), (15, [none])]
  shape := fun s => ([.vec 0, .vec 1, .int .i64 s.2.2.2.2.1, .int .i64 s.2.2.2.2.2.1, .vec 1, .int .i64 s.2.2.2.2.2.2.2.1, .int .i64 s.2.2.2.2.2.2.2.2], [(true, .vec .body s.1), (false, .vec .contact s.2.1)])
  get := fun v h => match v, h with
    | [.vec 0, .vec 1, .int .i64 z, .int .i64 j, .vec 1, .int .i64 n, .int .i64 k], [(true, .vec .body ys), (false, .vec .contact cs)] => some (ys, cs, (), (), z, j, (), n, k)
    | _, _ => none
  inv := fun s0 s => Holds (s.2.1 = s0.2.1 ∧ s.2.2.2.2.1 = s0.2.2.2.2.2.1 ∧ s.2.2.2.2.2.1 = s0.2.2.2.2.2.1 ∧ s.2.2.2.2.2.2.2.1 = s0.2.1.length ∧ 0 ≤ s.2.2.2.2.2.2.2.2 ∧ s.2.2.2.2.2.2.2.2 ≤ s0.2.1.length ∧ Kin xs s.1 ∧ pushRound s.1 (s0.2.2.2.2.2.1 == 0) (s0.2.1.drop s.2.2.2.2.2.2.2.2.toNat) = pushRound s0.1 (s0.2.2.2.2.2.1 == 0) (s0.2.1.drop s0.2.2.2.2.2.2.2.2.toNat))
  mu := fun s => ((s.2.1.length : Int) - s.2.2.2.2.2.2.2.2).toNat
  ok := by
    intro v h s hg
    try dsimp only at hg
    split at hg <;> cases hg
    rfl

def L_implAll (xs : List Body) : Loops := fun n => match n with
  | 1 => some (LSip1 xs)
  | 4 => some (LSip2 xs)
  | _ => none
noncomputable def fs_implAll : Fs := ⟨[true, false], fun args H => match args, H with
  | [.vec 0, .vec 1], [(true, .vec .body xs), (false, .vec .contact cs)] => some ((some (AllP xs ∧ xs.length ≤ 12 ∧ CtsOk xs.length cs)), .tup [], [(true, .vec .body (pushAllF xs cs)), (false, .vec .contact cs)])
  | _, _ => none⟩

theorem vc_implAll (xs : List Body) (cs : List Contact) (Q : SV → List Ent → Prop) :
    fnVC tt (look [(133, fs_implPushOfIn), (107, fs_implOpposite), (134, fs_implBears), (73, fs_implPushB)]) (L_implAll xs) Try.f78 [.vec 0, .vec 1] [(true, .vec .body xs), (false, .vec .contact cs)] Q =
    (Holds (cs = cs ∧ (0 : Int) ≤ (0 : Int) ∧ (0 : Int) ≤ (4 : Int) ∧ Kin xs xs ∧ pushRest cs (Int.toNat ((4 : Int) - (0 : Int))) xs = pushAllF xs cs) ∧ ∀ (x : List Body × List Contact × Unit × Unit × Int), Holds (Prod.fst (Prod.snd x) = cs ∧ (0 : Int) ≤ Prod.snd (Prod.snd (Prod.snd (Prod.snd x))) ∧ Prod.snd (Prod.snd (Prod.snd (Prod.snd x))) ≤ (4 : Int) ∧ Kin xs (Prod.fst x) ∧ pushRest cs (Int.toNat ((4 : Int) - Prod.snd (Prod.snd (Prod.snd (Prod.snd x))))) (Prod.fst x) = pushAllF xs cs) → ifB (decide (Prod.snd (Prod.snd (Prod.snd (Prod.snd x))) < (4 : Int))) (Holds (Prod.fst (Prod.snd x) = Prod.fst (Prod.snd x) ∧ Prod.snd (Prod.snd (Prod.snd (Prod.snd x))) = Prod.snd (Prod.snd (Prod.snd (Prod.snd x))) ∧ Prod.snd (Prod.snd (Prod.snd (Prod.snd x))) = Prod.snd (Prod.snd (Prod.snd (Prod.snd x))) ∧ (↑(List.length (Prod.fst (Prod.snd x))) : Int) = (↑(List.length (Prod.fst (Prod.snd x))) : Int) ∧ (0 : Int) ≤ (0 : Int) ∧ (0 : Int) ≤ (↑(List.length (Prod.fst (Prod.snd x))) : Int) ∧ Kin xs (Prod.fst x) ∧ pushRound (Prod.fst x) (Prod.snd (Prod.snd (Prod.snd (Prod.snd x))) == (0 : Int)) (List.drop (Int.toNat (0 : Int)) (Prod.fst (Prod.snd x))) = pushRound (Prod.fst x) (Prod.snd (Prod.snd (Prod.snd (Prod.snd x))) == (0 : Int)) (List.drop (Int.toNat (0 : Int)) (Prod.fst (Prod.snd x)))) ∧ ∀ (x_1 : List Body × List Contact × Unit × Unit × Int × Int × Unit × Int × Int), Holds (Prod.fst (Prod.snd x_1) = Prod.fst (Prod.snd x) ∧ Prod.fst (Prod.snd (Prod.snd (Prod.snd (Prod.snd x_1)))) = Prod.snd (Prod.snd (Prod.snd (Prod.snd x))) ∧ Prod.fst (Prod.snd (Prod.snd (Prod.snd (Prod.snd (Prod.snd x_1))))) = Prod.snd (Prod.snd (Prod.snd (Prod.snd x))) ∧ Prod.fst (Prod.snd (Prod.snd (Prod.snd (Prod.snd (Prod.snd (Prod.snd (Prod.snd x_1))))))) = (↑(List.length (Prod.fst (Prod.snd x))) : Int) ∧ (0 : Int) ≤ Prod.snd (Prod.snd (Prod.snd (Prod.snd (Prod.snd (Prod.snd (Prod.snd (Prod.snd x_1))))))) ∧ Prod.snd (Prod.snd (Prod.snd (Prod.snd (Prod.snd (Prod.snd (Prod.snd (Prod.snd x_1))))))) ≤ (↑(List.length (Prod.fst (Prod.snd x))) : Int) ∧ Kin xs (Prod.fst x_1) ∧ pushRound (Prod.fst x_1) (Prod.snd (Prod.snd (Prod.snd (Prod.snd x))) == (0 : Int)) (List.drop (Int.toNat (Prod.snd (Prod.snd (Prod.snd (Prod.snd (Prod.snd (Prod.snd (Prod.snd (Prod.snd x_1))))))))) (Prod.fst (Prod.snd x))) = pushRound (Prod.fst x) (Prod.snd (Prod.snd (Prod.snd (Prod.snd x))) == (0 : Int)) (List.drop (Int.toNat (0 : Int)) (Prod.fst (Prod.snd x)))) → ifB (decide (Prod.snd (Prod.snd (Prod.snd (Prod.snd (Prod.snd (Prod.snd (Prod.snd (Prod.snd x_1))))))) < Prod.fst (Prod.snd (Prod.snd (Prod.snd (Prod.snd (Prod.snd (Prod.snd (Prod.snd x_1))))))))) (((0 : Int) ≤ Prod.snd (Prod.snd (Prod.snd (Prod.snd (Prod.snd (Prod.snd (Prod.snd (Prod.snd x_1))))))) ∧ Prod.snd (Prod.snd (Prod.snd (Prod.snd (Prod.snd (Prod.snd (Prod.snd (Prod.snd x_1))))))) < (↑(List.length (Prod.fst (Prod.snd x_1))) : Int)) ∧ ((0 : Int) ≤ Contact.A (Ty.ix Ty.contact (Prod.fst (Prod.snd x_1)) (Int.toNat (Prod.snd (Prod.snd (Prod.snd (Prod.snd (Prod.snd (Prod.snd (Prod.snd (Prod.snd x_1)))))))))) ∧ Contact.A (Ty.ix Ty.contact (Prod.fst (Prod.snd x_1)) (Int.toNat (Prod.snd (Prod.snd (Prod.snd (Prod.snd (Prod.snd (Prod.snd (Prod.snd (Prod.snd x_1)))))))))) < (↑(List.length (Prod.fst x_1)) : Int)) ∧ ((0 : Int) ≤ Contact.B (Ty.ix Ty.contact (Prod.fst (Prod.snd x_1)) (Int.toNat (Prod.snd (Prod.snd (Prod.snd (Prod.snd (Prod.snd (Prod.snd (Prod.snd (Prod.snd x_1)))))))))) ∧ Contact.B (Ty.ix Ty.contact (Prod.fst (Prod.snd x_1)) (Int.toNat (Prod.snd (Prod.snd (Prod.snd (Prod.snd (Prod.snd (Prod.snd (Prod.snd (Prod.snd x_1)))))))))) < (↑(List.length (Prod.fst x_1)) : Int)) ∧ (POk (Ty.ix Ty.body (Prod.fst x_1) (Int.toNat (Contact.A (Ty.ix Ty.contact (Prod.fst (Prod.snd x_1)) (Int.toNat (Prod.snd (Prod.snd (Prod.snd (Prod.snd (Prod.snd (Prod.snd (Prod.snd (Prod.snd x_1))))))))))))) ∧ POk (Ty.ix Ty.body (Prod.fst x_1) (Int.toNat (Contact.B (Ty.ix Ty.contact (Prod.fst (Prod.snd x_1)) (Int.toNat (Prod.snd (Prod.snd (Prod.snd (Prod.snd (Prod.snd (Prod.snd (Prod.snd (Prod.snd x_1)))))))))))))) ∧ ifB (Vec.X (pushV (Ty.ix Ty.body (Prod.fst x_1) (Int.toNat (Contact.A (Ty.ix Ty.contact (Prod.fst (Prod.snd x_1)) (Int.toNat (Prod.snd (Prod.snd (Prod.snd (Prod.snd (Prod.snd (Prod.snd (Prod.snd (Prod.snd x_1))))))))))))) (Ty.ix Ty.body (Prod.fst x_1) (Int.toNat (Contact.B (Ty.ix Ty.contact (Prod.fst (Prod.snd x_1)) (Int.toNat (Prod.snd (Prod.snd (Prod.snd (Prod.snd (Prod.snd (Prod.snd (Prod.snd (Prod.snd x_1))))))))))))) (Contact.Hit (Ty.ix Ty.contact (Prod.fst (Prod.snd x_1)) (Int.toNat (Prod.snd (Prod.snd (Prod.snd (Prod.snd (Prod.snd (Prod.snd (Prod.snd (Prod.snd x_1))))))))))) (Prod.fst (Prod.snd (Prod.snd (Prod.snd (Prod.snd x_1)))) == (0 : Int))) == (0 : Int) && Vec.Y (pushV (Ty.ix Ty.body (Prod.fst x_1) (Int.toNat (Contact.A (Ty.ix Ty.contact (Prod.fst (Prod.snd x_1)) (Int.toNat (Prod.snd (Prod.snd (Prod.snd (Prod.snd (Prod.snd (Prod.snd (Prod.snd (Prod.snd x_1))))))))))))) (Ty.ix Ty.body (Prod.fst x_1) (Int.toNat (Contact.B (Ty.ix Ty.contact (Prod.fst (Prod.snd x_1)) (Int.toNat (Prod.snd (Prod.snd (Prod.snd (Prod.snd (Prod.snd (Prod.snd (Prod.snd (Prod.snd x_1))))))))))))) (Contact.Hit (Ty.ix Ty.contact (Prod.fst (Prod.snd x_1)) (Int.toNat (Prod.snd (Prod.snd (Prod.snd (Prod.snd (Prod.snd (Prod.snd (Prod.snd (Prod.snd x_1))))))))))) (Prod.fst (Prod.snd (Prod.snd (Prod.snd (Prod.snd x_1)))) == (0 : Int))) == (0 : Int)) (Holds (Prod.fst (Prod.snd x_1) = Prod.fst (Prod.snd x) ∧ Prod.fst (Prod.snd (Prod.snd (Prod.snd (Prod.snd x_1)))) = Prod.snd (Prod.snd (Prod.snd (Prod.snd x))) ∧ Prod.fst (Prod.snd (Prod.snd (Prod.snd (Prod.snd (Prod.snd x_1))))) = Prod.snd (Prod.snd (Prod.snd (Prod.snd x))) ∧ Prod.fst (Prod.snd (Prod.snd (Prod.snd (Prod.snd (Prod.snd (Prod.snd (Prod.snd x_1))))))) = (↑(List.length (Prod.fst (Prod.snd x))) : Int) ∧ (0 : Int) ≤ IntKind.wrap IntKind.i64 (Prod.snd (Prod.snd (Prod.snd (Prod.snd (Prod.snd (Prod.snd (Prod.snd (Prod.snd x_1))))))) + (1 : Int)) ∧ IntKind.wrap IntKind.i64 (Prod.snd (Prod.snd (Prod.snd (Prod.snd (Prod.snd (Prod.snd (Prod.snd (Prod.snd x_1))))))) + (1 : Int)) ≤ (↑(List.length (Prod.fst (Prod.snd x))) : Int) ∧ Kin xs (Prod.fst x_1) ∧ pushRound (Prod.fst x_1) (Prod.snd (Prod.snd (Prod.snd (Prod.snd x))) == (0 : Int)) (List.drop (Int.toNat (IntKind.wrap IntKind.i64 (Prod.snd (Prod.snd (Prod.snd (Prod.snd (Prod.snd (Prod.snd (Prod.snd (Prod.snd x_1))))))) + (1 : Int)))) (Prod.fst (Prod.snd x))) = pushRound (Prod.fst x) (Prod.snd (Prod.snd (Prod.snd (Prod.snd x))) == (0 : Int)) (List.drop (Int.toNat (0 : Int)) (Prod.fst (Prod.snd x)))) ∧ Int.toNat ((↑(List.length (Prod.fst (Prod.snd x_1))) : Int) - IntKind.wrap IntKind.i64 (Prod.snd (Prod.snd (Prod.snd (Prod.snd (Prod.snd (Prod.snd (Prod.snd (Prod.snd x_1))))))) + (1 : Int))) < Int.toNat ((↑(List.length (Prod.fst (Prod.snd x_1))) : Int) - Prod.snd (Prod.snd (Prod.snd (Prod.snd (Prod.snd (Prod.snd (Prod.snd (Prod.snd x_1))))))))) (ifB (!bearsF (Ty.ix Ty.body (Prod.fst x_1) (Int.toNat (Contact.A (Ty.ix Ty.contact (Prod.fst (Prod.snd x_1)) (Int.toNat (Prod.snd (Prod.snd (Prod.snd (Prod.snd (Prod.snd (Prod.snd (Prod.snd (Prod.snd x_1))))))))))))) (Vec.mk (W ((0 : Int) - Vec.X (pushV (Ty.ix Ty.body (Prod.fst x_1) (Int.toNat (Contact.A (Ty.ix Ty.contact (Prod.fst (Prod.snd x_1)) (Int.toNat (Prod.snd (Prod.snd (Prod.snd (Prod.snd (Prod.snd (Prod.snd (Prod.snd (Prod.snd x_1))))))))))))) (Ty.ix Ty.body (Prod.fst x_1) (Int.toNat (Contact.B (Ty.ix Ty.contact (Prod.fst (Prod.snd x_1)) (Int.toNat (Prod.snd (Prod.snd (Prod.snd (Prod.snd (Prod.snd (Prod.snd (Prod.snd (Prod.snd x_1))))))))))))) (Contact.Hit (Ty.ix Ty.contact (Prod.fst (Prod.snd x_1)) (Int.toNat (Prod.snd (Prod.snd (Prod.snd (Prod.snd (Prod.snd (Prod.snd (Prod.snd (Prod.snd x_1))))))))))) (Prod.fst (Prod.snd (Prod.snd (Prod.snd (Prod.snd x_1)))) == (0 : Int))))) (W ((0 : Int) - Vec.Y (pushV (Ty.ix Ty.body (Prod.fst x_1) (Int.toNat (Contact.A (Ty.ix Ty.contact (Prod.fst (Prod.snd x_1)) (Int.toNat (Prod.snd (Prod.snd (Prod.snd (Prod.snd (Prod.snd (Prod.snd (Prod.snd (Prod.snd x_1))))))))))))) (Ty.ix Ty.body (Prod.fst x_1) (Int.toNat (Contact.B (Ty.ix Ty.contact (Prod.fst (Prod.snd x_1)) (Int.toNat (Prod.snd (Prod.snd (Prod.snd (Prod.snd (Prod.snd (Prod.snd (Prod.snd (Prod.snd x_1))))))))))))) (Contact.Hit (Ty.ix Ty.contact (Prod.fst (Prod.snd x_1)) (Int.toNat (Prod.snd (Prod.snd (Prod.snd (Prod.snd (Prod.snd (Prod.snd (Prod.snd (Prod.snd x_1))))))))))) (Prod.fst (Prod.snd (Prod.snd (Prod.snd (Prod.snd x_1)))) == (0 : Int))))))) (Holds (Prod.fst (Prod.snd x_1) = Prod.fst (Prod.snd x) ∧ Prod.fst (Prod.snd (Prod.snd (Prod.snd (Prod.snd x_1)))) = Prod.snd (Prod.snd (Prod.snd (Prod.snd x))) ∧ Prod.fst (Prod.snd (Prod.snd (Prod.snd (Prod.snd (Prod.snd x_1))))) = Prod.snd (Prod.snd (Prod.snd (Prod.snd x))) ∧ Prod.fst (Prod.snd (Prod.snd (Prod.snd (Prod.snd (Prod.snd (Prod.snd (Prod.snd x_1))))))) = (↑(List.length (Prod.fst (Prod.snd x))) : Int) ∧ (0 : Int) ≤ IntKind.wrap IntKind.i64 (Prod.snd (Prod.snd (Prod.snd (Prod.snd (Prod.snd (Prod.snd (Prod.snd (Prod.snd x_1))))))) + (1 : Int)) ∧ IntKind.wrap IntKind.i64 (Prod.snd (Prod.snd (Prod.snd (Prod.snd (Prod.snd (Prod.snd (Prod.snd (Prod.snd x_1))))))) + (1 : Int)) ≤ (↑(List.length (Prod.fst (Prod.snd x))) : Int) ∧ Kin xs (Prod.fst x_1) ∧ pushRound (Prod.fst x_1) (Prod.snd (Prod.snd (Prod.snd (Prod.snd x))) == (0 : Int)) (List.drop (Int.toNat (IntKind.wrap IntKind.i64 (Prod.snd (Prod.snd (Prod.snd (Prod.snd (Prod.snd (Prod.snd (Prod.snd (Prod.snd x_1))))))) + (1 : Int)))) (Prod.fst (Prod.snd x))) = pushRound (Prod.fst x) (Prod.snd (Prod.snd (Prod.snd (Prod.snd x))) == (0 : Int)) (List.drop (Int.toNat (0 : Int)) (Prod.fst (Prod.snd x)))) ∧ Int.toNat ((↑(List.length (Prod.fst (Prod.snd x_1))) : Int) - IntKind.wrap IntKind.i64 (Prod.snd (Prod.snd (Prod.snd (Prod.snd (Prod.snd (Prod.snd (Prod.snd (Prod.snd x_1))))))) + (1 : Int))) < Int.toNat ((↑(List.length (Prod.fst (Prod.snd x_1))) : Int) - Prod.snd (Prod.snd (Prod.snd (Prod.snd (Prod.snd (Prod.snd (Prod.snd (Prod.snd x_1))))))))) (ifB (!bearsF (Ty.ix Ty.body (Prod.fst x_1) (Int.toNat (Contact.B (Ty.ix Ty.contact (Prod.fst (Prod.snd x_1)) (Int.toNat (Prod.snd (Prod.snd (Prod.snd (Prod.snd (Prod.snd (Prod.snd (Prod.snd (Prod.snd x_1))))))))))))) (pushV (Ty.ix Ty.body (Prod.fst x_1) (Int.toNat (Contact.A (Ty.ix Ty.contact (Prod.fst (Prod.snd x_1)) (Int.toNat (Prod.snd (Prod.snd (Prod.snd (Prod.snd (Prod.snd (Prod.snd (Prod.snd (Prod.snd x_1))))))))))))) (Ty.ix Ty.body (Prod.fst x_1) (Int.toNat (Contact.B (Ty.ix Ty.contact (Prod.fst (Prod.snd x_1)) (Int.toNat (Prod.snd (Prod.snd (Prod.snd (Prod.snd (Prod.snd (Prod.snd (Prod.snd (Prod.snd x_1))))))))))))) (Contact.Hit (Ty.ix Ty.contact (Prod.fst (Prod.snd x_1)) (Int.toNat (Prod.snd (Prod.snd (Prod.snd (Prod.snd (Prod.snd (Prod.snd (Prod.snd (Prod.snd x_1))))))))))) (Prod.fst (Prod.snd (Prod.snd (Prod.snd (Prod.snd x_1)))) == (0 : Int)))) (Holds (Prod.fst (Prod.snd x_1) = Prod.fst (Prod.snd x) ∧ Prod.fst (Prod.snd (Prod.snd (Prod.snd (Prod.snd x_1)))) = Prod.snd (Prod.snd (Prod.snd (Prod.snd x))) ∧ Prod.fst (Prod.snd (Prod.snd (Prod.snd (Prod.snd (Prod.snd x_1))))) = Prod.snd (Prod.snd (Prod.snd (Prod.snd x))) ∧ Prod.fst (Prod.snd (Prod.snd (Prod.snd (Prod.snd (Prod.snd (Prod.snd (Prod.snd x_1))))))) = (↑(List.length (Prod.fst (Prod.snd x))) : Int) ∧ (0 : Int) ≤ IntKind.wrap IntKind.i64 (Prod.snd (Prod.snd (Prod.snd (Prod.snd (Prod.snd (Prod.snd (Prod.snd (Prod.snd x_1))))))) + (1 : Int)) ∧ IntKind.wrap IntKind.i64 (Prod.snd (Prod.snd (Prod.snd (Prod.snd (Prod.snd (Prod.snd (Prod.snd (Prod.snd x_1))))))) + (1 : Int)) ≤ (↑(List.length (Prod.fst (Prod.snd x))) : Int) ∧ Kin xs (Prod.fst x_1) ∧ pushRound (Prod.fst x_1) (Prod.snd (Prod.snd (Prod.snd (Prod.snd x))) == (0 : Int)) (List.drop (Int.toNat (IntKind.wrap IntKind.i64 (Prod.snd (Prod.snd (Prod.snd (Prod.snd (Prod.snd (Prod.snd (Prod.snd (Prod.snd x_1))))))) + (1 : Int)))) (Prod.fst (Prod.snd x))) = pushRound (Prod.fst x) (Prod.snd (Prod.snd (Prod.snd (Prod.snd x))) == (0 : Int)) (List.drop (Int.toNat (0 : Int)) (Prod.fst (Prod.snd x)))) ∧ Int.toNat ((↑(List.length (Prod.fst (Prod.snd x_1))) : Int) - IntKind.wrap IntKind.i64 (Prod.snd (Prod.snd (Prod.snd (Prod.snd (Prod.snd (Prod.snd (Prod.snd (Prod.snd x_1))))))) + (1 : Int))) < Int.toNat ((↑(List.length (Prod.fst (Prod.snd x_1))) : Int) - Prod.snd (Prod.snd (Prod.snd (Prod.snd (Prod.snd (Prod.snd (Prod.snd (Prod.snd x_1))))))))) (Int.toNat (Contact.A (Ty.ix Ty.contact (Prod.fst (Prod.snd x_1)) (Int.toNat (Prod.snd (Prod.snd (Prod.snd (Prod.snd (Prod.snd (Prod.snd (Prod.snd (Prod.snd x_1))))))))))) < List.length (Prod.fst x_1) ∧ Int.toNat (Contact.B (Ty.ix Ty.contact (Prod.fst (Prod.snd x_1)) (Int.toNat (Prod.snd (Prod.snd (Prod.snd (Prod.snd (Prod.snd (Prod.snd (Prod.snd (Prod.snd x_1))))))))))) < List.length (List.set (Prod.fst x_1) (Int.toNat (Contact.A (Ty.ix Ty.contact (Prod.fst (Prod.snd x_1)) (Int.toNat (Prod.snd (Prod.snd (Prod.snd (Prod.snd (Prod.snd (Prod.snd (Prod.snd (Prod.snd x_1)))))))))))) (pushB (Ty.ix Ty.body (Prod.fst x_1) (Int.toNat (Contact.A (Ty.ix Ty.contact (Prod.fst (Prod.snd x_1)) (Int.toNat (Prod.snd (Prod.snd (Prod.snd (Prod.snd (Prod.snd (Prod.snd (Prod.snd (Prod.snd x_1))))))))))))) (Vec.mk (W ((0 : Int) - Vec.X (pushV (Ty.ix Ty.body (Prod.fst x_1) (Int.toNat (Contact.A (Ty.ix Ty.contact (Prod.fst (Prod.snd x_1)) (Int.toNat (Prod.snd (Prod.snd (Prod.snd (Prod.snd (Prod.snd (Prod.snd (Prod.snd (Prod.snd x_1))))))))))))) (Ty.ix Ty.body (Prod.fst x_1) (Int.toNat (Contact.B (Ty.ix Ty.contact (Prod.fst (Prod.snd x_1)) (Int.toNat (Prod.snd (Prod.snd (Prod.snd (Prod.snd (Prod.snd (Prod.snd (Prod.snd (Prod.snd x_1))))))))))))) (Contact.Hit (Ty.ix Ty.contact (Prod.fst (Prod.snd x_1)) (Int.toNat (Prod.snd (Prod.snd (Prod.snd (Prod.snd (Prod.snd (Prod.snd (Prod.snd (Prod.snd x_1))))))))))) (Prod.fst (Prod.snd (Prod.snd (Prod.snd (Prod.snd x_1)))) == (0 : Int))))) (W ((0 : Int) - Vec.Y (pushV (Ty.ix Ty.body (Prod.fst x_1) (Int.toNat (Contact.A (Ty.ix Ty.contact (Prod.fst (Prod.snd x_1)) (Int.toNat (Prod.snd (Prod.snd (Prod.snd (Prod.snd (Prod.snd (Prod.snd (Prod.snd (Prod.snd x_1))))))))))))) (Ty.ix Ty.body (Prod.fst x_1) (Int.toNat (Contact.B (Ty.ix Ty.contact (Prod.fst (Prod.snd x_1)) (Int.toNat (Prod.snd (Prod.snd (Prod.snd (Prod.snd (Prod.snd (Prod.snd (Prod.snd (Prod.snd x_1))))))))))))) (Contact.Hit (Ty.ix Ty.contact (Prod.fst (Prod.snd x_1)) (Int.toNat (Prod.snd (Prod.snd (Prod.snd (Prod.snd (Prod.snd (Prod.snd (Prod.snd (Prod.snd x_1))))))))))) (Prod.fst (Prod.snd (Prod.snd (Prod.snd (Prod.snd x_1)))) == (0 : Int)))))))) ∧ Holds (Prod.fst (Prod.snd x_1) = Prod.fst (Prod.snd x) ∧ Prod.fst (Prod.snd (Prod.snd (Prod.snd (Prod.snd x_1)))) = Prod.snd (Prod.snd (Prod.snd (Prod.snd x))) ∧ Prod.fst (Prod.snd (Prod.snd (Prod.snd (Prod.snd (Prod.snd x_1))))) = Prod.snd (Prod.snd (Prod.snd (Prod.snd x))) ∧ Prod.fst (Prod.snd (Prod.snd (Prod.snd (Prod.snd (Prod.snd (Prod.snd (Prod.snd x_1))))))) = (↑(List.length (Prod.fst (Prod.snd x))) : Int) ∧ (0 : Int) ≤ IntKind.wrap IntKind.i64 (Prod.snd (Prod.snd (Prod.snd (Prod.snd (Prod.snd (Prod.snd (Prod.snd (Prod.snd x_1))))))) + (1 : Int)) ∧ IntKind.wrap IntKind.i64 (Prod.snd (Prod.snd (Prod.snd (Prod.snd (Prod.snd (Prod.snd (Prod.snd (Prod.snd x_1))))))) + (1 : Int)) ≤ (↑(List.length (Prod.fst (Prod.snd x))) : Int) ∧ Kin xs (List.set (List.set (Prod.fst x_1) (Int.toNat (Contact.A (Ty.ix Ty.contact (Prod.fst (Prod.snd x_1)) (Int.toNat (Prod.snd (Prod.snd (Prod.snd (Prod.snd (Prod.snd (Prod.snd (Prod.snd (Prod.snd x_1)))))))))))) (pushB (Ty.ix Ty.body (Prod.fst x_1) (Int.toNat (Contact.A (Ty.ix Ty.contact (Prod.fst (Prod.snd x_1)) (Int.toNat (Prod.snd (Prod.snd (Prod.snd (Prod.snd (Prod.snd (Prod.snd (Prod.snd (Prod.snd x_1))))))))))))) (Vec.mk (W ((0 : Int) - Vec.X (pushV (Ty.ix Ty.body (Prod.fst x_1) (Int.toNat (Contact.A (Ty.ix Ty.contact (Prod.fst (Prod.snd x_1)) (Int.toNat (Prod.snd (Prod.snd (Prod.snd (Prod.snd (Prod.snd (Prod.snd (Prod.snd (Prod.snd x_1))))))))))))) (Ty.ix Ty.body (Prod.fst x_1) (Int.toNat (Contact.B (Ty.ix Ty.contact (Prod.fst (Prod.snd x_1)) (Int.toNat (Prod.snd (Prod.snd (Prod.snd (Prod.snd (Prod.snd (Prod.snd (Prod.snd (Prod.snd x_1))))))))))))) (Contact.Hit (Ty.ix Ty.contact (Prod.fst (Prod.snd x_1)) (Int.toNat (Prod.snd (Prod.snd (Prod.snd (Prod.snd (Prod.snd (Prod.snd (Prod.snd (Prod.snd x_1))))))))))) (Prod.fst (Prod.snd (Prod.snd (Prod.snd (Prod.snd x_1)))) == (0 : Int))))) (W ((0 : Int) - Vec.Y (pushV (Ty.ix Ty.body (Prod.fst x_1) (Int.toNat (Contact.A (Ty.ix Ty.contact (Prod.fst (Prod.snd x_1)) (Int.toNat (Prod.snd (Prod.snd (Prod.snd (Prod.snd (Prod.snd (Prod.snd (Prod.snd (Prod.snd x_1))))))))))))) (Ty.ix Ty.body (Prod.fst x_1) (Int.toNat (Contact.B (Ty.ix Ty.contact (Prod.fst (Prod.snd x_1)) (Int.toNat (Prod.snd (Prod.snd (Prod.snd (Prod.snd (Prod.snd (Prod.snd (Prod.snd (Prod.snd x_1))))))))))))) (Contact.Hit (Ty.ix Ty.contact (Prod.fst (Prod.snd x_1)) (Int.toNat (Prod.snd (Prod.snd (Prod.snd (Prod.snd (Prod.snd (Prod.snd (Prod.snd (Prod.snd x_1))))))))))) (Prod.fst (Prod.snd (Prod.snd (Prod.snd (Prod.snd x_1)))) == (0 : Int)))))))) (Int.toNat (Contact.B (Ty.ix Ty.contact (Prod.fst (Prod.snd x_1)) (Int.toNat (Prod.snd (Prod.snd (Prod.snd (Prod.snd (Prod.snd (Prod.snd (Prod.snd (Prod.snd x_1)))))))))))) (pushB (Ty.ix Ty.body (List.set (Prod.fst x_1) (Int.toNat (Contact.A (Ty.ix Ty.contact (Prod.fst (Prod.snd x_1)) (Int.toNat (Prod.snd (Prod.snd (Prod.snd (Prod.snd (Prod.snd (Prod.snd (Prod.snd (Prod.snd x_1)))))))))))) (pushB (Ty.ix Ty.body (Prod.fst x_1) (Int.toNat (Contact.A (Ty.ix Ty.contact (Prod.fst (Prod.snd x_1)) (Int.toNat (Prod.snd (Prod.snd (Prod.snd (Prod.snd (Prod.snd (Prod.snd (Prod.snd (Prod.snd x_1))))))))))))) (Vec.mk (W ((0 : Int) - Vec.X (pushV (Ty.ix Ty.body (Prod.fst x_1) (Int.toNat (Contact.A (Ty.ix Ty.contact (Prod.fst (Prod.snd x_1)) (Int.toNat (Prod.snd (Prod.snd (Prod.snd (Prod.snd (Prod.snd (Prod.snd (Prod.snd (Prod.snd x_1))))))))))))) (Ty.ix Ty.body (Prod.fst x_1) (Int.toNat (Contact.B (Ty.ix Ty.contact (Prod.fst (Prod.snd x_1)) (Int.toNat (Prod.snd (Prod.snd (Prod.snd (Prod.snd (Prod.snd (Prod.snd (Prod.snd (Prod.snd x_1))))))))))))) (Contact.Hit (Ty.ix Ty.contact (Prod.fst (Prod.snd x_1)) (Int.toNat (Prod.snd (Prod.snd (Prod.snd (Prod.snd (Prod.snd (Prod.snd (Prod.snd (Prod.snd x_1))))))))))) (Prod.fst (Prod.snd (Prod.snd (Prod.snd (Prod.snd x_1)))) == (0 : Int))))) (W ((0 : Int) - Vec.Y (pushV (Ty.ix Ty.body (Prod.fst x_1) (Int.toNat (Contact.A (Ty.ix Ty.contact (Prod.fst (Prod.snd x_1)) (Int.toNat (Prod.snd (Prod.snd (Prod.snd (Prod.snd (Prod.snd (Prod.snd (Prod.snd (Prod.snd x_1))))))))))))) (Ty.ix Ty.body (Prod.fst x_1) (Int.toNat (Contact.B (Ty.ix Ty.contact (Prod.fst (Prod.snd x_1)) (Int.toNat (Prod.snd (Prod.snd (Prod.snd (Prod.snd (Prod.snd (Prod.snd (Prod.snd (Prod.snd x_1))))))))))))) (Contact.Hit (Ty.ix Ty.contact (Prod.fst (Prod.snd x_1)) (Int.toNat (Prod.snd (Prod.snd (Prod.snd (Prod.snd (Prod.snd (Prod.snd (Prod.snd (Prod.snd x_1))))))))))) (Prod.fst (Prod.snd (Prod.snd (Prod.snd (Prod.snd x_1)))) == (0 : Int)))))))) (Int.toNat (Contact.B (Ty.ix Ty.contact (Prod.fst (Prod.snd x_1)) (Int.toNat (Prod.snd (Prod.snd (Prod.snd (Prod.snd (Prod.snd (Prod.snd (Prod.snd (Prod.snd x_1))))))))))))) (pushV (Ty.ix Ty.body (Prod.fst x_1) (Int.toNat (Contact.A (Ty.ix Ty.contact (Prod.fst (Prod.snd x_1)) (Int.toNat (Prod.snd (Prod.snd (Prod.snd (Prod.snd (Prod.snd (Prod.snd (Prod.snd (Prod.snd x_1))))))))))))) (Ty.ix Ty.body (Prod.fst x_1) (Int.toNat (Contact.B (Ty.ix Ty.contact (Prod.fst (Prod.snd x_1)) (Int.toNat (Prod.snd (Prod.snd (Prod.snd (Prod.snd (Prod.snd (Prod.snd (Prod.snd (Prod.snd x_1))))))))))))) (Contact.Hit (Ty.ix Ty.contact (Prod.fst (Prod.snd x_1)) (Int.toNat (Prod.snd (Prod.snd (Prod.snd (Prod.snd (Prod.snd (Prod.snd (Prod.snd (Prod.snd x_1))))))))))) (Prod.fst (Prod.snd (Prod.snd (Prod.snd (Prod.snd x_1)))) == (0 : Int))))) ∧ pushRound (List.set (List.set (Prod.fst x_1) (Int.toNat (Contact.A (Ty.ix Ty.contact (Prod.fst (Prod.snd x_1)) (Int.toNat (Prod.snd (Prod.snd (Prod.snd (Prod.snd (Prod.snd (Prod.snd (Prod.snd (Prod.snd x_1)))))))))))) (pushB (Ty.ix Ty.body (Prod.fst x_1) (Int.toNat (Contact.A (Ty.ix Ty.contact (Prod.fst (Prod.snd x_1)) (Int.toNat (Prod.snd (Prod.snd (Prod.snd (Prod.snd (Prod.snd (Prod.snd (Prod.snd (Prod.snd x_1))))))))))))) (Vec.mk (W ((0 : Int) - Vec.X (pushV (Ty.ix Ty.body (Prod.fst x_1) (Int.toNat (Contact.A (Ty.ix Ty.contact (Prod.fst (Prod.snd x_1)) (Int.toNat (Prod.snd (Prod.snd (Prod.snd (Prod.snd (Prod.snd (Prod.snd (Prod.snd (Prod.snd x_1))))))))))))) (Ty.ix Ty.body (Prod.fst x_1) (Int.toNat (Contact.B (Ty.ix Ty.contact (Prod.fst (Prod.snd x_1)) (Int.toNat (Prod.snd (Prod.snd (Prod.snd (Prod.snd (Prod.snd (Prod.snd (Prod.snd (Prod.snd x_1))))))))))))) (Contact.Hit (Ty.ix Ty.contact (Prod.fst (Prod.snd x_1)) (Int.toNat (Prod.snd (Prod.snd (Prod.snd (Prod.snd (Prod.snd (Prod.snd (Prod.snd (Prod.snd x_1))))))))))) (Prod.fst (Prod.snd (Prod.snd (Prod.snd (Prod.snd x_1)))) == (0 : Int))))) (W ((0 : Int) - Vec.Y (pushV (Ty.ix Ty.body (Prod.fst x_1) (Int.toNat (Contact.A (Ty.ix Ty.contact (Prod.fst (Prod.snd x_1)) (Int.toNat (Prod.snd (Prod.snd (Prod.snd (Prod.snd (Prod.snd (Prod.snd (Prod.snd (Prod.snd x_1))))))))))))) (Ty.ix Ty.body (Prod.fst x_1) (Int.toNat (Contact.B (Ty.ix Ty.contact (Prod.fst (Prod.snd x_1)) (Int.toNat (Prod.snd (Prod.snd (Prod.snd (Prod.snd (Prod.snd (Prod.snd (Prod.snd (Prod.snd x_1))))))))))))) (Contact.Hit (Ty.ix Ty.contact (Prod.fst (Prod.snd x_1)) (Int.toNat (Prod.snd (Prod.snd (Prod.snd (Prod.snd (Prod.snd (Prod.snd (Prod.snd (Prod.snd x_1))))))))))) (Prod.fst (Prod.snd (Prod.snd (Prod.snd (Prod.snd x_1)))) == (0 : Int)))))))) (Int.toNat (Contact.B (Ty.ix Ty.contact (Prod.fst (Prod.snd x_1)) (Int.toNat (Prod.snd (Prod.snd (Prod.snd (Prod.snd (Prod.snd (Prod.snd (Prod.snd (Prod.snd x_1)))))))))))) (pushB (Ty.ix Ty.body (List.set (Prod.fst x_1) (Int.toNat (Contact.A (Ty.ix Ty.contact (Prod.fst (Prod.snd x_1)) (Int.toNat (Prod.snd (Prod.snd (Prod.snd (Prod.snd (Prod.snd (Prod.snd (Prod.snd (Prod.snd x_1)))))))))))) (pushB (Ty.ix Ty.body (Prod.fst x_1) (Int.toNat (Contact.A (Ty.ix Ty.contact (Prod.fst (Prod.snd x_1)) (Int.toNat (Prod.snd (Prod.snd (Prod.snd (Prod.snd (Prod.snd (Prod.snd (Prod.snd (Prod.snd x_1))))))))))))) (Vec.mk (W ((0 : Int) - Vec.X (pushV (Ty.ix Ty.body (Prod.fst x_1) (Int.toNat (Contact.A (Ty.ix Ty.contact (Prod.fst (Prod.snd x_1)) (Int.toNat (Prod.snd (Prod.snd (Prod.snd (Prod.snd (Prod.snd (Prod.snd (Prod.snd (Prod.snd x_1))))))))))))) (Ty.ix Ty.body (Prod.fst x_1) (Int.toNat (Contact.B (Ty.ix Ty.contact (Prod.fst (Prod.snd x_1)) (Int.toNat (Prod.snd (Prod.snd (Prod.snd (Prod.snd (Prod.snd (Prod.snd (Prod.snd (Prod.snd x_1))))))))))))) (Contact.Hit (Ty.ix Ty.contact (Prod.fst (Prod.snd x_1)) (Int.toNat (Prod.snd (Prod.snd (Prod.snd (Prod.snd (Prod.snd (Prod.snd (Prod.snd (Prod.snd x_1))))))))))) (Prod.fst (Prod.snd (Prod.snd (Prod.snd (Prod.snd x_1)))) == (0 : Int))))) (W ((0 : Int) - Vec.Y (pushV (Ty.ix Ty.body (Prod.fst x_1) (Int.toNat (Contact.A (Ty.ix Ty.contact (Prod.fst (Prod.snd x_1)) (Int.toNat (Prod.snd (Prod.snd (Prod.snd (Prod.snd (Prod.snd (Prod.snd (Prod.snd (Prod.snd x_1))))))))))))) (Ty.ix Ty.body (Prod.fst x_1) (Int.toNat (Contact.B (Ty.ix Ty.contact (Prod.fst (Prod.snd x_1)) (Int.toNat (Prod.snd (Prod.snd (Prod.snd (Prod.snd (Prod.snd (Prod.snd (Prod.snd (Prod.snd x_1))))))))))))) (Contact.Hit (Ty.ix Ty.contact (Prod.fst (Prod.snd x_1)) (Int.toNat (Prod.snd (Prod.snd (Prod.snd (Prod.snd (Prod.snd (Prod.snd (Prod.snd (Prod.snd x_1))))))))))) (Prod.fst (Prod.snd (Prod.snd (Prod.snd (Prod.snd x_1)))) == (0 : Int)))))))) (Int.toNat (Contact.B (Ty.ix Ty.contact (Prod.fst (Prod.snd x_1)) (Int.toNat (Prod.snd (Prod.snd (Prod.snd (Prod.snd (Prod.snd (Prod.snd (Prod.snd (Prod.snd x_1))))))))))))) (pushV (Ty.ix Ty.body (Prod.fst x_1) (Int.toNat (Contact.A (Ty.ix Ty.contact (Prod.fst (Prod.snd x_1)) (Int.toNat (Prod.snd (Prod.snd (Prod.snd (Prod.snd (Prod.snd (Prod.snd (Prod.snd (Prod.snd x_1))))))))))))) (Ty.ix Ty.body (Prod.fst x_1) (Int.toNat (Contact.B (Ty.ix Ty.contact (Prod.fst (Prod.snd x_1)) (Int.toNat (Prod.snd (Prod.snd (Prod.snd (Prod.snd (Prod.snd (Prod.snd (Prod.snd (Prod.snd x_1))))))))))))) (Contact.Hit (Ty.ix Ty.contact (Prod.fst (Prod.snd x_1)) (Int.toNat (Prod.snd (Prod.snd (Prod.snd (Prod.snd (Prod.snd (Prod.snd (Prod.snd (Prod.snd x_1))))))))))) (Prod.fst (Prod.snd (Prod.snd (Prod.snd (Prod.snd x_1)))) == (0 : Int))))) (Prod.snd (Prod.snd (Prod.snd (Prod.snd x))) == (0 : Int)) (List.drop (Int.toNat (IntKind.wrap IntKind.i64 (Prod.snd (Prod.snd (Prod.snd (Prod.snd (Prod.snd (Prod.snd (Prod.snd (Prod.snd x_1))))))) + (1 : Int)))) (Prod.fst (Prod.snd x))) = pushRound (Prod.fst x) (Prod.snd (Prod.snd (Prod.snd (Prod.snd x))) == (0 : Int)) (List.drop (Int.toNat (0 : Int)) (Prod.fst (Prod.snd x)))) ∧ Int.toNat ((↑(List.length (Prod.fst (Prod.snd x_1))) : Int) - IntKind.wrap IntKind.i64 (Prod.snd (Prod.snd (Prod.snd (Prod.snd (Prod.snd (Prod.snd (Prod.snd (Prod.snd x_1))))))) + (1 : Int))) < Int.toNat ((↑(List.length (Prod.fst (Prod.snd x_1))) : Int) - Prod.snd (Prod.snd (Prod.snd (Prod.snd (Prod.snd (Prod.snd (Prod.snd (Prod.snd x_1)))))))))))) (Holds (Prod.fst (Prod.snd x_1) = cs ∧ (0 : Int) ≤ IntKind.wrap IntKind.i64 (Prod.fst (Prod.snd (Prod.snd (Prod.snd (Prod.snd (Prod.snd x_1))))) + (1 : Int)) ∧ IntKind.wrap IntKind.i64 (Prod.fst (Prod.snd (Prod.snd (Prod.snd (Prod.snd (Prod.snd x_1))))) + (1 : Int)) ≤ (4 : Int) ∧ Kin xs (Prod.fst x_1) ∧ pushRest cs (Int.toNat ((4 : Int) - IntKind.wrap IntKind.i64 (Prod.fst (Prod.snd (Prod.snd (Prod.snd (Prod.snd (Prod.snd x_1))))) + (1 : Int)))) (Prod.fst x_1) = pushAllF xs cs) ∧ Int.toNat ((4 : Int) - IntKind.wrap IntKind.i64 (Prod.fst (Prod.snd (Prod.snd (Prod.snd (Prod.snd (Prod.snd x_1))))) + (1 : Int))) < Int.toNat ((4 : Int) - Prod.snd (Prod.snd (Prod.snd (Prod.snd x)))))) (Q (SV.tup []) [(true, Blk.vec Ty.body (Prod.fst x)), (false, Blk.vec Ty.contact (Prod.fst (Prod.snd x)))])) := by kernel_rfl

theorem ok_implAll : FsOk Try.prog 78 fs_implAll := fsOk_of tt_ok (tabFs_cons ok_implPushOfIn (tabFs_cons ok_implOpposite (tabFs_cons ok_implBears (tabFs_cons ok_implPushB tabFs_nil)))) mixed Try.func78 (by kernel_rfl) (by kernel_rfl) (by
    intro args LL p r HH h hp
    unfold fs_implAll at h
    dsimp only at h
    split at h
    case h_2 => cases h
    rename_i xs cs
    simp only [Option.some.injEq, Prod.mk.injEq] at h
    obtain ⟨rfl, rfl, rfl⟩ := h
    refine ⟨by simp [Form, stays], (L_implAll xs), ?_⟩
    rw [vc_implAll]
    try dsimp only
    obtain ⟨hA, hl, hc⟩ := hp _ rfl
    have hc0 := hc.1
    refine ⟨⟨(by trivial), by omega, by omega, .refl _, pushRest_all _ _⟩, ?_⟩
    rintro ⟨ys, cs', u, v, j⟩ ⟨h⟩
    dsimp only at h ⊢
    obtain ⟨rfl, j0, j1, hk, h2⟩ := h
    refine ifB_of (fun c1 => ?_) (fun c1 => ?_)
    · have c1 := of_decide_eq_true c1
      rw [pushRest_at j0 c1] at h2
      refine ⟨⟨(by trivial), (by trivial), (by trivial), (by trivial), by omega, by omega, hk, (by trivial)⟩, ?_⟩
      rintro ⟨zs, cs'', u', v', z, j', w, n, k⟩ ⟨h⟩
      dsimp only at h ⊢
      obtain ⟨rfl, rfl, rfl, rfl, k0, k1, hk2, h3⟩ := h
      refine ifB_of (fun c2 => ?_) (fun c2 => ?_)
      · have c2 := of_decide_eq_true c2
        have hik : k.toNat < cs''.length := by omega
        rw [pushRound_drop hik] at h3
        have e2 : (k + 1).toNat = k.toNat + 1 := by omega
        have w : IntKind.i64.wrap (k + 1) = k + 1 := wrap_small (by omega) (by omega)
        have hck := hc.2 _ hik
        have hlen := hk2.1
        have hkin := hk2.trans (kin_pushOne (z := j' == 0) (ct_ne hck))
        have hne := ct_ne hck
        have hA2 := allP_kin hk2 hA
        rw [w, e2]
        generalize Ty.contact.ix cs'' k.toNat = c at *
        obtain ⟨a0, a1, b0, b1, _⟩ := hck
        have fin : ∀ {us : List Body}, pushOne zs c (j' == 0) = us → (Holds (cs'' = cs'' ∧ j' = j' ∧ j' = j' ∧ (cs''.length : Int) = cs''.length ∧ 0 ≤ k + 1 ∧ k + 1 ≤ (cs''.length : Int) ∧ Kin xs us ∧ pushRound us (j' == 0) (cs''.drop (k.toNat + 1)) = pushRound ys (j' == 0) (cs''.drop (Int.toNat 0))) ∧ ((cs''.length : Int) - (k + 1)).toNat < ((cs''.length : Int) - k).toNat) := by
          rintro us rfl
          exact ⟨⟨rfl, rfl, rfl, rfl, by omega, by omega, hkin, h3⟩, by omega⟩
        clear h3 hkin
        refine ⟨⟨k0, c2⟩, ⟨a0, by omega⟩, ⟨b0, by omega⟩, ⟨hA2 _ (by omega), hA2 _ (by omega)⟩, ?_⟩
        unfold pushOne at fin
        dsimp only at fin
        generalize pushV (Ty.body.ix zs c.A.toNat) (Ty.body.ix zs c.B.toNat) c.Hit (j' == 0) = p at *
        refine ifB_of (fun c3 => ?_) (fun c3 => ifB_of (fun c4 => ?_) (fun c4 => ifB_of (fun c5 => ?_) (fun c5 => ⟨by omega, by rw [List.length_set]; omega, ?_⟩)))
        · have c3 : zeroV2 p = true := c3
          exact fin (by rw [c3]; rfl)
        · have c4 : bearsF (Ty.body.ix zs c.A.toNat) (oppV p) = false := not_true c4
          exact fin (by rw [c4, Bool.and_false]; rfl)
        · have c5 : bearsF (Ty.body.ix zs c.B.toNat) p = false := not_true c5
          exact fin (by rw [c5, Bool.and_false]; rfl)
        · have c3 : zeroV2 p = false := c3
          have c4 : bearsF (Ty.body.ix zs c.A.toNat) (oppV p) = true := not_false c4
          have c5 : bearsF (Ty.body.ix zs c.B.toNat) p = true := not_false c5
          rw [ix_set_ne (T := .body) hne]
          exact fin (by rw [c3, c4, c5]; rfl)
      · have c2 := of_decide_eq_false c2
        have w : IntKind.i64.wrap (j' + 1) = j' + 1 := wrap_small (by omega) (by omega)
        rw [drop_end (by omega)] at h3
        have h3 : zs = pushRound ys (j' == 0) cs'' := h3
        rw [w]
        refine ⟨⟨(by trivial), by omega, by omega, hk2, by rw [h3]; exact h2⟩, by omega⟩
    · have c1 := of_decide_eq_false c1
      have e : (4 - j).toNat = 0 := by omega
      rw [e] at h2
      have h2 : ys = _ := h2
      rw [h2]
      exact ⟨rfl, rfl⟩)

end Go.Proofs.Ythkdelepjndacaa.Sym
