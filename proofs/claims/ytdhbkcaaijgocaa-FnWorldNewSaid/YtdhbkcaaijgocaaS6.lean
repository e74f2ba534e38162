/-
  The law of a new world.
  No condition.
-/
import Derived.Test.YtdhbkcaaijgocaaS5
import Derived.Test.YtdhbkcaaijgocaaD1
namespace Go.Proofs.Ytdhbkcaaijgocaa.Sym
open Go
set_option linter.unusedVariables false
set_option linter.unusedSimpArgs false
set_option maxRecDepth 100000

noncomputable def g_DrawWorldNew (b : List Int) : Int := someAns tt (look [(10, fs_l1Open), (11, fs_rdOne)]) Try.f4 [.vec 0] [(false, .vec .byte b)] (fun x : Int => (.int .i64 (x) : SV)) (fun x : Int => ([(false, .vec .byte b)] : List Ent))
noncomputable def fs_DrawWorldNew : Fs := ⟨[], fun args H => match args, H with
  | [.vec 0], [(false, .vec .byte b)] => some ((some (BytesOk b)), .int .i64 ((g_DrawWorldNew b)), [(false, .vec .byte b)])
  | _, _ => none⟩

theorem vc_DrawWorldNew (b : List Int) (Q : SV → List Ent → Prop) :
    fnVC tt (look [(10, fs_l1Open), (11, fs_rdOne)]) L0 Try.f4 [.vec 0] [(false, .vec .byte b)] Q =
    (((0 : Int) ≤ (0 : Int) ∧ (0 : Int) + (1 : Int) ≤ (1000000000000 : Int) ∧ BytesOk (List.take (min (List.length b) (2000 : Nat)) (List.drop (0 : Nat) b)) ∧ (1 : Nat) ≤ List.length [(0 : Int), (32 : Int), (2560 : Int), (2561 : Int), (-1 : Int)]) ∧ Q (SV.int IntKind.i64 (Ty.ix Ty.int [(0 : Int), (32 : Int), (2560 : Int), (2561 : Int), (-1 : Int)] (Int.toNat (g_rdPick (List.take (min (List.length b) (2000 : Nat)) (List.drop (0 : Nat) b)) (0 : Int) (↑(List.length [(0 : Int), (32 : Int), (2560 : Int), (2561 : Int), (-1 : Int)]) : Int) % (↑(List.length [(0 : Int), (32 : Int), (2560 : Int), (2561 : Int), (-1 : Int)]) : Int))))) [(false, Blk.vec Ty.byte b)]) := by kernel_rfl

theorem ok_DrawWorldNew : FsOk Try.prog 4 fs_DrawWorldNew := fsOk_of tt_ok (tabFs_cons ok_l1Open (tabFs_cons ok_rdOne tabFs_nil)) mixed Try.func4 (by kernel_rfl) (by kernel_rfl) (by
    intro args LL p0 r HH h hp
    unfold fs_DrawWorldNew at h
    dsimp only at h
    split at h
    case h_2 => cases h
    rename_i b
    simp only [Option.some.injEq, Prod.mk.injEq] at h
    obtain ⟨rfl, rfl, rfl⟩ := h
    refine ⟨by simp [Form, stays], L0, ?_⟩
    have hby := hp _ rfl
    refine someAns_ok (R := (fun x : Int => (.int .i64 (x) : SV))) (HH := (fun x : Int => ([(false, .vec .byte b)] : List Ent))) (by kernel_rfl) ?_
    have fin : ∀ (z : Int), ∃ x : Int, ((.int .i64 (z) : SV) : SV) = (fun x : Int => (.int .i64 (x) : SV)) x ∧ (([(false, .vec .byte b)] : List Ent) : List Ent) = (fun x : Int => ([(false, .vec .byte b)] : List Ent)) x := fun z => ⟨z, rfl, rfl⟩
    rw [vc_DrawWorldNew]
    try dsimp only
    try dsimp only at fin
    repeat' (first | refine ifB_of (fun _ => ?_) (fun _ => ?_) | refine pre_of ?_ (fun _ => ?_))
    all_goals first
      | exact fin _
      | omega
      | exact hby
      | exact hby.part _ _
      | exact Nat.le_add_left _ _
      | exact ⟨by omega, by omega, hby.part _ _⟩
      | exact ⟨by omega, by omega, hby.part _ _, by omega⟩
      | exact ⟨by omega, by omega, hby.part _ _, Nat.le_add_left _ _⟩)

noncomputable def fs_lawsPqWorld : Fs := ⟨[], fun args H => match args, H with
  | [.agg [.int .i64 t, .int .i64 p, .vec 0, .vec 1], .agg [.int .i64 t', .int .i64 p', .vec 2, .vec 3]], [(false, .vec .body xs), (false, .vec .pair ps), (false, .vec .body ys), (false, .vec .pair qs)] => some ((some (xs.length ≤ 4611686018427387904 ∧ ps.length ≤ 4611686018427387904)), .bool (eqW4 t p xs ps t' p' ys qs), [(false, .vec .body xs), (false, .vec .pair ps), (false, .vec .body ys), (false, .vec .pair qs)])
  | _, _ => none⟩

theorem vc_lawsPqWorld (t : Int) (p : Int) (t' : Int) (p' : Int) (xs : List Body) (ps : List Pair) (ys : List Body) (qs : List Pair) (Q : SV → List Ent → Prop) :
    fnVC tt (look [(17, fs_lawsPqBodies), (18, fs_lawsPqPairs)]) L0 Try.f7 [.agg [.int .i64 t, .int .i64 p, .vec 0, .vec 1], .agg [.int .i64 t', .int .i64 p', .vec 2, .vec 3]] [(false, .vec .body xs), (false, .vec .pair ps), (false, .vec .body ys), (false, .vec .pair qs)] Q =
    (ifB (t == t') (ifB (p == p') (List.length xs ≤ (4611686018427387904 : Nat) ∧ ifB (same xs ys) (List.length ps ≤ (4611686018427387904 : Nat) ∧ Q (SV.bool (same ps qs)) [(false, Blk.vec Ty.body xs), (false, Blk.vec Ty.pair ps), (false, Blk.vec Ty.body ys), (false, Blk.vec Ty.pair qs)]) (Q (SV.bool false) [(false, Blk.vec Ty.body xs), (false, Blk.vec Ty.pair ps), (false, Blk.vec Ty.body ys), (false, Blk.vec Ty.pair qs)])) (Q (SV.bool false) [(false, Blk.vec Ty.body xs), (false, Blk.vec Ty.pair ps), (false, Blk.vec Ty.body ys), (false, Blk.vec Ty.pair qs)])) (Q (SV.bool false) [(false, Blk.vec Ty.body xs), (false, Blk.vec Ty.pair ps), (false, Blk.vec Ty.body ys), (false, Blk.vec Ty.pair qs)])) := by kernel_rfl

theorem ok_lawsPqWorld : FsOk Try.prog 7 fs_lawsPqWorld := fsOk_of tt_ok (tabFs_cons ok_lawsPqBodies (tabFs_cons ok_lawsPqPairs tabFs_nil)) mixed Try.func7 (by kernel_rfl) (by kernel_rfl) (by
    intro args LL p r HH h hp
    unfold fs_lawsPqWorld at h
    dsimp only at h
    split at h
    case h_2 => cases h
    rename_i t p t' p' xs ps ys qs
    simp only [Option.some.injEq, Prod.mk.injEq] at h
    obtain ⟨rfl, rfl, rfl⟩ := h
    refine ⟨by simp [Form, stays], L0, ?_⟩
    rw [vc_lawsPqWorld]
    try dsimp only
    obtain ⟨hb, hb2⟩ := hp _ rfl
    refine ifB_of (fun c => ifB_of (fun c2 => ⟨hb, ifB_of (fun c3 => ⟨hb2, ?_⟩) (fun c3 => ?_)⟩) (fun c2 => ?_)) (fun c => ?_)
    · simp [eqW4, c, c2, c3]
    · simp [eqW4, c, c2, c3]
    · simp [eqW4, c, c2]
    · simp [eqW4, c])

noncomputable def fs_lawWorldNew : Fs := ⟨[], fun args H => match args, H with
  | [.vec 0], [(false, .vec .byte b)] => some ((some (LOk .byte b)), .bool (true), [(false, .vec .byte b)])
  | _, _ => none⟩

theorem vc_lawWorldNew (b : List Int) (Q : SV → List Ent → Prop) :
    fnVC tt (look [(4, fs_DrawWorldNew), (5, fs_implWorldNew), (6, fs_implWorldStep), (8, fs_specWorldNew), (7, fs_lawsPqWorld), (9, fs_implWorldOk)]) L0 Try.f3 [.vec 0] [(false, .vec .byte b)] Q =
    (ifB (decide ((↑(List.length b) : Int) > (1048576 : Int))) (Q (SV.bool true) [(false, Blk.vec Ty.byte b)]) (BytesOk b ∧ ((0 : Nat) ≤ (1048576 : Nat) ∧ (0 : Nat) ≤ (1048576 : Nat)) ∧ ((0 : Nat) ≤ (4611686018427387904 : Nat) ∧ (0 : Nat) ≤ (4611686018427387904 : Nat)) ∧ ifB (eqW4 (0 : Int) (pullOf (g_DrawWorldNew b)) [] [] (0 : Int) (pullOf (g_DrawWorldNew b)) [] []) (((0 : Nat) ≤ (1048576 : Nat) ∧ (0 : Nat) ≤ (1048576 : Nat)) ∧ ifB (worldOk (0 : Int) (pullOf (g_DrawWorldNew b)) [] []) (ifB (stepTick (worldOk (0 : Int) (pullOf (g_DrawWorldNew b)) [] []) (0 : Int) == (1 : Int)) (ifB ((↑(List.length (stepBodies (worldOk (0 : Int) (pullOf (g_DrawWorldNew b)) [] []) (0 : Int) (pullOf (g_DrawWorldNew b)) [])) : Int) == (0 : Int)) (ifB ((↑(List.length (stepEs (worldOk (0 : Int) (pullOf (g_DrawWorldNew b)) [] []) (0 : Int) (pullOf (g_DrawWorldNew b)) [] [])) : Int) == (0 : Int)) (ifB (decide (g_DrawWorldNew b < (0 : Int))) (Q (SV.bool true) [(false, Blk.vec Ty.byte b)]) (ifB (decide (g_DrawWorldNew b > (2560 : Int))) (Q (SV.bool true) [(false, Blk.vec Ty.byte b)]) (Q (SV.bool (pullOf (g_DrawWorldNew b) == g_DrawWorldNew b)) [(false, Blk.vec Ty.byte b)]))) (Q (SV.bool false) [(false, Blk.vec Ty.byte b)])) (Q (SV.bool false) [(false, Blk.vec Ty.byte b)])) (Q (SV.bool false) [(false, Blk.vec Ty.byte b)])) (Q (SV.bool false) [(false, Blk.vec Ty.byte b)])) (Q (SV.bool false) [(false, Blk.vec Ty.byte b)]))) := by kernel_rfl

theorem ok_lawWorldNew : FsOk Try.prog 3 fs_lawWorldNew := fsOk_of tt_ok (tabFs_cons ok_DrawWorldNew (tabFs_cons ok_implWorldNew (tabFs_cons ok_implWorldStep (tabFs_cons ok_specWorldNew (tabFs_cons ok_lawsPqWorld (tabFs_cons ok_implWorldOk tabFs_nil)))))) mixed Try.func3 (by kernel_rfl) (by kernel_rfl) (by
    intro args LL p r HH h hp
    unfold fs_lawWorldNew at h
    dsimp only at h
    split at h
    case h_2 => cases h
    rename_i b
    simp only [Option.some.injEq, Prod.mk.injEq] at h
    obtain ⟨rfl, rfl, rfl⟩ := h
    refine ⟨by simp [Form, stays], L0, ?_⟩
    rw [vc_lawWorldNew]
    try dsimp only
    have hb := bytesOk_of (hp _ rfl)
    refine ifB_of (fun c => ⟨rfl, rfl⟩) (fun c => ⟨hb, by omega, by omega, ?_⟩)
    generalize g_DrawWorldNew b = p
    have hw : worldOk 0 (pullOf p) [] [] = true := by
      unfold worldOk pullOf
      have h1 : bodiesOk [] = true := rfl
      cases q : isIn p 0 2560 with
      | true =>
        simp [h1, allTo, isIn]
        simpa [isIn] using q
      | false => simp [h1, allTo, isIn]
    rw [eqW4_self, hw]
    have e1 : stepBodies true 0 (pullOf p) [] = [] := by
      have : (stepOf [] (pullOf p)).length = 0 := by
        unfold stepOf
        cases bodiesOk [] && isIn (pullOf p) 0 2560
        · rfl
        · simp only [cond_true, stepF, length_settleF, length_mapX, length_apartF, length_pushAllF, List.length_nil]
      exact List.length_eq_zero_iff.1 this
    have e2 : stepOf [] (pullOf p) = [] := e1
    have e3 : stepPairs [] = [] := by simp [stepPairs, contactsOf, contactsF, conAll, pairsC]
    have e4 : stepEs true 0 (pullOf p) [] [] = [] := by
      show stepEvs [] (stepPairs (stepOf [] (pullOf p))) = []
      rw [e2, e3]
      rfl
    have e5 : (stepTick true 0 == 1) = true := rfl
    rw [e1, e4, e5]
    refine ⟨by omega, ?_⟩
    refine ifB_of (fun _ => ?_) (fun z => nomatch z)
    refine ifB_of (fun _ => ?_) (fun z => nomatch z)
    refine ifB_of (fun _ => ?_) (fun z => absurd z (by simp))
    refine ifB_of (fun _ => ?_) (fun z => absurd z (by simp))
    refine ifB_of (fun d => ⟨rfl, rfl⟩) (fun d => ifB_of (fun d2 => ⟨rfl, rfl⟩) (fun d2 => ?_))
    have d := of_decide_eq_false d
    have d2 := of_decide_eq_false d2
    have q : pullOf p = p := by
      have q0 : isIn p 0 2560 = true := by
        simp only [isIn, Bool.and_eq_true, decide_eq_true_eq]
        omega
      unfold pullOf
      rw [q0]
      rfl
    rw [q, beq_self_eq_true]
    exact ⟨rfl, rfl⟩)

end Go.Proofs.Ytdhbkcaaijgocaa.Sym
