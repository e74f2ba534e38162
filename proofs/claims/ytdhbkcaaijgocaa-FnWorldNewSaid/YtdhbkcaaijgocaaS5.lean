/-
  A world's step, as the program does it.
  No condition.
-/
import Derived.Test.YtdhbkcaaijgocaaS4
import Derived.Test.YtdhbkcaaijgocaaT3
import Derived.Test.YtdhbkcaaijgocaaW1
namespace Go.Proofs.Ytdhbkcaaijgocaa.Sym
open Go
set_option linter.unusedVariables false
set_option linter.unusedSimpArgs false
set_option maxRecDepth 100000
noncomputable section

def evs (b : Bool) (ps : List Pair) : List Event := ps.map fun q => ⟨b, q⟩
theorem evs_drop {b : Bool} {ps : List Pair} {i : Nat} (h : i < ps.length) : evs b (ps.drop i) = ⟨b, Ty.ix .pair ps i⟩ :: evs b (ps.drop (i + 1)) := by
  rw [drop_ix (T := .pair) h]
  rfl
theorem length_evs (b : Bool) (ps : List Pair) : (evs b ps).length = ps.length := by simp [evs]
def stepEvs (was now : List Pair) : List Event := evs false (newF now was) ++ evs true (newF was now)
def stepTick (ok : Bool) (t : Int) : Int := bif ok then bif t == 100000 then t else W (t + 1) else 0
def stepBodies (ok : Bool) (t p : Int) (xs : List Body) : List Body := bif ok then bif t == 100000 then xs else stepOf xs p else []
def stepPs (ok : Bool) (t p : Int) (xs : List Body) (ps : List Pair) : List Pair := bif ok then bif t == 100000 then ps else stepPairs (stepOf xs p) else []
def stepEs (ok : Bool) (t p : Int) (xs : List Body) (ps : List Pair) : List Event := bif ok then bif t == 100000 then [] else stepEvs ps (stepPairs (stepOf xs p)) else []
theorem length_stepOf (xs : List Body) (pull : Int) : (stepOf xs pull).length ≤ 12 := by
  unfold stepOf
  cases q : bodiesOk xs && isIn pull 0 2560 with
  | true =>
    rw [Bool.and_eq_true] at q
    have := bodiesOk_len q.1
    simp only [cond_true, stepF, length_settleF, length_mapX, length_apartF, length_pushAllF]
    exact this
  | false => simp
def LSws1  : LS where
  S := List Body × List Pair × (Int × Int) × (Int × Int) × (Int × Int × List Body × List Pair) × List Event × List Pair × Int × Int
  live := [(1, [none]), (2, [none]), (4, [none]), (5, [some .event]), (38, [some .pair]), (39, [none]), (40, [none])]
  shape := fun s => ([.ptr 2 0 0, .ptr 3 0 0, .ptr 6 0 0, .vec 7, .vec 8, .int .i64 s.2.2.2.2.2.2.2.1, .int .i64 s.2.2.2.2.2.2.2.2], [(false, .vec .body s.1), (false, .vec .pair s.2.1), (true, .box [.int .i64 s.2.2.1.1, .int .i64 s.2.2.1.2, .vec 0, .vec 1]), (true, .box [.int .i64 s.2.2.2.1.1, .int .i64 s.2.2.2.1.2, .nilsl, .nilsl]), (true, .vec .body s.2.2.2.2.1.2.2.1), (true, .vec .pair s.2.2.2.2.1.2.2.2), (true, .box [.int .i64 s.2.2.2.2.1.1, .int .i64 s.2.2.2.2.1.2.1, .vec 4, .vec 5]), (true, .vec .event s.2.2.2.2.2.1), (true, .vec .pair s.2.2.2.2.2.2.1)])
  get := fun v h => match v, h with
    | [.ptr 2 0 0, .ptr 3 0 0, .ptr 6 0 0, .vec 7, .vec 8, .int .i64 n, .int .i64 i], [(false, .vec .body xs), (false, .vec .pair ps), (true, .box [.int .i64 w_0, .int .i64 w_1, .vec 0, .vec 1]), (true, .box [.int .i64 r_0, .int .i64 r_1, .nilsl, .nilsl]), (true, .vec .body v_2), (true, .vec .pair v_3), (true, .box [.int .i64 v_0, .int .i64 v_1, .vec 4, .vec 5]), (true, .vec .event out), (true, .vec .pair os)] => some (xs, ps, (w_0, w_1), (r_0, r_1), (v_0, v_1, v_2, v_3), out, os, n, i)
    | _, _ => none
  inv := fun s0 s => Holds (s.1 = s0.1 ∧ s.2.1 = s0.2.1 ∧ s.2.2.1 = s0.2.2.1 ∧ s.2.2.2.1 = s0.2.2.2.1 ∧ s.2.2.2.2.1 = s0.2.2.2.2.1 ∧ s.2.2.2.2.2.2.1 = s0.2.2.2.2.2.2.1 ∧ s.2.2.2.2.2.2.2.1 = s0.2.2.2.2.2.2.1.length ∧ 0 ≤ s.2.2.2.2.2.2.2.2 ∧ s.2.2.2.2.2.2.2.2 ≤ s0.2.2.2.2.2.2.1.length ∧ s.2.2.2.2.2.1 ++ evs false (s0.2.2.2.2.2.2.1.drop s.2.2.2.2.2.2.2.2.toNat) = evs false s0.2.2.2.2.2.2.1)
  mu := fun s => (s.2.2.2.2.2.2.2.1 - s.2.2.2.2.2.2.2.2).toNat
  ok := by
    intro v h s hg
    try dsimp only at hg
    split at hg <;> cases hg
    rfl

def LSws2  : LS where
  S := List Body × List Pair × (Int × Int) × (Int × Int × List Body × List Pair) × List Event × List Pair × Int × Int
  live := [(2, [none]), (4, [none]), (5, [some .event]), (54, [some .pair]), (55, [none]), (56, [none])]
  shape := fun s => ([.ptr 2 0 0, .ptr 5 0 0, .vec 6, .vec 7, .int .i64 s.2.2.2.2.2.2.1, .int .i64 s.2.2.2.2.2.2.2], [(false, .vec .body s.1), (false, .vec .pair s.2.1), (true, .box [.int .i64 s.2.2.1.1, .int .i64 s.2.2.1.2, .nilsl, .nilsl]), (true, .vec .body s.2.2.2.1.2.2.1), (true, .vec .pair s.2.2.2.1.2.2.2), (true, .box [.int .i64 s.2.2.2.1.1, .int .i64 s.2.2.2.1.2.1, .vec 3, .vec 4]), (true, .vec .event s.2.2.2.2.1), (true, .vec .pair s.2.2.2.2.2.1)])
  get := fun v h => match v, h with
    | [.ptr 2 0 0, .ptr 5 0 0, .vec 6, .vec 7, .int .i64 n, .int .i64 i], [(false, .vec .body xs), (false, .vec .pair ps), (true, .box [.int .i64 r_0, .int .i64 r_1, .nilsl, .nilsl]), (true, .vec .body v_2), (true, .vec .pair v_3), (true, .box [.int .i64 v_0, .int .i64 v_1, .vec 3, .vec 4]), (true, .vec .event out), (true, .vec .pair os)] => some (xs, ps, (r_0, r_1), (v_0, v_1, v_2, v_3), out, os, n, i)
    | _, _ => none
  inv := fun s0 s => Holds (s.1 = s0.1 ∧ s.2.1 = s0.2.1 ∧ s.2.2.1 = s0.2.2.1 ∧ s.2.2.2.1 = s0.2.2.2.1 ∧ s.2.2.2.2.2.1 = s0.2.2.2.2.2.1 ∧ s.2.2.2.2.2.2.1 = s0.2.2.2.2.2.1.length ∧ 0 ≤ s.2.2.2.2.2.2.2 ∧ s.2.2.2.2.2.2.2 ≤ s0.2.2.2.2.2.1.length ∧ s.2.2.2.2.1 ++ evs true (s0.2.2.2.2.2.1.drop s.2.2.2.2.2.2.2.toNat) = s0.2.2.2.2.1 ++ evs true (s0.2.2.2.2.2.1.drop s0.2.2.2.2.2.2.2.toNat))
  mu := fun s => (s.2.2.2.2.2.2.1 - s.2.2.2.2.2.2.2).toNat
  ok := by
    intro v h s hg
    try dsimp only at hg
    split at hg <;> cases hg
    rfl

def L_wstep : Loops := fun n => match n with
  | 9 => some LSws1
  | 14 => some LSws2
  | _ => none
noncomputable def fs_implWorldStep : Fs := ⟨[], fun args H => match args, H with
  | [.agg [.int .i64 t, .int .i64 p, .vec 0, .vec 1]], [(false, .vec .body xs), (false, .vec .pair ps)] => some ((some (xs.length ≤ 1048576 ∧ ps.length ≤ 1048576)), .tup [.agg [.int .i64 (stepTick (worldOk t p xs ps) t), .int .i64 (orI (worldOk t p xs ps) p), .vec 2, .vec 3], .vec 4], [(false, .vec .body xs), (false, .vec .pair ps), (true, .vec .body (stepBodies (worldOk t p xs ps) t p xs)), (true, .vec .pair (stepPs (worldOk t p xs ps) t p xs ps)), (true, .vec .event (stepEs (worldOk t p xs ps) t p xs ps))])
  | _, _ => none⟩

theorem vc_implWorldStep (t : Int) (p : Int) (xs : List Body) (ps : List Pair) (Q : SV → List Ent → Prop) :
    fnVC tt (look [(9, fs_implWorldOk), (13, fs_implCopyW), (14, fs_implStep), (15, fs_implStepPairs), (16, fs_others)]) (L_wstep) Try.f6 [.agg [.int .i64 t, .int .i64 p, .vec 0, .vec 1]] [(false, .vec .body xs), (false, .vec .pair ps)] Q =
    (let A2_ := (IntKind.wrap IntKind.i64 (t + (1 : Int)), p, stepOf xs p, stepPairs (stepOf xs p)); let A1_ := (newF (stepPairs (stepOf xs p)) ps); (List.length xs ≤ (1048576 : Nat) ∧ List.length ps ≤ (1048576 : Nat)) ∧ ifB (!worldOk t p xs ps) (Q (SV.tup [SV.agg [SV.int IntKind.i64 (0 : Int), SV.int IntKind.i64 (0 : Int), SV.vec (2 : Nat), SV.vec (3 : Nat)], SV.vec (4 : Nat)]) [(false, Blk.vec Ty.body xs), (false, Blk.vec Ty.pair ps), (true, Blk.vec Ty.body []), (true, Blk.vec Ty.pair []), (true, Blk.vec Ty.event [])]) (ifB (t == (100000 : Int)) ((List.length xs ≤ (1048576 : Nat) ∧ List.length ps ≤ (1048576 : Nat)) ∧ Q (SV.tup [SV.agg [SV.int IntKind.i64 t, SV.int IntKind.i64 p, SV.vec (2 : Nat), SV.vec (3 : Nat)], SV.vec (4 : Nat)]) [(false, Blk.vec Ty.body xs), (false, Blk.vec Ty.pair ps), (true, Blk.vec Ty.body xs), (true, Blk.vec Ty.pair ps), (true, Blk.vec Ty.event [])]) (List.length xs ≤ (1048576 : Nat) ∧ List.length (stepOf xs p) ≤ (1048576 : Nat) ∧ (List.length ps ≤ (1048576 : Nat) ∧ List.length (stepPairs (stepOf xs p)) ≤ (1048576 : Nat)) ∧ Holds (xs = xs ∧ ps = ps ∧ (t, p) = (t, p) ∧ ((0 : Int), (0 : Int)) = ((0 : Int), (0 : Int)) ∧ A2_ = A2_ ∧ newF (stepPairs (stepOf xs p)) ps = newF (stepPairs (stepOf xs p)) ps ∧ (↑(List.length A1_) : Int) = (↑(List.length A1_) : Int) ∧ (0 : Int) ≤ (0 : Int) ∧ (0 : Int) ≤ (↑(List.length A1_) : Int) ∧ [] ++ evs false (List.drop (Int.toNat (0 : Int)) A1_) = evs false A1_) ∧ ∀ (x : List Body × List Pair × (Int × Int) × (Int × Int) × (Int × Int × List Body × List Pair) × List Event × List Pair × Int × Int), Holds (Prod.fst x = xs ∧ Prod.fst (Prod.snd x) = ps ∧ Prod.fst (Prod.snd (Prod.snd x)) = (t, p) ∧ Prod.fst (Prod.snd (Prod.snd (Prod.snd x))) = ((0 : Int), (0 : Int)) ∧ Prod.fst (Prod.snd (Prod.snd (Prod.snd (Prod.snd x)))) = A2_ ∧ Prod.fst (Prod.snd (Prod.snd (Prod.snd (Prod.snd (Prod.snd (Prod.snd x)))))) = newF (stepPairs (stepOf xs p)) ps ∧ Prod.fst (Prod.snd (Prod.snd (Prod.snd (Prod.snd (Prod.snd (Prod.snd (Prod.snd x))))))) = (↑(List.length A1_) : Int) ∧ (0 : Int) ≤ Prod.snd (Prod.snd (Prod.snd (Prod.snd (Prod.snd (Prod.snd (Prod.snd (Prod.snd x))))))) ∧ Prod.snd (Prod.snd (Prod.snd (Prod.snd (Prod.snd (Prod.snd (Prod.snd (Prod.snd x))))))) ≤ (↑(List.length A1_) : Int) ∧ Prod.fst (Prod.snd (Prod.snd (Prod.snd (Prod.snd (Prod.snd x))))) ++ evs false (List.drop (Int.toNat (Prod.snd (Prod.snd (Prod.snd (Prod.snd (Prod.snd (Prod.snd (Prod.snd (Prod.snd x))))))))) A1_) = evs false A1_) → ifB (decide (Prod.snd (Prod.snd (Prod.snd (Prod.snd (Prod.snd (Prod.snd (Prod.snd (Prod.snd x))))))) < Prod.fst (Prod.snd (Prod.snd (Prod.snd (Prod.snd (Prod.snd (Prod.snd (Prod.snd x))))))))) (((0 : Int) ≤ Prod.snd (Prod.snd (Prod.snd (Prod.snd (Prod.snd (Prod.snd (Prod.snd (Prod.snd x))))))) ∧ Prod.snd (Prod.snd (Prod.snd (Prod.snd (Prod.snd (Prod.snd (Prod.snd (Prod.snd x))))))) < (↑(List.length (Prod.fst (Prod.snd (Prod.snd (Prod.snd (Prod.snd (Prod.snd (Prod.snd x)))))))) : Int)) ∧ (List.length (Prod.fst (Prod.snd (Prod.snd (Prod.snd (Prod.snd (Prod.snd x)))))) + List.length [Event.mk false (Ty.ix Ty.pair (Prod.fst (Prod.snd (Prod.snd (Prod.snd (Prod.snd (Prod.snd (Prod.snd x))))))) (Int.toNat (Prod.snd (Prod.snd (Prod.snd (Prod.snd (Prod.snd (Prod.snd (Prod.snd (Prod.snd x))))))))))]) * (24 : Nat) ≤ room ∧ Holds (Prod.fst x = xs ∧ Prod.fst (Prod.snd x) = ps ∧ Prod.fst (Prod.snd (Prod.snd x)) = (t, p) ∧ Prod.fst (Prod.snd (Prod.snd (Prod.snd x))) = ((0 : Int), (0 : Int)) ∧ Prod.fst (Prod.snd (Prod.snd (Prod.snd (Prod.snd x)))) = A2_ ∧ Prod.fst (Prod.snd (Prod.snd (Prod.snd (Prod.snd (Prod.snd (Prod.snd x)))))) = newF (stepPairs (stepOf xs p)) ps ∧ Prod.fst (Prod.snd (Prod.snd (Prod.snd (Prod.snd (Prod.snd (Prod.snd (Prod.snd x))))))) = (↑(List.length A1_) : Int) ∧ (0 : Int) ≤ IntKind.wrap IntKind.i64 (Prod.snd (Prod.snd (Prod.snd (Prod.snd (Prod.snd (Prod.snd (Prod.snd (Prod.snd x))))))) + (1 : Int)) ∧ IntKind.wrap IntKind.i64 (Prod.snd (Prod.snd (Prod.snd (Prod.snd (Prod.snd (Prod.snd (Prod.snd (Prod.snd x))))))) + (1 : Int)) ≤ (↑(List.length A1_) : Int) ∧ Prod.fst (Prod.snd (Prod.snd (Prod.snd (Prod.snd (Prod.snd x))))) ++ [Event.mk false (Ty.ix Ty.pair (Prod.fst (Prod.snd (Prod.snd (Prod.snd (Prod.snd (Prod.snd (Prod.snd x))))))) (Int.toNat (Prod.snd (Prod.snd (Prod.snd (Prod.snd (Prod.snd (Prod.snd (Prod.snd (Prod.snd x))))))))))] ++ evs false (List.drop (Int.toNat (IntKind.wrap IntKind.i64 (Prod.snd (Prod.snd (Prod.snd (Prod.snd (Prod.snd (Prod.snd (Prod.snd (Prod.snd x))))))) + (1 : Int)))) A1_) = evs false A1_) ∧ Int.toNat (Prod.fst (Prod.snd (Prod.snd (Prod.snd (Prod.snd (Prod.snd (Prod.snd (Prod.snd x))))))) - IntKind.wrap IntKind.i64 (Prod.snd (Prod.snd (Prod.snd (Prod.snd (Prod.snd (Prod.snd (Prod.snd (Prod.snd x))))))) + (1 : Int))) < Int.toNat (Prod.fst (Prod.snd (Prod.snd (Prod.snd (Prod.snd (Prod.snd (Prod.snd (Prod.snd x))))))) - Prod.snd (Prod.snd (Prod.snd (Prod.snd (Prod.snd (Prod.snd (Prod.snd (Prod.snd x))))))))) ((List.length (Prod.snd (Prod.snd (Prod.snd (Prod.fst (Prod.snd (Prod.snd (Prod.snd (Prod.snd x)))))))) ≤ (1048576 : Nat) ∧ List.length (Prod.fst (Prod.snd x)) ≤ (1048576 : Nat)) ∧ Holds (Prod.fst x = Prod.fst x ∧ Prod.fst (Prod.snd x) = Prod.fst (Prod.snd x) ∧ Prod.fst (Prod.snd (Prod.snd (Prod.snd x))) = Prod.fst (Prod.snd (Prod.snd (Prod.snd x))) ∧ Prod.fst (Prod.snd (Prod.snd (Prod.snd (Prod.snd x)))) = Prod.fst (Prod.snd (Prod.snd (Prod.snd (Prod.snd x)))) ∧ newF (Prod.fst (Prod.snd x)) (Prod.snd (Prod.snd (Prod.snd (Prod.fst (Prod.snd (Prod.snd (Prod.snd (Prod.snd x)))))))) = newF (Prod.fst (Prod.snd x)) (Prod.snd (Prod.snd (Prod.snd (Prod.fst (Prod.snd (Prod.snd (Prod.snd (Prod.snd x)))))))) ∧ (↑(List.length (newF (Prod.fst (Prod.snd x)) (Prod.snd (Prod.snd (Prod.snd (Prod.fst (Prod.snd (Prod.snd (Prod.snd (Prod.snd x)))))))))) : Int) = (↑(List.length (newF (Prod.fst (Prod.snd x)) (Prod.snd (Prod.snd (Prod.snd (Prod.fst (Prod.snd (Prod.snd (Prod.snd (Prod.snd x)))))))))) : Int) ∧ (0 : Int) ≤ (0 : Int) ∧ (0 : Int) ≤ (↑(List.length (newF (Prod.fst (Prod.snd x)) (Prod.snd (Prod.snd (Prod.snd (Prod.fst (Prod.snd (Prod.snd (Prod.snd (Prod.snd x)))))))))) : Int) ∧ Prod.fst (Prod.snd (Prod.snd (Prod.snd (Prod.snd (Prod.snd x))))) ++ evs true (List.drop (Int.toNat (0 : Int)) (newF (Prod.fst (Prod.snd x)) (Prod.snd (Prod.snd (Prod.snd (Prod.fst (Prod.snd (Prod.snd (Prod.snd (Prod.snd x)))))))))) = Prod.fst (Prod.snd (Prod.snd (Prod.snd (Prod.snd (Prod.snd x))))) ++ evs true (List.drop (Int.toNat (0 : Int)) (newF (Prod.fst (Prod.snd x)) (Prod.snd (Prod.snd (Prod.snd (Prod.fst (Prod.snd (Prod.snd (Prod.snd (Prod.snd x))))))))))) ∧ ∀ (x_1 : List Body × List Pair × (Int × Int) × (Int × Int × List Body × List Pair) × List Event × List Pair × Int × Int), Holds (Prod.fst x_1 = Prod.fst x ∧ Prod.fst (Prod.snd x_1) = Prod.fst (Prod.snd x) ∧ Prod.fst (Prod.snd (Prod.snd x_1)) = Prod.fst (Prod.snd (Prod.snd (Prod.snd x))) ∧ Prod.fst (Prod.snd (Prod.snd (Prod.snd x_1))) = Prod.fst (Prod.snd (Prod.snd (Prod.snd (Prod.snd x)))) ∧ Prod.fst (Prod.snd (Prod.snd (Prod.snd (Prod.snd (Prod.snd x_1))))) = newF (Prod.fst (Prod.snd x)) (Prod.snd (Prod.snd (Prod.snd (Prod.fst (Prod.snd (Prod.snd (Prod.snd (Prod.snd x)))))))) ∧ Prod.fst (Prod.snd (Prod.snd (Prod.snd (Prod.snd (Prod.snd (Prod.snd x_1)))))) = (↑(List.length (newF (Prod.fst (Prod.snd x)) (Prod.snd (Prod.snd (Prod.snd (Prod.fst (Prod.snd (Prod.snd (Prod.snd (Prod.snd x)))))))))) : Int) ∧ (0 : Int) ≤ Prod.snd (Prod.snd (Prod.snd (Prod.snd (Prod.snd (Prod.snd (Prod.snd x_1)))))) ∧ Prod.snd (Prod.snd (Prod.snd (Prod.snd (Prod.snd (Prod.snd (Prod.snd x_1)))))) ≤ (↑(List.length (newF (Prod.fst (Prod.snd x)) (Prod.snd (Prod.snd (Prod.snd (Prod.fst (Prod.snd (Prod.snd (Prod.snd (Prod.snd x)))))))))) : Int) ∧ Prod.fst (Prod.snd (Prod.snd (Prod.snd (Prod.snd x_1)))) ++ evs true (List.drop (Int.toNat (Prod.snd (Prod.snd (Prod.snd (Prod.snd (Prod.snd (Prod.snd (Prod.snd x_1)))))))) (newF (Prod.fst (Prod.snd x)) (Prod.snd (Prod.snd (Prod.snd (Prod.fst (Prod.snd (Prod.snd (Prod.snd (Prod.snd x)))))))))) = Prod.fst (Prod.snd (Prod.snd (Prod.snd (Prod.snd (Prod.snd x))))) ++ evs true (List.drop (Int.toNat (0 : Int)) (newF (Prod.fst (Prod.snd x)) (Prod.snd (Prod.snd (Prod.snd (Prod.fst (Prod.snd (Prod.snd (Prod.snd (Prod.snd x))))))))))) → ifB (decide (Prod.snd (Prod.snd (Prod.snd (Prod.snd (Prod.snd (Prod.snd (Prod.snd x_1)))))) < Prod.fst (Prod.snd (Prod.snd (Prod.snd (Prod.snd (Prod.snd (Prod.snd x_1)))))))) (((0 : Int) ≤ Prod.snd (Prod.snd (Prod.snd (Prod.snd (Prod.snd (Prod.snd (Prod.snd x_1)))))) ∧ Prod.snd (Prod.snd (Prod.snd (Prod.snd (Prod.snd (Prod.snd (Prod.snd x_1)))))) < (↑(List.length (Prod.fst (Prod.snd (Prod.snd (Prod.snd (Prod.snd (Prod.snd x_1))))))) : Int)) ∧ (List.length (Prod.fst (Prod.snd (Prod.snd (Prod.snd (Prod.snd x_1))))) + List.length [Event.mk true (Ty.ix Ty.pair (Prod.fst (Prod.snd (Prod.snd (Prod.snd (Prod.snd (Prod.snd x_1)))))) (Int.toNat (Prod.snd (Prod.snd (Prod.snd (Prod.snd (Prod.snd (Prod.snd (Prod.snd x_1)))))))))]) * (24 : Nat) ≤ room ∧ Holds (Prod.fst x_1 = Prod.fst x ∧ Prod.fst (Prod.snd x_1) = Prod.fst (Prod.snd x) ∧ Prod.fst (Prod.snd (Prod.snd x_1)) = Prod.fst (Prod.snd (Prod.snd (Prod.snd x))) ∧ Prod.fst (Prod.snd (Prod.snd (Prod.snd x_1))) = Prod.fst (Prod.snd (Prod.snd (Prod.snd (Prod.snd x)))) ∧ Prod.fst (Prod.snd (Prod.snd (Prod.snd (Prod.snd (Prod.snd x_1))))) = newF (Prod.fst (Prod.snd x)) (Prod.snd (Prod.snd (Prod.snd (Prod.fst (Prod.snd (Prod.snd (Prod.snd (Prod.snd x)))))))) ∧ Prod.fst (Prod.snd (Prod.snd (Prod.snd (Prod.snd (Prod.snd (Prod.snd x_1)))))) = (↑(List.length (newF (Prod.fst (Prod.snd x)) (Prod.snd (Prod.snd (Prod.snd (Prod.fst (Prod.snd (Prod.snd (Prod.snd (Prod.snd x)))))))))) : Int) ∧ (0 : Int) ≤ IntKind.wrap IntKind.i64 (Prod.snd (Prod.snd (Prod.snd (Prod.snd (Prod.snd (Prod.snd (Prod.snd x_1)))))) + (1 : Int)) ∧ IntKind.wrap IntKind.i64 (Prod.snd (Prod.snd (Prod.snd (Prod.snd (Prod.snd (Prod.snd (Prod.snd x_1)))))) + (1 : Int)) ≤ (↑(List.length (newF (Prod.fst (Prod.snd x)) (Prod.snd (Prod.snd (Prod.snd (Prod.fst (Prod.snd (Prod.snd (Prod.snd (Prod.snd x)))))))))) : Int) ∧ Prod.fst (Prod.snd (Prod.snd (Prod.snd (Prod.snd x_1)))) ++ [Event.mk true (Ty.ix Ty.pair (Prod.fst (Prod.snd (Prod.snd (Prod.snd (Prod.snd (Prod.snd x_1)))))) (Int.toNat (Prod.snd (Prod.snd (Prod.snd (Prod.snd (Prod.snd (Prod.snd (Prod.snd x_1)))))))))] ++ evs true (List.drop (Int.toNat (IntKind.wrap IntKind.i64 (Prod.snd (Prod.snd (Prod.snd (Prod.snd (Prod.snd (Prod.snd (Prod.snd x_1)))))) + (1 : Int)))) (newF (Prod.fst (Prod.snd x)) (Prod.snd (Prod.snd (Prod.snd (Prod.fst (Prod.snd (Prod.snd (Prod.snd (Prod.snd x)))))))))) = Prod.fst (Prod.snd (Prod.snd (Prod.snd (Prod.snd (Prod.snd x))))) ++ evs true (List.drop (Int.toNat (0 : Int)) (newF (Prod.fst (Prod.snd x)) (Prod.snd (Prod.snd (Prod.snd (Prod.fst (Prod.snd (Prod.snd (Prod.snd (Prod.snd x))))))))))) ∧ Int.toNat (Prod.fst (Prod.snd (Prod.snd (Prod.snd (Prod.snd (Prod.snd (Prod.snd x_1)))))) - IntKind.wrap IntKind.i64 (Prod.snd (Prod.snd (Prod.snd (Prod.snd (Prod.snd (Prod.snd (Prod.snd x_1)))))) + (1 : Int))) < Int.toNat (Prod.fst (Prod.snd (Prod.snd (Prod.snd (Prod.snd (Prod.snd (Prod.snd x_1)))))) - Prod.snd (Prod.snd (Prod.snd (Prod.snd (Prod.snd (Prod.snd (Prod.snd x_1)))))))) (Q (SV.tup [SV.agg [SV.int IntKind.i64 (Prod.fst (Prod.fst (Prod.snd (Prod.snd (Prod.snd x_1))))), SV.int IntKind.i64 (Prod.fst (Prod.snd (Prod.fst (Prod.snd (Prod.snd (Prod.snd x_1)))))), SV.vec (2 : Nat), SV.vec (3 : Nat)], SV.vec (4 : Nat)]) [(false, Blk.vec Ty.body (Prod.fst x_1)), (false, Blk.vec Ty.pair (Prod.fst (Prod.snd x_1))), (true, Blk.vec Ty.body (Prod.fst (Prod.snd (Prod.snd (Prod.fst (Prod.snd (Prod.snd (Prod.snd x_1)))))))), (true, Blk.vec Ty.pair (Prod.snd (Prod.snd (Prod.snd (Prod.fst (Prod.snd (Prod.snd (Prod.snd x_1)))))))), (true, Blk.vec Ty.event (Prod.fst (Prod.snd (Prod.snd (Prod.snd (Prod.snd x_1))))))]))))) := by kernel_rfl

theorem ok_implWorldStep : FsOk Try.prog 6 fs_implWorldStep := fsOk_of tt_ok (tabFs_cons ok_implWorldOk (tabFs_cons ok_implCopyW (tabFs_cons ok_implStep (tabFs_cons ok_implStepPairs (tabFs_cons ok_others tabFs_nil))))) mixed Try.func6 (by kernel_rfl) (by kernel_rfl) (by
    intro args LL p r HH h hp
    unfold fs_implWorldStep at h
    dsimp only at h
    split at h
    case h_2 => cases h
    rename_i t p xs ps
    simp only [Option.some.injEq, Prod.mk.injEq] at h
    obtain ⟨rfl, rfl, rfl⟩ := h
    refine ⟨by simp [Form, stays], (L_wstep), ?_⟩
    rw [vc_implWorldStep]
    try dsimp only
    obtain ⟨hb, hb2⟩ := hp _ rfl
    have hso := length_stepOf xs p
    have hsp := length_stepPairs (stepOf xs p)
    have n1 := length_newF (stepPairs (stepOf xs p)) ps
    have n2 := length_newF ps (stepPairs (stepOf xs p))
    refine ⟨⟨hb, hb2⟩, ifB_of (fun c => ?_) (fun c => ifB_of (fun c2 => ⟨⟨hb, hb2⟩, ?_⟩) (fun c2 => ⟨hb, by omega, ⟨hb2, by omega⟩, ⟨(by trivial), (by trivial), (by trivial), (by trivial), (by trivial), (by trivial), (by trivial), by omega, by omega, (by trivial)⟩, ?_⟩))⟩
    · simp [stepTick, stepBodies, stepPs, stepEs, orI, not_true c]
    · simp [stepTick, stepBodies, stepPs, stepEs, orI, not_false c, c2]
    rintro ⟨xs1, ps1, w, r, v, out, os, n, i⟩ ⟨h⟩
    dsimp only at h ⊢
    obtain ⟨rfl, rfl, rfl, rfl, rfl, rfl, rfl, i0, i1, h5⟩ := h
    have hs := congrArg List.length h5
    rw [List.length_append, length_evs, length_evs, List.length_drop] at hs
    refine ifB_of (fun d => ?_) (fun d => ?_)
    · have d := of_decide_eq_true d
      have e1 : (i + 1).toNat = i.toNat + 1 := by omega
      have w1 : IntKind.i64.wrap (i + 1) = i + 1 := wrap_small (by omega) (by omega)
      rw [evs_drop (show i.toNat < (newF (stepPairs (stepOf xs1 p)) ps1).length by omega)] at h5
      rw [w1, e1]
      refine ⟨⟨i0, by omega⟩, by simp only [room, List.length_singleton]; omega, ⟨(by trivial), (by trivial), (by trivial), (by trivial), (by trivial), (by trivial), (by trivial), by omega, by omega, ?_⟩, by omega⟩
      rw [← h5, List.append_assoc]
      rfl
    · have d := of_decide_eq_false d
      rw [drop_end (by omega)] at h5
      have h5 : out = evs false (newF (stepPairs (stepOf xs1 p)) ps1) := by simpa [evs] using h5
      have ho : out.length = (newF (stepPairs (stepOf xs1 p)) ps1).length := by rw [h5, length_evs]
      dsimp only
      refine ⟨⟨by omega, hb2⟩, ⟨(by trivial), (by trivial), (by trivial), (by trivial), (by trivial), (by trivial), by omega, by omega, (by trivial)⟩, ?_⟩
      clear d i0 i1 hs
      rintro ⟨xs2, ps2, r2, v2, out2, os2, n, i⟩ ⟨h⟩
      dsimp only at h ⊢
      obtain ⟨rfl, rfl, rfl, rfl, rfl, rfl, i0, i1, h6⟩ := h
      have hs := congrArg List.length h6
      rw [List.length_append, List.length_append, length_evs, length_evs, List.length_drop, List.length_drop] at hs
      refine ifB_of (fun d => ?_) (fun d => ?_)
      · have d := of_decide_eq_true d
        have e1 : (i + 1).toNat = i.toNat + 1 := by omega
        have w1 : IntKind.i64.wrap (i + 1) = i + 1 := wrap_small (by omega) (by omega)
        rw [evs_drop (show i.toNat < (newF ps2 (stepPairs (stepOf xs2 p))).length by omega)] at h6
        rw [w1, e1]
        refine ⟨⟨i0, by omega⟩, by simp only [room, List.length_singleton]; omega, ⟨(by trivial), (by trivial), (by trivial), (by trivial), (by trivial), (by trivial), by omega, by omega, ?_⟩, by omega⟩
        rw [← h6, List.append_assoc]
        rfl
      · have d := of_decide_eq_false d
        rw [drop_end (by omega)] at h6
        have h6 : out2 = stepEvs ps2 (stepPairs (stepOf xs2 p)) := by
          have : out2 = out ++ evs true (newF ps2 (stepPairs (stepOf xs2 p))) := by simpa [evs] using h6
          rw [this, h5]
          rfl
        dsimp only
        rw [h6]
        simp only [stepTick, stepBodies, stepPs, stepEs, orI, not_false c, c2, cond_true, cond_false, W]
        exact ⟨(by trivial), (by trivial)⟩)

end
end Go.Proofs.Ytdhbkcaaijgocaa.Sym
