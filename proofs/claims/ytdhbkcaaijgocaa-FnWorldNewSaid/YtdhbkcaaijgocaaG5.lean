/-
  Pairs that are new.
  No condition.
-/
import Derived.Test.YtdhbkcaaijgocaaG4
namespace Go.Proofs.Ytdhbkcaaijgocaa.Sym
open Go
set_option linter.unusedVariables false
set_option linter.unusedSimpArgs false
set_option maxRecDepth 100000

theorem filter_drop {T : Ty} (p : T.El → Bool) {xs : List T.El} {i : Nat} (h : i < xs.length) : (xs.drop i).filter p = (bif p (T.ix xs i) then [T.ix xs i] else []) ++ (xs.drop (i + 1)).filter p := by
  rw [drop_ix (T := T) h]
  cases q : p (T.ix xs i) <;> simp [List.filter, q]
def eqP (a b : Pair) : Bool := a.A == b.A && a.B == b.B
theorem eqP_iff {a b : Pair} : eqP a b = true ↔ a = b := by
  obtain ⟨a1, a2⟩ := a
  obtain ⟨b1, b2⟩ := b
  simp [eqP]
def hasP (ps : List Pair) (p : Pair) : Bool := ps.any fun q => eqP q p
theorem hasP_true {ps : List Pair} {p : Pair} : hasP ps p = true ↔ p ∈ ps := by
  simp only [hasP, List.any_eq_true, eqP_iff]
  exact ⟨fun ⟨x, h, e⟩ => e ▸ h, fun h => ⟨p, h, rfl⟩⟩
theorem hasP_false {ps : List Pair} {p : Pair} (h : ∀ e, e < ps.length → eqP (Ty.ix .pair ps e) p = false) : hasP ps p = false := by
  cases q : hasP ps p with
  | false => rfl
  | true =>
    have hm := hasP_true.1 q
    obtain ⟨i, hi, e⟩ := List.mem_iff_getElem.1 hm
    have := h i hi
    rw [ix_eq (T := .pair) (List.getElem?_eq_getElem hi), e, eqP_iff.2 rfl] at this
    cases this
theorem hasP_at {ps : List Pair} {p : Pair} {i : Nat} (hi : i < ps.length) (h : eqP (Ty.ix .pair ps i) p = true) : hasP ps p = true := by
  refine hasP_true.2 ?_
  rw [← eqP_iff.1 h]
  exact List.mem_of_getElem? (ix_get (T := .pair) hi)
def newF (was now : List Pair) : List Pair := now.filter fun p => !hasP was p
def broadNew (xs ys : List Item) : List Pair := bif itemsOk xs && itemsOk ys then newF (pairsF xs) (pairsF ys) else []
theorem newF_drop {was now : List Pair} {i : Nat} (h : i < now.length) : newF was (now.drop i) = (bif !hasP was (Ty.ix .pair now i) then [Ty.ix .pair now i] else []) ++ newF was (now.drop (i + 1)) := filter_drop (T := .pair) _ h
theorem length_newF (was now : List Pair) : (newF was now).length ≤ now.length := List.length_filter_le _ _
def LSl4In  : LS where
  S := List Pair × Unit × Pair × Int
  live := [(0, [none]), (3, [none]), (5, [none])]
  shape := fun s => ([.vec 0, .ptr 1 0 0, .int .i64 s.2.2.2], [(false, .vec .pair s.1), (true, .box [.int .i64 s.2.2.1.A, .int .i64 s.2.2.1.B])])
  get := fun v h => match v, h with
    | [.vec 0, .ptr 1 0 0, .int .i64 i], [(false, .vec .pair ps), (true, .box [.int .i64 pA, .int .i64 pB])] => some (ps, (), (Pair.mk pA pB), i)
    | _, _ => none
  inv := fun s0 s => Holds (s.1 = s0.1 ∧ s.2.2.1 = s0.2.2.1 ∧ 0 ≤ s.2.2.2 ∧ s.2.2.2 ≤ s0.1.length ∧ (∀ e, e < s.2.2.2.toNat → eqP (Ty.ix .pair s0.1 e) s0.2.2.1 = false))
  mu := fun s => ((s.1.length : Int) - s.2.2.2).toNat
  ok := by
    intro v h s hg
    try dsimp only at hg
    split at hg <;> cases hg
    rfl

def L_l4In : Loops := fun n => match n with
  | 2 => some LSl4In
  | _ => none
def LSidxPair  : LS where
  S := List Pair × Unit × Pair × Int × Int
  live := [(0, [none]), (3, [none]), (7, [none]), (8, [none])]
  shape := fun s => ([.vec 0, .ptr 1 0 0, .int .i64 s.2.2.2.1, .int .i64 s.2.2.2.2], [(false, .vec .pair s.1), (true, .box [.int .i64 s.2.2.1.A, .int .i64 s.2.2.1.B])])
  get := fun v h => match v, h with
    | [.vec 0, .ptr 1 0 0, .int .i64 n, .int .i64 i], [(false, .vec .pair ps), (true, .box [.int .i64 pA, .int .i64 pB])] => some (ps, (), (Pair.mk pA pB), n, i)
    | _, _ => none
  inv := fun s0 s => Holds (s.1 = s0.1 ∧ s.2.2.1 = s0.2.2.1 ∧ s.2.2.2.1 = s0.1.length ∧ 0 ≤ s.2.2.2.2 ∧ s.2.2.2.2 ≤ s0.1.length ∧ (∀ e, e < s.2.2.2.2.toNat → eqP s0.2.2.1 (Ty.ix .pair s0.1 e) = false))
  mu := fun s => ((s.1.length : Int) - s.2.2.2.2).toNat
  ok := by
    intro v h s hg
    try dsimp only at hg
    split at hg <;> cases hg
    rfl

def L_idxPair : Loops := fun n => match n with
  | 2 => some LSidxPair
  | _ => none
noncomputable def fs_idxPair : Fs := ⟨[], fun args H => match args, H with
  | [.vec 0, .agg [.int .i64 pA, .int .i64 pB]], [(false, .vec .pair ps)] => some ((some (ps.length ≤ 1048576)), .int .i64 (firstI (fun y : Pair => eqP (Pair.mk pA pB) y) ps), [(false, .vec .pair ps)])
  | _, _ => none⟩

theorem vc_idxPair (ps : List Pair) (pA : Int) (pB : Int) (Q : SV → List Ent → Prop) :
    fnVC tt (look []) (L_idxPair) Try.f49 [.vec 0, .agg [.int .i64 pA, .int .i64 pB]] [(false, .vec .pair ps)] Q =
    (Holds (ps = ps ∧ Pair.mk pA pB = Pair.mk pA pB ∧ (↑(List.length ps) : Int) = (↑(List.length ps) : Int) ∧ (0 : Int) ≤ (0 : Int) ∧ (0 : Int) ≤ (↑(List.length ps) : Int) ∧ ∀ (e : Nat), e < Int.toNat (0 : Int) → eqP (Pair.mk pA pB) (Ty.ix Ty.pair ps e) = false) ∧ ∀ (x : List Pair × Unit × Pair × Int × Int), Holds (Prod.fst x = ps ∧ Prod.fst (Prod.snd (Prod.snd x)) = Pair.mk pA pB ∧ Prod.fst (Prod.snd (Prod.snd (Prod.snd x))) = (↑(List.length ps) : Int) ∧ (0 : Int) ≤ Prod.snd (Prod.snd (Prod.snd (Prod.snd x))) ∧ Prod.snd (Prod.snd (Prod.snd (Prod.snd x))) ≤ (↑(List.length ps) : Int) ∧ ∀ (e : Nat), e < Int.toNat (Prod.snd (Prod.snd (Prod.snd (Prod.snd x)))) → eqP (Pair.mk pA pB) (Ty.ix Ty.pair ps e) = false) → ifB (decide (Prod.snd (Prod.snd (Prod.snd (Prod.snd x))) < Prod.fst (Prod.snd (Prod.snd (Prod.snd x))))) (((0 : Int) ≤ Prod.snd (Prod.snd (Prod.snd (Prod.snd x))) ∧ Prod.snd (Prod.snd (Prod.snd (Prod.snd x))) < (↑(List.length (Prod.fst x)) : Int)) ∧ ifB (Pair.A (Prod.fst (Prod.snd (Prod.snd x))) == Pair.A (Ty.ix Ty.pair (Prod.fst x) (Int.toNat (Prod.snd (Prod.snd (Prod.snd (Prod.snd x)))))) && Pair.B (Prod.fst (Prod.snd (Prod.snd x))) == Pair.B (Ty.ix Ty.pair (Prod.fst x) (Int.toNat (Prod.snd (Prod.snd (Prod.snd (Prod.snd x))))))) (Q (SV.int IntKind.i64 (Prod.snd (Prod.snd (Prod.snd (Prod.snd x))))) [(false, Blk.vec Ty.pair (Prod.fst x))]) (Holds (Prod.fst x = ps ∧ Prod.fst (Prod.snd (Prod.snd x)) = Pair.mk pA pB ∧ Prod.fst (Prod.snd (Prod.snd (Prod.snd x))) = (↑(List.length ps) : Int) ∧ (0 : Int) ≤ IntKind.wrap IntKind.i64 (Prod.snd (Prod.snd (Prod.snd (Prod.snd x))) + (1 : Int)) ∧ IntKind.wrap IntKind.i64 (Prod.snd (Prod.snd (Prod.snd (Prod.snd x))) + (1 : Int)) ≤ (↑(List.length ps) : Int) ∧ ∀ (e : Nat), e < Int.toNat (IntKind.wrap IntKind.i64 (Prod.snd (Prod.snd (Prod.snd (Prod.snd x))) + (1 : Int))) → eqP (Pair.mk pA pB) (Ty.ix Ty.pair ps e) = false) ∧ Int.toNat ((↑(List.length (Prod.fst x)) : Int) - IntKind.wrap IntKind.i64 (Prod.snd (Prod.snd (Prod.snd (Prod.snd x))) + (1 : Int))) < Int.toNat ((↑(List.length (Prod.fst x)) : Int) - Prod.snd (Prod.snd (Prod.snd (Prod.snd x)))))) (Q (SV.int IntKind.i64 (-1 : Int)) [(false, Blk.vec Ty.pair (Prod.fst x))])) := by kernel_rfl

theorem ok_idxPair : FsOk Try.prog 49 fs_idxPair := fsOk_of tt_ok tabFs_nil mixed Try.func49 (by kernel_rfl) (by kernel_rfl) (by
    intro args LL p r HH h hp
    unfold fs_idxPair at h
    dsimp only at h
    split at h
    case h_2 => cases h
    rename_i pA pB ps
    simp only [Option.some.injEq, Prod.mk.injEq] at h
    obtain ⟨rfl, rfl, rfl⟩ := h
    refine ⟨by simp [Form, stays], (L_idxPair), ?_⟩
    rw [vc_idxPair]
    try dsimp only
    have hb := hp _ rfl
    refine ⟨⟨(by trivial), (by trivial), (by trivial), by omega, by omega, fun e he => absurd he (by simp)⟩, ?_⟩
    rintro ⟨ps', u, p', n, i⟩ ⟨h⟩
    dsimp only at h ⊢
    obtain ⟨rfl, rfl, rfl, i0, i1, i2⟩ := h
    refine ifB_of (fun c => ?_) (fun c => ?_)
    · have c := of_decide_eq_true c
      refine ⟨⟨i0, c⟩, ifB_of (fun c2 => ?_) (fun c2 => ?_)⟩
      · rw [firstI_at (T := .pair) (i := i.toNat) (by omega) c2 i2]
        refine ⟨?_, (by trivial)⟩
        congr 1
        omega
      · have w : IntKind.i64.wrap (i + 1) = i + 1 := wrap_small (by omega) (by omega)
        rw [w]
        refine ⟨⟨(by trivial), (by trivial), (by trivial), by omega, by omega, fun e he => ?_⟩, by omega⟩
        by_cases q : e = i.toNat
        · rw [q]; exact c2
        · exact i2 e (by omega)
    · have c := of_decide_eq_false c
      rw [firstI_no (T := .pair) fun k hk => i2 k (by omega)]
      exact ⟨rfl, rfl⟩)

theorem firstI_any {α : Type} (p : α → Bool) (xs : List α) : decide (firstI p xs ≥ 0) = xs.any p := by
  unfold firstI
  cases xs.any p with
  | true => simp
  | false => rfl
theorem eqP_comm (a b : Pair) : eqP a b = eqP b a := by
  cases q : eqP b a with
  | true => rw [eqP_iff.1 q]; exact eqP_iff.2 rfl
  | false =>
    cases q2 : eqP a b with
    | false => rfl
    | true => rw [eqP_iff.1 q2, eqP_iff.2 rfl] at q; cases q
theorem firstI_has {ps : List Pair} {p : Pair} : decide (firstI (fun y : Pair => eqP p y) ps ≥ 0) = hasP ps p := by
  rw [firstI_any]
  unfold hasP
  congr 1
  funext y
  exact eqP_comm p y
noncomputable def fs_hasPair : Fs := ⟨[], fun args H => match args, H with
  | [.vec 0, .agg [.int .i64 pA, .int .i64 pB]], [(false, .vec .pair ps)] => some ((some (ps.length ≤ 1048576)), .bool (hasP ps (Pair.mk pA pB)), [(false, .vec .pair ps)])
  | _, _ => none⟩

theorem vc_hasPair (ps : List Pair) (pA : Int) (pB : Int) (Q : SV → List Ent → Prop) :
    fnVC tt (look [(49, fs_idxPair)]) L0 Try.f36 [.vec 0, .agg [.int .i64 pA, .int .i64 pB]] [(false, .vec .pair ps)] Q =
    (List.length ps ≤ (1048576 : Nat) ∧ Q (SV.bool (decide (firstI (fun y => eqP (Pair.mk pA pB) y) ps ≥ (0 : Int)))) [(false, Blk.vec Ty.pair ps)]) := by kernel_rfl

theorem ok_hasPair : FsOk Try.prog 36 fs_hasPair := fsOk_of tt_ok (tabFs_cons ok_idxPair tabFs_nil) mixed Try.func36 (by kernel_rfl) (by kernel_rfl) (by
    intro args LL p r HH h hp
    unfold fs_hasPair at h
    dsimp only at h
    split at h
    case h_2 => cases h
    rename_i pA pB ps
    simp only [Option.some.injEq, Prod.mk.injEq] at h
    obtain ⟨rfl, rfl, rfl⟩ := h
    refine ⟨by simp [Form, stays], L0, ?_⟩
    rw [vc_hasPair]
    try dsimp only
    have hb := hp _ rfl
    refine ⟨hb, ?_⟩
    rw [firstI_has]
    exact ⟨rfl, rfl⟩)

def LSothers  : LS where
  S := List Pair × List Pair × Unit × List Pair × Unit × Int × Int
  live := [(1, [none]), (5, [some .pair]), (8, [none]), (9, [none]), (10, [none])]
  shape := fun s => ([.vec 1, .vec 2, .vec 0, .int .i64 s.2.2.2.2.2.1, .int .i64 s.2.2.2.2.2.2], [(false, .vec .pair s.1), (false, .vec .pair s.2.1), (true, .vec .pair s.2.2.2.1)])
  get := fun v h => match v, h with
    | [.vec 1, .vec 2, .vec 0, .int .i64 n, .int .i64 i], [(false, .vec .pair ls), (false, .vec .pair os), (true, .vec .pair out)] => some (ls, os, (), out, (), n, i)
    | _, _ => none
  inv := fun s0 s => Holds (s.1 = s0.1 ∧ s.2.1 = s0.2.1 ∧ s.2.2.2.2.2.1 = s0.1.length ∧ 0 ≤ s.2.2.2.2.2.2 ∧ s.2.2.2.2.2.2 ≤ s0.1.length ∧ s.2.2.2.1 ++ newF s0.2.1 (s0.1.drop s.2.2.2.2.2.2.toNat) = newF s0.2.1 s0.1)
  mu := fun s => ((s.1.length : Int) - s.2.2.2.2.2.2).toNat
  ok := by
    intro v h s hg
    try dsimp only at hg
    split at hg <;> cases hg
    rfl

def L_others : Loops := fun n => match n with
  | 3 => some LSothers
  | _ => none
noncomputable def fs_others : Fs := ⟨[], fun args H => match args, H with
  | [.vec 0, .vec 1], [(false, .vec .pair ls), (false, .vec .pair os)] => some ((some (ls.length ≤ 1048576 ∧ os.length ≤ 1048576)), .vec 2, [(false, .vec .pair ls), (false, .vec .pair os), (true, .vec .pair (newF os ls))])
  | _, _ => none⟩

theorem vc_others (ls : List Pair) (os : List Pair) (Q : SV → List Ent → Prop) :
    fnVC tt (look [(36, fs_hasPair)]) (L_others) Try.f16 [.vec 0, .vec 1] [(false, .vec .pair ls), (false, .vec .pair os)] Q =
    (let A1_ := (↑(List.length ls) : Int); Holds (ls = ls ∧ os = os ∧ A1_ = A1_ ∧ (0 : Int) ≤ (0 : Int) ∧ (0 : Int) ≤ A1_ ∧ [] ++ newF os (List.drop (Int.toNat (0 : Int)) ls) = newF os ls) ∧ ∀ (x : List Pair × List Pair × Unit × List Pair × Unit × Int × Int), Holds (Prod.fst x = ls ∧ Prod.fst (Prod.snd x) = os ∧ Prod.fst (Prod.snd (Prod.snd (Prod.snd (Prod.snd (Prod.snd x))))) = A1_ ∧ (0 : Int) ≤ Prod.snd (Prod.snd (Prod.snd (Prod.snd (Prod.snd (Prod.snd x))))) ∧ Prod.snd (Prod.snd (Prod.snd (Prod.snd (Prod.snd (Prod.snd x))))) ≤ A1_ ∧ Prod.fst (Prod.snd (Prod.snd (Prod.snd x))) ++ newF os (List.drop (Int.toNat (Prod.snd (Prod.snd (Prod.snd (Prod.snd (Prod.snd (Prod.snd x))))))) ls) = newF os ls) → ifB (decide (Prod.snd (Prod.snd (Prod.snd (Prod.snd (Prod.snd (Prod.snd x))))) < Prod.fst (Prod.snd (Prod.snd (Prod.snd (Prod.snd (Prod.snd x))))))) (((0 : Int) ≤ Prod.snd (Prod.snd (Prod.snd (Prod.snd (Prod.snd (Prod.snd x))))) ∧ Prod.snd (Prod.snd (Prod.snd (Prod.snd (Prod.snd (Prod.snd x))))) < (↑(List.length (Prod.fst x)) : Int)) ∧ List.length (Prod.fst (Prod.snd x)) ≤ (1048576 : Nat) ∧ ifB (!hasP (Prod.fst (Prod.snd x)) (Ty.ix Ty.pair (Prod.fst x) (Int.toNat (Prod.snd (Prod.snd (Prod.snd (Prod.snd (Prod.snd (Prod.snd x))))))))) ((List.length (Prod.fst (Prod.snd (Prod.snd (Prod.snd x)))) + List.length [Ty.ix Ty.pair (Prod.fst x) (Int.toNat (Prod.snd (Prod.snd (Prod.snd (Prod.snd (Prod.snd (Prod.snd x)))))))]) * (16 : Nat) ≤ room ∧ Holds (Prod.fst x = ls ∧ Prod.fst (Prod.snd x) = os ∧ Prod.fst (Prod.snd (Prod.snd (Prod.snd (Prod.snd (Prod.snd x))))) = A1_ ∧ (0 : Int) ≤ IntKind.wrap IntKind.i64 (Prod.snd (Prod.snd (Prod.snd (Prod.snd (Prod.snd (Prod.snd x))))) + (1 : Int)) ∧ IntKind.wrap IntKind.i64 (Prod.snd (Prod.snd (Prod.snd (Prod.snd (Prod.snd (Prod.snd x))))) + (1 : Int)) ≤ A1_ ∧ Prod.fst (Prod.snd (Prod.snd (Prod.snd x))) ++ [Ty.ix Ty.pair (Prod.fst x) (Int.toNat (Prod.snd (Prod.snd (Prod.snd (Prod.snd (Prod.snd (Prod.snd x)))))))] ++ newF os (List.drop (Int.toNat (IntKind.wrap IntKind.i64 (Prod.snd (Prod.snd (Prod.snd (Prod.snd (Prod.snd (Prod.snd x))))) + (1 : Int)))) ls) = newF os ls) ∧ Int.toNat ((↑(List.length (Prod.fst x)) : Int) - IntKind.wrap IntKind.i64 (Prod.snd (Prod.snd (Prod.snd (Prod.snd (Prod.snd (Prod.snd x))))) + (1 : Int))) < Int.toNat ((↑(List.length (Prod.fst x)) : Int) - Prod.snd (Prod.snd (Prod.snd (Prod.snd (Prod.snd (Prod.snd x))))))) (Holds (Prod.fst x = ls ∧ Prod.fst (Prod.snd x) = os ∧ Prod.fst (Prod.snd (Prod.snd (Prod.snd (Prod.snd (Prod.snd x))))) = A1_ ∧ (0 : Int) ≤ IntKind.wrap IntKind.i64 (Prod.snd (Prod.snd (Prod.snd (Prod.snd (Prod.snd (Prod.snd x))))) + (1 : Int)) ∧ IntKind.wrap IntKind.i64 (Prod.snd (Prod.snd (Prod.snd (Prod.snd (Prod.snd (Prod.snd x))))) + (1 : Int)) ≤ A1_ ∧ Prod.fst (Prod.snd (Prod.snd (Prod.snd x))) ++ newF os (List.drop (Int.toNat (IntKind.wrap IntKind.i64 (Prod.snd (Prod.snd (Prod.snd (Prod.snd (Prod.snd (Prod.snd x))))) + (1 : Int)))) ls) = newF os ls) ∧ Int.toNat ((↑(List.length (Prod.fst x)) : Int) - IntKind.wrap IntKind.i64 (Prod.snd (Prod.snd (Prod.snd (Prod.snd (Prod.snd (Prod.snd x))))) + (1 : Int))) < Int.toNat ((↑(List.length (Prod.fst x)) : Int) - Prod.snd (Prod.snd (Prod.snd (Prod.snd (Prod.snd (Prod.snd x)))))))) (Q (SV.vec (2 : Nat)) [(false, Blk.vec Ty.pair (Prod.fst x)), (false, Blk.vec Ty.pair (Prod.fst (Prod.snd x))), (true, Blk.vec Ty.pair (Prod.fst (Prod.snd (Prod.snd (Prod.snd x)))))])) := by kernel_rfl

theorem ok_others : FsOk Try.prog 16 fs_others := fsOk_of tt_ok (tabFs_cons ok_hasPair tabFs_nil) mixed Try.func16 (by kernel_rfl) (by kernel_rfl) (by
    intro args LL p r HH h hp
    unfold fs_others at h
    dsimp only at h
    split at h
    case h_2 => cases h
    rename_i ls os
    simp only [Option.some.injEq, Prod.mk.injEq] at h
    obtain ⟨rfl, rfl, rfl⟩ := h
    refine ⟨by simp [Form, stays], (L_others), ?_⟩
    rw [vc_others]
    try dsimp only
    obtain ⟨hb, hb2⟩ := hp _ rfl
    refine ⟨⟨(by trivial), (by trivial), (by trivial), by omega, by omega, (by trivial)⟩, ?_⟩
    rintro ⟨ls', os', u, out, v, n, i⟩ ⟨h⟩
    dsimp only at h ⊢
    obtain ⟨rfl, rfl, rfl, i0, i1, i2⟩ := h
    have hs := length_newF os' ls'
    have hs2 := congrArg List.length i2
    rw [List.length_append] at hs2
    refine ifB_of (fun c => ?_) (fun c => ?_)
    · have c := of_decide_eq_true c
      have e1 : (i + 1).toNat = i.toNat + 1 := by omega
      have w : IntKind.i64.wrap (i + 1) = i + 1 := wrap_small (by omega) (by omega)
      rw [newF_drop (show i.toNat < ls'.length by omega)] at i2
      rw [w, e1]
      refine ⟨⟨i0, c⟩, hb2, ifB_of (fun c2 => ?_) (fun c2 => ?_)⟩
      · have c2 : (!hasP os' (Ty.ix .pair ls' i.toNat)) = true := c2
        rw [c2] at i2
        refine ⟨by simp only [room, List.length_singleton]; omega, ⟨(by trivial), (by trivial), (by trivial), by omega, by omega, ?_⟩, by omega⟩
        rw [← i2, List.append_assoc]
        rfl
      · have c2 : (!hasP os' (Ty.ix .pair ls' i.toNat)) = false := c2
        rw [c2] at i2
        exact ⟨⟨(by trivial), (by trivial), (by trivial), by omega, by omega, i2⟩, by omega⟩
    · have c := of_decide_eq_false c
      rw [drop_end (by omega)] at i2
      rw [← i2]
      simp [newF])

def LSspecNew  : LS where
  S := List Item × List Item × List Pair × List Pair × List Pair × Int
  live := [(5, [some .pair]), (6, [some .pair]), (7, [some .pair]), (8, [none])]
  shape := fun s => ([.vec 2, .vec 3, .vec 4, .int .i64 s.2.2.2.2.2], [(false, .vec .item s.1), (false, .vec .item s.2.1), (true, .vec .pair s.2.2.1), (true, .vec .pair s.2.2.2.1), (true, .vec .pair s.2.2.2.2.1)])
  get := fun v h => match v, h with
    | [.vec 2, .vec 3, .vec 4, .int .i64 i], [(false, .vec .item xs), (false, .vec .item ys), (true, .vec .pair out), (true, .vec .pair was), (true, .vec .pair now)] => some (xs, ys, out, was, now, i)
    | _, _ => none
  inv := fun s0 s => Holds (s.1 = s0.1 ∧ s.2.1 = s0.2.1 ∧ s.2.2.2.1 = s0.2.2.2.1 ∧ s.2.2.2.2.1 = s0.2.2.2.2.1 ∧ 0 ≤ s.2.2.2.2.2 ∧ s.2.2.2.2.2 ≤ s0.2.2.2.2.1.length ∧ s.2.2.1 ++ newF s0.2.2.2.1 (s0.2.2.2.2.1.drop s.2.2.2.2.2.toNat) = newF s0.2.2.2.1 s0.2.2.2.2.1)
  mu := fun s => ((s.2.2.2.2.1.length : Int) - s.2.2.2.2.2).toNat
  ok := by
    intro v h s hg
    try dsimp only at hg
    split at hg <;> cases hg
    rfl

def L_specNew : Loops := fun n => match n with
  | 7 => some LSspecNew
  | _ => none
theorem szLeft_le2 {b : Int} {n : Nat} (hb0 : b ≤ 1048576) (hb1 : -1 ≤ b) (c : decide (szLeft b (n : Int) < 0) = false) (hb : n ≤ 9223372036854775807) : (n : Int) ≤ b ∧ szLeft b n = b - n := by
  have c := of_decide_eq_false c
  have hw : W (b - (n : Int)) = b - (n : Int) := wrap_small (by omega) (by omega)
  simp only [szLeft, hw] at c ⊢
  split at c
  · omega
  · rename_i h
    rw [if_neg h]
    omega
theorem length_broadNew (xs ys : List Item) : (broadNew xs ys).length ≤ 576 := by
  unfold broadNew
  cases h1 : itemsOk xs <;> cases h2 : itemsOk ys <;> simp only [Bool.and_self, Bool.and_false, Bool.false_and, cond_true, cond_false, List.length_nil] <;> try omega
  have := length_newF (pairsF xs) (pairsF ys)
  have q3 := length_pairsF ys
  have q4 := length_sq (itemsOk_len h2)
  omega
end Go.Proofs.Ytdhbkcaaijgocaa.Sym
