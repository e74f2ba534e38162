/-
  Worlds: what is ok, what is at a place, what is in a box.
  No condition.
-/
import Derived.Test.YtdhbkcaaijgocaaG5
namespace Go.Proofs.Ytdhbkcaaijgocaa.Sym
open Go
set_option linter.unusedVariables false
set_option linter.unusedSimpArgs false
set_option maxRecDepth 100000

/-! ### Where a body is -/
def atB (xs : List Body) (id : Int) : Nat := pref (fun y => decide (y.Id < id)) xs
def hasB (xs : List Body) (id : Int) : Bool := decide (atB xs id < xs.length) && (Ty.ix .body xs (atB xs id)).Id == id
theorem atB_le (xs : List Body) (id : Int) : atB xs id ≤ xs.length := (pref_spec (T := .body) xs).1
def LSl10At  : LS where
  S := List Body × Unit × Int × Int
  live := [(0, [none]), (1, [none]), (6, [none])]
  shape := fun s => ([.vec 0, .int .i64 s.2.2.1, .int .i64 s.2.2.2], [(false, .vec .body s.1)])
  get := fun v h => match v, h with
    | [.vec 0, .int .i64 id, .int .i64 k], [(false, .vec .body xs)] => some (xs, (), id, k)
    | _, _ => none
  inv := fun s0 s => Holds (s.1 = s0.1 ∧ s.2.2.1 = s0.2.2.1 ∧ 0 ≤ s.2.2.2 ∧ s.2.2.2 ≤ s0.1.length ∧ (∀ e, e < s.2.2.2.toNat → decide ((Ty.ix .body s0.1 e).Id < s0.2.2.1) = true))
  mu := fun s => ((s.1.length : Int) - s.2.2.2).toNat
  ok := by
    intro v h s hg
    try dsimp only at hg
    split at hg <;> cases hg
    rfl

def L_l10At : Loops := fun n => match n with
  | 2 => some LSl10At
  | _ => none
noncomputable def fs_notAhead : Fs := ⟨[], fun args H => match args, H with
  | [.agg [.int .i64 aI, .int .i64 aK, .int .i64 aW, .int .i64 aH, .int .i64 aX, .int .i64 aY, .int .i64 aU, .int .i64 aV, .int .i64 aM, .int .i64 aB, .int .i64 aR, .int .i64 aQ], .ptr 0 0 0], [(true, .box [.int .i64 id])] => some (none, .bool (decide (aI ≥ id)), [(true, .box [.int .i64 id])])
  | _, _ => none⟩

theorem vc_notAhead (aI : Int) (aK : Int) (aW : Int) (aH : Int) (aX : Int) (aY : Int) (aU : Int) (aV : Int) (aM : Int) (aB : Int) (aR : Int) (aQ : Int) (id : Int) (Q : SV → List Ent → Prop) :
    fnVC tt (look []) L0 Try.f39 [.agg [.int .i64 aI, .int .i64 aK, .int .i64 aW, .int .i64 aH, .int .i64 aX, .int .i64 aY, .int .i64 aU, .int .i64 aV, .int .i64 aM, .int .i64 aB, .int .i64 aR, .int .i64 aQ], .ptr 0 0 0] [(true, .box [.int .i64 id])] Q =
    (Q (SV.bool (decide (aI ≥ id))) [(true, Blk.box [SV.int IntKind.i64 id])]) := by kernel_rfl

theorem ok_notAhead : FsOk Try.prog 39 fs_notAhead := fsOk_of tt_ok tabFs_nil mixed Try.func39 (by kernel_rfl) (by kernel_rfl) (by
    intro args LL p r HH h hp
    unfold fs_notAhead at h
    dsimp only at h
    split at h
    case h_2 => cases h
    rename_i aI aK aW aH aX aY aU aV aM aB aR aQ id
    simp only [Option.some.injEq, Prod.mk.injEq] at h
    obtain ⟨rfl, rfl, rfl⟩ := h
    refine ⟨by simp [Form, stays], L0, ?_⟩
    rw [vc_notAhead]
    try dsimp only
    exact ⟨rfl, rfl⟩)

def LSidxPlace  : LS where
  S := List Body × Int × Unit × Unit × Int × Int
  live := [(0, [none]), (1, [none]), (7, [none]), (8, [none])]
  shape := fun s => ([.vec 0, .fn 39 (some 1), .int .i64 s.2.2.2.2.1, .int .i64 s.2.2.2.2.2], [(false, .vec .body s.1), (true, .box [.int .i64 s.2.1])])
  get := fun v h => match v, h with
    | [.vec 0, .fn 39 (some 1), .int .i64 n, .int .i64 i], [(false, .vec .body xs), (true, .box [.int .i64 id])] => some (xs, id, (), (), n, i)
    | _, _ => none
  inv := fun s0 s => Holds (s.1 = s0.1 ∧ s.2.1 = s0.2.1 ∧ s.2.2.2.2.1 = s0.1.length ∧ 0 ≤ s.2.2.2.2.2 ∧ s.2.2.2.2.2 ≤ s0.1.length ∧ (∀ k, k < s.2.2.2.2.2.toNat → decide ((Ty.ix .body s0.1 k).Id ≥ s0.2.1) = false))
  mu := fun s => ((s.1.length : Int) - s.2.2.2.2.2).toNat
  ok := by
    intro v h s hg
    try dsimp only at hg
    split at hg <;> cases hg
    rfl

def L_idxPlace : Loops := fun n => match n with
  | 2 => some LSidxPlace
  | _ => none
noncomputable def fs_idxPlace : Fs := ⟨[], fun args H => match args, H with
  | [.vec 0, .fn 39 (some 1)], [(false, .vec .body xs), (true, .box [.int .i64 id])] => some ((some (xs.length ≤ 4611686018427387904)), .int .i64 (firstI (fun y : Body => decide (y.Id ≥ id)) xs), [(false, .vec .body xs), (true, .box [.int .i64 id])])
  | _, _ => none⟩

theorem vc_idxPlace (xs : List Body) (id : Int) (Q : SV → List Ent → Prop) :
    fnVC tt (look [(39, fs_notAhead)]) (L_idxPlace) Try.f38 [.vec 0, .fn 39 (some 1)] [(false, .vec .body xs), (true, .box [.int .i64 id])] Q =
    (Holds (xs = xs ∧ id = id ∧ (↑(List.length xs) : Int) = (↑(List.length xs) : Int) ∧ (0 : Int) ≤ (0 : Int) ∧ (0 : Int) ≤ (↑(List.length xs) : Int) ∧ ∀ (k : Nat), k < Int.toNat (0 : Int) → decide (Body.Id (Ty.ix Ty.body xs k) ≥ id) = false) ∧ ∀ (x : List Body × Int × Unit × Unit × Int × Int), Holds (Prod.fst x = xs ∧ Prod.fst (Prod.snd x) = id ∧ Prod.fst (Prod.snd (Prod.snd (Prod.snd (Prod.snd x)))) = (↑(List.length xs) : Int) ∧ (0 : Int) ≤ Prod.snd (Prod.snd (Prod.snd (Prod.snd (Prod.snd x)))) ∧ Prod.snd (Prod.snd (Prod.snd (Prod.snd (Prod.snd x)))) ≤ (↑(List.length xs) : Int) ∧ ∀ (k : Nat), k < Int.toNat (Prod.snd (Prod.snd (Prod.snd (Prod.snd (Prod.snd x))))) → decide (Body.Id (Ty.ix Ty.body xs k) ≥ id) = false) → ifB (decide (Prod.snd (Prod.snd (Prod.snd (Prod.snd (Prod.snd x)))) < Prod.fst (Prod.snd (Prod.snd (Prod.snd (Prod.snd x)))))) (((0 : Int) ≤ Prod.snd (Prod.snd (Prod.snd (Prod.snd (Prod.snd x)))) ∧ Prod.snd (Prod.snd (Prod.snd (Prod.snd (Prod.snd x)))) < (↑(List.length (Prod.fst x)) : Int)) ∧ ifB (decide (Body.Id (Ty.ix Ty.body (Prod.fst x) (Int.toNat (Prod.snd (Prod.snd (Prod.snd (Prod.snd (Prod.snd x))))))) ≥ Prod.fst (Prod.snd x))) (Q (SV.int IntKind.i64 (Prod.snd (Prod.snd (Prod.snd (Prod.snd (Prod.snd x)))))) [(false, Blk.vec Ty.body (Prod.fst x)), (true, Blk.box [SV.int IntKind.i64 (Prod.fst (Prod.snd x))])]) (Holds (Prod.fst x = xs ∧ Prod.fst (Prod.snd x) = id ∧ Prod.fst (Prod.snd (Prod.snd (Prod.snd (Prod.snd x)))) = (↑(List.length xs) : Int) ∧ (0 : Int) ≤ IntKind.wrap IntKind.i64 (Prod.snd (Prod.snd (Prod.snd (Prod.snd (Prod.snd x)))) + (1 : Int)) ∧ IntKind.wrap IntKind.i64 (Prod.snd (Prod.snd (Prod.snd (Prod.snd (Prod.snd x)))) + (1 : Int)) ≤ (↑(List.length xs) : Int) ∧ ∀ (k : Nat), k < Int.toNat (IntKind.wrap IntKind.i64 (Prod.snd (Prod.snd (Prod.snd (Prod.snd (Prod.snd x)))) + (1 : Int))) → decide (Body.Id (Ty.ix Ty.body xs k) ≥ id) = false) ∧ Int.toNat ((↑(List.length (Prod.fst x)) : Int) - IntKind.wrap IntKind.i64 (Prod.snd (Prod.snd (Prod.snd (Prod.snd (Prod.snd x)))) + (1 : Int))) < Int.toNat ((↑(List.length (Prod.fst x)) : Int) - Prod.snd (Prod.snd (Prod.snd (Prod.snd (Prod.snd x))))))) (Q (SV.int IntKind.i64 (-1 : Int)) [(false, Blk.vec Ty.body (Prod.fst x)), (true, Blk.box [SV.int IntKind.i64 (Prod.fst (Prod.snd x))])])) := by kernel_rfl

theorem ok_idxPlace : FsOk Try.prog 38 fs_idxPlace := fsOk_of tt_ok (tabFs_cons ok_notAhead tabFs_nil) mixed Try.func38 (by kernel_rfl) (by kernel_rfl) (by
    intro args LL p r HH h hp
    unfold fs_idxPlace at h
    dsimp only at h
    split at h
    case h_2 => cases h
    rename_i xs id
    simp only [Option.some.injEq, Prod.mk.injEq] at h
    obtain ⟨rfl, rfl, rfl⟩ := h
    refine ⟨by simp [Form, stays], (L_idxPlace), ?_⟩
    rw [vc_idxPlace]
    try dsimp only
    have hb := hp _ rfl
    refine ⟨⟨(by trivial), (by trivial), (by trivial), by omega, by omega, fun k hk => absurd hk (by simp)⟩, ?_⟩
    rintro ⟨xs', id', u, f, n, i⟩ ⟨h⟩
    dsimp only at h ⊢
    obtain ⟨rfl, rfl, rfl, h0, h1, h3⟩ := h
    refine ifB_of (fun c => ?_) (fun c => ?_)
    · have hi : i < xs'.length := of_decide_eq_true c
      have e1 : (i + 1).toNat = i.toNat + 1 := by omega
      refine ⟨⟨h0, hi⟩, ifB_of (fun c1 => ?_) (fun c1 => ?_)⟩
      · rw [firstI_at (T := .body) (p := fun y : Body => decide (y.Id ≥ id')) (i := i.toNat) (by omega) c1 h3]
        refine ⟨?_, (by trivial)⟩
        congr 1
        omega
      · simp (disch := omega) only [wrap_small, e1]
        refine ⟨⟨(by trivial), (by trivial), (by trivial), by omega, by omega, fun k hk => ?_⟩, by omega⟩
        by_cases e : k = i.toNat
        · rw [e]; exact c1
        · exact h3 k (by omega)
    · have hi : ¬ i < xs'.length := of_decide_eq_false c
      rw [firstI_no (T := .body) (p := fun y : Body => decide (y.Id ≥ id')) fun k hk => h3 k (by omega)]
      exact ⟨rfl, rfl⟩)

theorem firstI_place (xs : List Body) (id : Int) : firstI (fun y : Body => decide (y.Id ≥ id)) xs = bif decide (atB xs id < xs.length) then (atB xs id : Int) else -1 := by
  obtain ⟨k1, k2, k3⟩ := pref_spec (T := .body) (p := fun y : Body => decide (y.Id < id)) xs
  change atB xs id ≤ xs.length at k1
  change ∀ e, e < atB xs id → decide ((Ty.ix .body xs e).Id < id) = true at k2
  change atB xs id < xs.length → decide ((Ty.ix .body xs (atB xs id)).Id < id) = false at k3
  cases hh : decide (atB xs id < xs.length) with
  | true =>
    have hlt := of_decide_eq_true hh
    have := of_decide_eq_false (k3 hlt)
    simp only [cond_true]
    refine firstI_at (T := .body) (p := fun y : Body => decide (y.Id ≥ id)) hlt (decide_eq_true (by omega)) fun e he => ?_
    have := of_decide_eq_true (k2 e he)
    exact decide_eq_false (by omega)
  | false =>
    have hlt := of_decide_eq_false hh
    simp only [cond_false]
    refine firstI_no (T := .body) (p := fun y : Body => decide (y.Id ≥ id)) fun e he => ?_
    have := of_decide_eq_true (k2 e (by omega))
    exact decide_eq_false (by omega)
noncomputable def fs_place : Fs := ⟨[], fun args H => match args, H with
  | [.vec 0, .int .i64 id], [(false, .vec .body xs)] => some ((some (xs.length ≤ 4611686018427387904)), .tup [.int .i64 (atB xs id), .bool (hasB xs id)], [(false, .vec .body xs)])
  | _, _ => none⟩

theorem vc_place (id : Int) (xs : List Body) (Q : SV → List Ent → Prop) :
    fnVC tt (look [(38, fs_idxPlace)]) L0 Try.f21 [.vec 0, .int .i64 id] [(false, .vec .body xs)] Q =
    (List.length xs ≤ (4611686018427387904 : Nat) ∧ ifB (decide (firstI (fun y => decide (Body.Id y ≥ id)) xs < (0 : Int))) (Q (SV.tup [SV.int IntKind.i64 (↑(List.length xs) : Int), SV.bool false]) [(false, Blk.vec Ty.body xs)]) (((0 : Int) ≤ firstI (fun y => decide (Body.Id y ≥ id)) xs ∧ firstI (fun y => decide (Body.Id y ≥ id)) xs < (↑(List.length xs) : Int)) ∧ Q (SV.tup [SV.int IntKind.i64 (firstI (fun y => decide (Body.Id y ≥ id)) xs), SV.bool (Body.Id (Ty.ix Ty.body xs (Int.toNat (firstI (fun y => decide (Body.Id y ≥ id)) xs))) == id)]) [(false, Blk.vec Ty.body xs)])) := by kernel_rfl

theorem ok_place : FsOk Try.prog 21 fs_place := fsOk_of tt_ok (tabFs_cons ok_idxPlace tabFs_nil) mixed Try.func21 (by kernel_rfl) (by kernel_rfl) (by
    intro args LL p r HH h hp
    unfold fs_place at h
    dsimp only at h
    split at h
    case h_2 => cases h
    rename_i id xs
    simp only [Option.some.injEq, Prod.mk.injEq] at h
    obtain ⟨rfl, rfl, rfl⟩ := h
    refine ⟨by simp [Form, stays], L0, ?_⟩
    rw [vc_place]
    try dsimp only
    have hb := hp _ rfl
    refine ⟨hb, ?_⟩
    rw [firstI_place]
    have hk := atB_le xs id
    unfold hasB
    cases hh : decide (atB xs id < xs.length) with
    | true =>
      have hlt := of_decide_eq_true hh
      simp only [cond_true]
      refine ifB_of (fun c => ?_) (fun c => ⟨by omega, ?_⟩)
      · have := of_decide_eq_true c
        omega
      · exact ⟨rfl, (by trivial)⟩
    | false =>
      have hlt := of_decide_eq_false hh
      simp only [cond_false]
      refine ifB_of (fun c => ?_) (fun c => ?_)
      · rw [show atB xs id = xs.length by omega]
        exact ⟨rfl, (by trivial)⟩
      · simp at c)


/-! ### What is ok -/
def ahead (a b : Pair) : Bool := decide (a.A < b.A) || a.A == b.A && decide (a.B < b.B)
def pairAt (xs : List Body) (ps : List Pair) (i : Nat) : Bool :=
  hasB xs (Ty.ix .pair ps i).A && hasB xs (Ty.ix .pair ps i).B && decide ((Ty.ix .pair ps i).A < (Ty.ix .pair ps i).B) && (i == 0 || ahead (Ty.ix .pair ps (i - 1)) (Ty.ix .pair ps i))
def worldOk (t p : Int) (xs : List Body) (ps : List Pair) : Bool := isIn t 0 100000 && isIn p 0 2560 && bodiesOk xs && allTo (pairAt xs ps) ps.length
def LSspecWok  : LS where
  S := List Body × List Pair × (Int × Int) × Int
  live := [(1, [none]), (3, [none])]
  shape := fun s => ([.ptr 2 0 0, .int .i64 s.2.2.2], [(false, .vec .body s.1), (false, .vec .pair s.2.1), (true, .box [.int .i64 s.2.2.1.1, .int .i64 s.2.2.1.2, .vec 0, .vec 1])])
  get := fun v h => match v, h with
    | [.ptr 2 0 0, .int .i64 i], [(false, .vec .body xs), (false, .vec .pair ps), (true, .box [.int .i64 w_0, .int .i64 w_1, .vec 0, .vec 1])] => some (xs, ps, (w_0, w_1), i)
    | _, _ => none
  inv := fun s0 s => Holds (s.1 = s0.1 ∧ s.2.1 = s0.2.1 ∧ s.2.2.1 = s0.2.2.1 ∧ 0 ≤ s.2.2.2 ∧ s.2.2.2 ≤ s0.2.1.length ∧ allTo (pairAt s0.1 s0.2.1) s.2.2.2.toNat = true)
  mu := fun s => ((s.2.1.length : Int) - s.2.2.2).toNat
  ok := by
    intro v h s hg
    try dsimp only at hg
    split at hg <;> cases hg
    rfl

def L_specWok : Loops := fun n => match n with
  | 4 => some LSspecWok
  | _ => none
def LSimplWok  : LS where
  S := List Body × List Pair × (Int × Int) × Unit × Int × Int
  live := [(1, [none]), (26, [none]), (27, [none]), (28, [none])]
  shape := fun s => ([.ptr 2 0 0, .vec 1, .int .i64 s.2.2.2.2.1, .int .i64 s.2.2.2.2.2], [(false, .vec .body s.1), (false, .vec .pair s.2.1), (true, .box [.int .i64 s.2.2.1.1, .int .i64 s.2.2.1.2, .vec 0, .vec 1])])
  get := fun v h => match v, h with
    | [.ptr 2 0 0, .vec 1, .int .i64 n, .int .i64 i], [(false, .vec .body xs), (false, .vec .pair ps), (true, .box [.int .i64 w_0, .int .i64 w_1, .vec 0, .vec 1])] => some (xs, ps, (w_0, w_1), (), n, i)
    | _, _ => none
  inv := fun s0 s => Holds (s.1 = s0.1 ∧ s.2.1 = s0.2.1 ∧ s.2.2.1 = s0.2.2.1 ∧ s.2.2.2.2.1 = s0.2.1.length ∧ 0 ≤ s.2.2.2.2.2 ∧ s.2.2.2.2.2 ≤ s0.2.1.length ∧ allTo (pairAt s0.1 s0.2.1) s.2.2.2.2.2.toNat = true)
  mu := fun s => ((s.2.1.length : Int) - s.2.2.2.2.2).toNat
  ok := by
    intro v h s hg
    try dsimp only at hg
    split at hg <;> cases hg
    rfl

def L_implWok : Loops := fun n => match n with
  | 4 => some LSimplWok
  | _ => none
noncomputable def fs_implWorldOk : Fs := ⟨[], fun args H => match args, H with
  | [.agg [.int .i64 t, .int .i64 p, .vec 0, .vec 1]], [(false, .vec .body xs), (false, .vec .pair ps)] => some ((some (xs.length ≤ 1048576 ∧ ps.length ≤ 1048576)), .bool (worldOk t p xs ps), [(false, .vec .body xs), (false, .vec .pair ps)])
  | _, _ => none⟩

theorem vc_implWorldOk (t : Int) (p : Int) (xs : List Body) (ps : List Pair) (Q : SV → List Ent → Prop) :
    fnVC tt (look [(12, fs_in_), (20, fs_implBodiesOk), (21, fs_place)]) (L_implWok) Try.f9 [.agg [.int .i64 t, .int .i64 p, .vec 0, .vec 1]] [(false, .vec .body xs), (false, .vec .pair ps)] Q =
    (let A1_ := (↑(List.length ps) : Int); ifB (!isIn t (0 : Int) (100000 : Int)) (Q (SV.bool false) [(false, Blk.vec Ty.body xs), (false, Blk.vec Ty.pair ps)]) (ifB (!isIn p (0 : Int) (2560 : Int)) (Q (SV.bool false) [(false, Blk.vec Ty.body xs), (false, Blk.vec Ty.pair ps)]) (List.length xs ≤ (4611686018427387904 : Nat) ∧ ifB (!bodiesOk xs) (Q (SV.bool false) [(false, Blk.vec Ty.body xs), (false, Blk.vec Ty.pair ps)]) (Holds (xs = xs ∧ ps = ps ∧ (t, p) = (t, p) ∧ A1_ = A1_ ∧ (0 : Int) ≤ (0 : Int) ∧ (0 : Int) ≤ A1_ ∧ allTo (pairAt xs ps) (Int.toNat (0 : Int)) = true) ∧ ∀ (x : List Body × List Pair × (Int × Int) × Unit × Int × Int), Holds (Prod.fst x = xs ∧ Prod.fst (Prod.snd x) = ps ∧ Prod.fst (Prod.snd (Prod.snd x)) = (t, p) ∧ Prod.fst (Prod.snd (Prod.snd (Prod.snd (Prod.snd x)))) = A1_ ∧ (0 : Int) ≤ Prod.snd (Prod.snd (Prod.snd (Prod.snd (Prod.snd x)))) ∧ Prod.snd (Prod.snd (Prod.snd (Prod.snd (Prod.snd x)))) ≤ A1_ ∧ allTo (pairAt xs ps) (Int.toNat (Prod.snd (Prod.snd (Prod.snd (Prod.snd (Prod.snd x)))))) = true) → ifB (decide (Prod.snd (Prod.snd (Prod.snd (Prod.snd (Prod.snd x)))) < Prod.fst (Prod.snd (Prod.snd (Prod.snd (Prod.snd x)))))) (((0 : Int) ≤ Prod.snd (Prod.snd (Prod.snd (Prod.snd (Prod.snd x)))) ∧ Prod.snd (Prod.snd (Prod.snd (Prod.snd (Prod.snd x)))) < (↑(List.length (Prod.fst (Prod.snd x))) : Int)) ∧ List.length (Prod.fst x) ≤ (4611686018427387904 : Nat) ∧ List.length (Prod.fst x) ≤ (4611686018427387904 : Nat) ∧ ifB (!hasB (Prod.fst x) (Pair.A (Ty.ix Ty.pair (Prod.fst (Prod.snd x)) (Int.toNat (Prod.snd (Prod.snd (Prod.snd (Prod.snd (Prod.snd x))))))))) (Q (SV.bool false) [(false, Blk.vec Ty.body (Prod.fst x)), (false, Blk.vec Ty.pair (Prod.fst (Prod.snd x)))]) (ifB (!hasB (Prod.fst x) (Pair.B (Ty.ix Ty.pair (Prod.fst (Prod.snd x)) (Int.toNat (Prod.snd (Prod.snd (Prod.snd (Prod.snd (Prod.snd x))))))))) (Q (SV.bool false) [(false, Blk.vec Ty.body (Prod.fst x)), (false, Blk.vec Ty.pair (Prod.fst (Prod.snd x)))]) (ifB (decide (Pair.A (Ty.ix Ty.pair (Prod.fst (Prod.snd x)) (Int.toNat (Prod.snd (Prod.snd (Prod.snd (Prod.snd (Prod.snd x))))))) ≥ Pair.B (Ty.ix Ty.pair (Prod.fst (Prod.snd x)) (Int.toNat (Prod.snd (Prod.snd (Prod.snd (Prod.snd (Prod.snd x))))))))) (Q (SV.bool false) [(false, Blk.vec Ty.body (Prod.fst x)), (false, Blk.vec Ty.pair (Prod.fst (Prod.snd x)))]) (ifB (decide (Prod.snd (Prod.snd (Prod.snd (Prod.snd (Prod.snd x)))) > (0 : Int))) (((0 : Int) ≤ IntKind.wrap IntKind.i64 (Prod.snd (Prod.snd (Prod.snd (Prod.snd (Prod.snd x)))) - (1 : Int)) ∧ IntKind.wrap IntKind.i64 (Prod.snd (Prod.snd (Prod.snd (Prod.snd (Prod.snd x)))) - (1 : Int)) < (↑(List.length (Prod.fst (Prod.snd x))) : Int)) ∧ ifB (decide (Pair.A (Ty.ix Ty.pair (Prod.fst (Prod.snd x)) (Int.toNat (Prod.snd (Prod.snd (Prod.snd (Prod.snd (Prod.snd x))))))) < Pair.A (Ty.ix Ty.pair (Prod.fst (Prod.snd x)) (Int.toNat (IntKind.wrap IntKind.i64 (Prod.snd (Prod.snd (Prod.snd (Prod.snd (Prod.snd x)))) - (1 : Int))))))) (Q (SV.bool false) [(false, Blk.vec Ty.body (Prod.fst x)), (false, Blk.vec Ty.pair (Prod.fst (Prod.snd x)))]) (((0 : Int) ≤ IntKind.wrap IntKind.i64 (Prod.snd (Prod.snd (Prod.snd (Prod.snd (Prod.snd x)))) - (1 : Int)) ∧ IntKind.wrap IntKind.i64 (Prod.snd (Prod.snd (Prod.snd (Prod.snd (Prod.snd x)))) - (1 : Int)) < (↑(List.length (Prod.fst (Prod.snd x))) : Int)) ∧ ifB (Pair.A (Ty.ix Ty.pair (Prod.fst (Prod.snd x)) (Int.toNat (Prod.snd (Prod.snd (Prod.snd (Prod.snd (Prod.snd x))))))) == Pair.A (Ty.ix Ty.pair (Prod.fst (Prod.snd x)) (Int.toNat (IntKind.wrap IntKind.i64 (Prod.snd (Prod.snd (Prod.snd (Prod.snd (Prod.snd x)))) - (1 : Int)))))) (((0 : Int) ≤ IntKind.wrap IntKind.i64 (Prod.snd (Prod.snd (Prod.snd (Prod.snd (Prod.snd x)))) - (1 : Int)) ∧ IntKind.wrap IntKind.i64 (Prod.snd (Prod.snd (Prod.snd (Prod.snd (Prod.snd x)))) - (1 : Int)) < (↑(List.length (Prod.fst (Prod.snd x))) : Int)) ∧ ifB (decide (Pair.B (Ty.ix Ty.pair (Prod.fst (Prod.snd x)) (Int.toNat (Prod.snd (Prod.snd (Prod.snd (Prod.snd (Prod.snd x))))))) ≤ Pair.B (Ty.ix Ty.pair (Prod.fst (Prod.snd x)) (Int.toNat (IntKind.wrap IntKind.i64 (Prod.snd (Prod.snd (Prod.snd (Prod.snd (Prod.snd x)))) - (1 : Int))))))) (Q (SV.bool false) [(false, Blk.vec Ty.body (Prod.fst x)), (false, Blk.vec Ty.pair (Prod.fst (Prod.snd x)))]) (Holds (Prod.fst x = xs ∧ Prod.fst (Prod.snd x) = ps ∧ Prod.fst (Prod.snd (Prod.snd x)) = (t, p) ∧ Prod.fst (Prod.snd (Prod.snd (Prod.snd (Prod.snd x)))) = A1_ ∧ (0 : Int) ≤ IntKind.wrap IntKind.i64 (Prod.snd (Prod.snd (Prod.snd (Prod.snd (Prod.snd x)))) + (1 : Int)) ∧ IntKind.wrap IntKind.i64 (Prod.snd (Prod.snd (Prod.snd (Prod.snd (Prod.snd x)))) + (1 : Int)) ≤ A1_ ∧ allTo (pairAt xs ps) (Int.toNat (IntKind.wrap IntKind.i64 (Prod.snd (Prod.snd (Prod.snd (Prod.snd (Prod.snd x)))) + (1 : Int)))) = true) ∧ Int.toNat ((↑(List.length (Prod.fst (Prod.snd x))) : Int) - IntKind.wrap IntKind.i64 (Prod.snd (Prod.snd (Prod.snd (Prod.snd (Prod.snd x)))) + (1 : Int))) < Int.toNat ((↑(List.length (Prod.fst (Prod.snd x))) : Int) - Prod.snd (Prod.snd (Prod.snd (Prod.snd (Prod.snd x))))))) (Holds (Prod.fst x = xs ∧ Prod.fst (Prod.snd x) = ps ∧ Prod.fst (Prod.snd (Prod.snd x)) = (t, p) ∧ Prod.fst (Prod.snd (Prod.snd (Prod.snd (Prod.snd x)))) = A1_ ∧ (0 : Int) ≤ IntKind.wrap IntKind.i64 (Prod.snd (Prod.snd (Prod.snd (Prod.snd (Prod.snd x)))) + (1 : Int)) ∧ IntKind.wrap IntKind.i64 (Prod.snd (Prod.snd (Prod.snd (Prod.snd (Prod.snd x)))) + (1 : Int)) ≤ A1_ ∧ allTo (pairAt xs ps) (Int.toNat (IntKind.wrap IntKind.i64 (Prod.snd (Prod.snd (Prod.snd (Prod.snd (Prod.snd x)))) + (1 : Int)))) = true) ∧ Int.toNat ((↑(List.length (Prod.fst (Prod.snd x))) : Int) - IntKind.wrap IntKind.i64 (Prod.snd (Prod.snd (Prod.snd (Prod.snd (Prod.snd x)))) + (1 : Int))) < Int.toNat ((↑(List.length (Prod.fst (Prod.snd x))) : Int) - Prod.snd (Prod.snd (Prod.snd (Prod.snd (Prod.snd x)))))))) (Holds (Prod.fst x = xs ∧ Prod.fst (Prod.snd x) = ps ∧ Prod.fst (Prod.snd (Prod.snd x)) = (t, p) ∧ Prod.fst (Prod.snd (Prod.snd (Prod.snd (Prod.snd x)))) = A1_ ∧ (0 : Int) ≤ IntKind.wrap IntKind.i64 (Prod.snd (Prod.snd (Prod.snd (Prod.snd (Prod.snd x)))) + (1 : Int)) ∧ IntKind.wrap IntKind.i64 (Prod.snd (Prod.snd (Prod.snd (Prod.snd (Prod.snd x)))) + (1 : Int)) ≤ A1_ ∧ allTo (pairAt xs ps) (Int.toNat (IntKind.wrap IntKind.i64 (Prod.snd (Prod.snd (Prod.snd (Prod.snd (Prod.snd x)))) + (1 : Int)))) = true) ∧ Int.toNat ((↑(List.length (Prod.fst (Prod.snd x))) : Int) - IntKind.wrap IntKind.i64 (Prod.snd (Prod.snd (Prod.snd (Prod.snd (Prod.snd x)))) + (1 : Int))) < Int.toNat ((↑(List.length (Prod.fst (Prod.snd x))) : Int) - Prod.snd (Prod.snd (Prod.snd (Prod.snd (Prod.snd x)))))))))) (Q (SV.bool true) [(false, Blk.vec Ty.body (Prod.fst x)), (false, Blk.vec Ty.pair (Prod.fst (Prod.snd x)))]))))) := by kernel_rfl

theorem ok_implWorldOk : FsOk Try.prog 9 fs_implWorldOk := fsOk_of tt_ok (tabFs_cons ok_in_ (tabFs_cons ok_implBodiesOk (tabFs_cons ok_place tabFs_nil))) mixed Try.func9 (by kernel_rfl) (by kernel_rfl) (by
    intro args LL p r HH h hp
    unfold fs_implWorldOk at h
    dsimp only at h
    split at h
    case h_2 => cases h
    rename_i t p xs ps
    simp only [Option.some.injEq, Prod.mk.injEq] at h
    obtain ⟨rfl, rfl, rfl⟩ := h
    refine ⟨by simp [Form, stays], (L_implWok), ?_⟩
    rw [vc_implWorldOk]
    try dsimp only
    obtain ⟨hb, hb2⟩ := hp _ rfl
    refine ifB_of (fun c => ?_) (fun c => ifB_of (fun c2 => ?_) (fun c2 => ⟨by omega, ifB_of (fun c3 => ?_) (fun c3 => ⟨⟨(by trivial), (by trivial), (by trivial), (by trivial), by omega, by omega, rfl⟩, ?_⟩)⟩))
    · simp [worldOk, not_true c]
    · simp [worldOk, not_true c2]
    · simp [worldOk, not_true c3]
    rintro ⟨xs', ps', w, v, n, i⟩ ⟨h⟩
    dsimp only at h ⊢
    obtain ⟨rfl, rfl, rfl, rfl, h0, h1, h2⟩ := h
    refine ifB_of (fun c4 => ?_) (fun c4 => ?_)
    · have hi : i < ps'.length := of_decide_eq_true c4
      have hw1 : IntKind.i64.wrap (i + 1) = i + 1 := wrap_small (by omega) (by omega)
      have hw2 : IntKind.i64.wrap (i - 1) = i - 1 := wrap_small (by omega) (by omega)
      have e1 : (i + 1).toNat = i.toNat + 1 := by omega
      have e2 : (i - 1).toNat = i.toNat - 1 := by omega
      have fl : pairAt xs' ps' i.toNat = false → worldOk t p xs' ps' = false := fun h => by simp [worldOk, allTo_false h (show i.toNat < ps'.length by omega)]
      have nx : pairAt xs' ps' i.toNat = true → allTo (pairAt xs' ps') (i.toNat + 1) = true := fun h => by simp [allTo, h2, h]
      rw [hw1, hw2, e1, e2]
      refine ⟨⟨h0, hi⟩, by omega, by omega, ifB_of (fun d1 => ?_) (fun d1 => ifB_of (fun d2 => ?_) (fun d2 => ifB_of (fun d3 => ?_) (fun d3 => ifB_of (fun d4 => ?_) (fun d4 => ?_))))⟩
      · rw [fl (by simp [pairAt, not_true d1])]
        exact ⟨rfl, rfl⟩
      · rw [fl (by simp [pairAt, not_true d2])]
        exact ⟨rfl, rfl⟩
      · have d3' : decide ((Ty.ix .pair ps' i.toNat).A < (Ty.ix .pair ps' i.toNat).B) = false := decide_eq_false (by have := of_decide_eq_true d3; omega)
        rw [fl (by simp only [pairAt, d3', Bool.and_false, Bool.false_and])]
        exact ⟨rfl, rfl⟩
      · have d3' : decide ((Ty.ix .pair ps' i.toNat).A < (Ty.ix .pair ps' i.toNat).B) = true := decide_eq_true (by have := of_decide_eq_false d3; omega)
        have d4 := of_decide_eq_true d4
        have hz : (i.toNat == 0) = false := by simp; omega
        have pa : pairAt xs' ps' i.toNat = ahead (Ty.ix .pair ps' (i.toNat - 1)) (Ty.ix .pair ps' i.toNat) := by simp only [pairAt, not_false d1, not_false d2, d3', hz, Bool.true_and, Bool.false_or]
        rw [pa] at fl nx
        unfold ahead at fl nx
        refine ⟨⟨by omega, by omega⟩, ifB_of (fun d5 => ?_) (fun d5 => ⟨⟨by omega, by omega⟩, ifB_of (fun d6 => ⟨⟨by omega, by omega⟩, ifB_of (fun d7 => ?_) (fun d7 => ?_)⟩) (fun d6 => ?_)⟩)⟩
        · have d5 := of_decide_eq_true d5
          rw [fl (by simp; omega)]
          exact ⟨rfl, rfl⟩
        · have d5 := of_decide_eq_false d5
          have d7 := of_decide_eq_true d7
          simp only [beq_iff_eq] at d6
          rw [fl (by simp; omega)]
          exact ⟨rfl, rfl⟩
        · have d5 := of_decide_eq_false d5
          have d7 := of_decide_eq_false d7
          simp only [beq_iff_eq] at d6
          exact ⟨⟨(by trivial), (by trivial), (by trivial), (by trivial), by omega, by omega, nx (by simp; omega)⟩, by omega⟩
        · have d5 := of_decide_eq_false d5
          simp only [beq_eq_false_iff_ne] at d6
          exact ⟨⟨(by trivial), (by trivial), (by trivial), (by trivial), by omega, by omega, nx (by simp; omega)⟩, by omega⟩
      · have d3' : decide ((Ty.ix .pair ps' i.toNat).A < (Ty.ix .pair ps' i.toNat).B) = true := decide_eq_true (by have := of_decide_eq_false d3; omega)
        have d4 := of_decide_eq_false d4
        have hz : (i.toNat == 0) = true := by simp; omega
        exact ⟨⟨(by trivial), (by trivial), (by trivial), (by trivial), by omega, by omega, nx (by simp only [pairAt, not_false d1, not_false d2, d3', hz, Bool.true_and, Bool.true_or])⟩, by omega⟩
    · have hi : ¬ i < ps'.length := of_decide_eq_false c4
      have e1 : i.toNat = ps'.length := by omega
      rw [e1] at h2
      simp [worldOk, not_false c, not_false c2, not_false c3, h2])


/-! ### The laws' own functions over worlds -/
def szW (b : Int) (n m : Nat) : Int := if szLeft b n < 0 then -1 else szLeft (szLeft b n) m
theorem szLeft_neg {b n : Int} (h : szLeft b n < 0) : szLeft b n = -1 := by
  unfold szLeft at h ⊢
  split
  · rfl
  · rename_i h2
    rw [if_neg h2] at h
    omega
theorem szW_le {n m : Nat} (c : decide (szW 1048576 n m < 0) = false) (hn : n ≤ 9223372036854775807) (hm : m ≤ 9223372036854775807) : n ≤ 1048576 ∧ m ≤ 1048576 := by
  have c := of_decide_eq_false c
  unfold szW at c
  by_cases h : szLeft 1048576 (n : Int) < 0
  · rw [if_pos h] at c
    omega
  · rw [if_neg h] at c
    have k1 := szLeft_le2 (b := 1048576) (by omega) (by omega) (decide_eq_false h) hn
    rw [k1.2] at c
    have k2 := szLeft_le2 (b := 1048576 - (n : Int)) (by omega) (by omega) (decide_eq_false c) hm
    omega
end Go.Proofs.Ytdhbkcaaijgocaa.Sym
