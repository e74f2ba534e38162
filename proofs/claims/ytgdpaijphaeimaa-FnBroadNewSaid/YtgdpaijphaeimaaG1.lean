/-
  Boxes by their numbers: what is ok, what meets.
  No condition.
-/
import Derived.Test.YtgdpaijphaeimaaE1
namespace Go.Proofs.Ytgdpaijphaeimaa.Sym
open Go
set_option linter.unusedVariables false
set_option linter.unusedSimpArgs false
set_option maxRecDepth 100000

def itemOk (x : Item) : Bool := isIn x.Id 0 1000000000 && boxOk x.Box
/-- All below a number. -/
def allTo (p : Nat → Bool) : Nat → Bool
  | 0 => true
  | k + 1 => allTo p k && p k
theorem allTo_false {p : Nat → Bool} {k : Nat} (hk : p k = false) : ∀ {n : Nat}, k < n → allTo p n = false
  | n + 1, h => by
    simp only [allTo]
    by_cases e : k = n
    · subst e; simp [hk]
    · simp [allTo_false hk (n := n) (by omega)]
theorem allTo_true {p : Nat → Bool} : ∀ {n : Nat}, (∀ k, k < n → p k = true) → allTo p n = true
  | 0, _ => rfl
  | n + 1, h => by simp only [allTo, allTo_true (n := n) fun k hk => h k (by omega), h n (by omega), Bool.and_self]
def itemAt (xs : List Item) (k : Nat) : Bool := itemOk (Ty.ix .item xs k) && (k == 0 || decide ((Ty.ix .item xs (k - 1)).Id < (Ty.ix .item xs k).Id))
def itemsOk (xs : List Item) : Bool := allTo (itemAt xs) xs.length && decide (xs.length ≤ 24)
noncomputable def fs_implItemOk : Fs := ⟨[], fun args H => match args, H with
  | [.agg [.int .i64 xI, .int .i64 xLX, .int .i64 xLY, .int .i64 xHX, .int .i64 xHY]], [] => some (none, .bool (itemOk (Item.mk xI (Box.mk (Vec.mk xLX xLY) (Vec.mk xHX xHY)))), [])
  | _, _ => none⟩

theorem vc_implItemOk (xI : Int) (xLX : Int) (xLY : Int) (xHX : Int) (xHY : Int) (Q : SV → List Ent → Prop) :
    fnVC tt (look [(113, fs_in_), (105, fs_implBoxOk)]) L0 Try.f118 [.agg [.int .i64 xI, .int .i64 xLX, .int .i64 xLY, .int .i64 xHX, .int .i64 xHY]] [] Q =
    (ifB (isIn xI (0 : Int) (1000000000 : Int)) (Q (SV.bool (boxOk (Box.mk (Vec.mk xLX xLY) (Vec.mk xHX xHY)))) []) (Q (SV.bool false) [])) := by kernel_rfl

theorem ok_implItemOk : FsOk Try.prog 118 fs_implItemOk := fsOk_of tt_ok (tabFs_cons ok_in_ (tabFs_cons ok_implBoxOk tabFs_nil)) mixed Try.func118 (by kernel_rfl) (by kernel_rfl) (by
    intro args LL p r HH h hp
    unfold fs_implItemOk at h
    dsimp only at h
    split at h
    case h_2 => cases h
    rename_i xI xLX xLY xHX xHY
    simp only [Option.some.injEq, Prod.mk.injEq] at h
    obtain ⟨rfl, rfl, rfl⟩ := h
    refine ⟨by simp [Form, stays], L0, ?_⟩
    rw [vc_implItemOk]
    try dsimp only

    repeat' (first | refine ifB_of (fun _ => ?_) (fun _ => ?_) | refine pre_of ?_ (fun _ => ?_))
    all_goals first
      | rfl
      | (simp only [W, itemOk, *, cond_true, cond_false, Bool.true_and, Bool.false_and, Bool.and_true, Bool.and_false, Bool.not_true, Bool.not_false, and_self, true_and]; done)
      | (simp_all [W, itemOk]; done)
      | (simp_all [W, itemOk] <;> omega))

noncomputable def fs_szBroad : Fs := ⟨[], fun args H => match args, H with
  | [.agg [.vec 0], .int .i64 b], [(false, .vec .item xs)] => some (none, .int .i64 (szLeft b xs.length), [(false, .vec .item xs)])
  | _, _ => none⟩

theorem vc_szBroad (xs : List Item) (b : Int) (Q : SV → List Ent → Prop) :
    fnVC tt (look [(83, fs_lawsSzItemS)]) L0 Try.f21 [.agg [.vec 0], .int .i64 b] [(false, .vec .item xs)] Q =
    (ifB (decide (szLeft b (↑(List.length xs) : Int) < (0 : Int))) (Q (SV.int IntKind.i64 (-1 : Int)) [(false, Blk.vec Ty.item xs)]) (Q (SV.int IntKind.i64 (szLeft b (↑(List.length xs) : Int))) [(false, Blk.vec Ty.item xs)])) := by kernel_rfl

theorem ok_szBroad : FsOk Try.prog 21 fs_szBroad := fsOk_of tt_ok (tabFs_cons ok_lawsSzItemS tabFs_nil) mixed Try.func21 (by kernel_rfl) (by kernel_rfl) (by
    intro args LL p r HH h hp
    unfold fs_szBroad at h
    dsimp only at h
    split at h
    case h_2 => cases h
    rename_i b xs
    simp only [Option.some.injEq, Prod.mk.injEq] at h
    obtain ⟨rfl, rfl, rfl⟩ := h
    refine ⟨by simp [Form, stays], L0, ?_⟩
    rw [vc_szBroad]
    try dsimp only

    repeat' (first | refine ifB_of (fun _ => ?_) (fun _ => ?_) | refine pre_of ?_ (fun _ => ?_))
    all_goals first
      | rfl
      | (simp only [W, szLeft, *, cond_true, cond_false, Bool.true_and, Bool.false_and, Bool.and_true, Bool.and_false, Bool.not_true, Bool.not_false, and_self, true_and]; done)
      | (simp_all [W, szLeft]; done)
      | (simp_all [W, szLeft] <;> omega))

noncomputable def fs_lawsToBroad : Fs := ⟨[], fun args H => match args, H with
  | [.agg [.vec 0]], [(false, .vec .item xs)] => some ((some (xs.length ≤ 1048576)), .agg [.vec 1], [(false, .vec .item xs), (true, .vec .item xs)])
  | _, _ => none⟩

theorem vc_lawsToBroad (xs : List Item) (Q : SV → List Ent → Prop) :
    fnVC tt (look [(84, fs_lawsToItemS)]) L0 Try.f22 [.agg [.vec 0]] [(false, .vec .item xs)] Q =
    (List.length xs ≤ (1048576 : Nat) ∧ Q (SV.agg [SV.vec (1 : Nat)]) [(false, Blk.vec Ty.item xs), (true, Blk.vec Ty.item xs)]) := by kernel_rfl

theorem ok_lawsToBroad : FsOk Try.prog 22 fs_lawsToBroad := fsOk_of tt_ok (tabFs_cons ok_lawsToItemS tabFs_nil) mixed Try.func22 (by kernel_rfl) (by kernel_rfl) (by
    intro args LL p r HH h hp
    unfold fs_lawsToBroad at h
    dsimp only at h
    split at h
    case h_2 => cases h
    rename_i xs
    simp only [Option.some.injEq, Prod.mk.injEq] at h
    obtain ⟨rfl, rfl, rfl⟩ := h
    refine ⟨by simp [Form, stays], L0, ?_⟩
    rw [vc_lawsToBroad]
    try dsimp only
    have hb := hp _ rfl
    exact ⟨hb, rfl, rfl⟩)

noncomputable def fs_lawsEqBroad : Fs := ⟨[], fun args H => match args, H with
  | [.agg [.vec 0], .agg [.vec 1]], [(false, .vec .item xs), (false, .vec .item ys)] => some ((some (xs.length ≤ 4611686018427387904)), .bool (same xs ys), [(false, .vec .item xs), (false, .vec .item ys)])
  | _, _ => none⟩

theorem vc_lawsEqBroad (xs : List Item) (ys : List Item) (Q : SV → List Ent → Prop) :
    fnVC tt (look [(86, fs_lawsEqItemS)]) L0 Try.f24 [.agg [.vec 0], .agg [.vec 1]] [(false, .vec .item xs), (false, .vec .item ys)] Q =
    (List.length xs ≤ (4611686018427387904 : Nat) ∧ ifB (!same xs ys) (Q (SV.bool false) [(false, Blk.vec Ty.item xs), (false, Blk.vec Ty.item ys)]) (Q (SV.bool true) [(false, Blk.vec Ty.item xs), (false, Blk.vec Ty.item ys)])) := by kernel_rfl

theorem ok_lawsEqBroad : FsOk Try.prog 24 fs_lawsEqBroad := fsOk_of tt_ok (tabFs_cons ok_lawsEqItemS tabFs_nil) mixed Try.func24 (by kernel_rfl) (by kernel_rfl) (by
    intro args LL p r HH h hp
    unfold fs_lawsEqBroad at h
    dsimp only at h
    split at h
    case h_2 => cases h
    rename_i xs ys
    simp only [Option.some.injEq, Prod.mk.injEq] at h
    obtain ⟨rfl, rfl, rfl⟩ := h
    refine ⟨by simp [Form, stays], L0, ?_⟩
    rw [vc_lawsEqBroad]
    try dsimp only
    have hb := hp _ rfl
    refine ⟨hb, ?_⟩
    repeat' (first | refine ifB_of (fun _ => ?_) (fun _ => ?_) | refine pre_of ?_ (fun _ => ?_))
    all_goals first
      | rfl
      | (simp only [W, isIn, *, cond_true, cond_false, Bool.true_and, Bool.false_and, Bool.and_true, Bool.and_false, Bool.not_true, Bool.not_false, and_self, true_and]; done)
      | (simp_all [W, isIn]; done)
      | (simp_all [W, isIn] <;> omega))

noncomputable def fs_lawsMarkBroad : Fs := ⟨[true], fun args H => match args, H with
  | [.agg [.vec 0], .int .i64 k], [(true, .vec .item xs)] => some ((some (xs.length ≤ 1048576 ∧ 0 ≤ k ∧ k ≤ 1000000000000)), .int .i64 (k + 5 * xs.length), [(true, .vec .item (gen (fun e => mkItem (k + 5 * (e : Int))) xs.length))])
  | _, _ => none⟩

theorem vc_lawsMarkBroad (xs : List Item) (k : Int) (Q : SV → List Ent → Prop) :
    fnVC tt (look [(87, fs_lawsMarkItemS)]) L0 Try.f25 [.agg [.vec 0], .int .i64 k] [(true, .vec .item xs)] Q =
    ((List.length xs ≤ (1048576 : Nat) ∧ (0 : Int) ≤ k ∧ k ≤ (1000000000000 : Int)) ∧ Q (SV.int IntKind.i64 (k + (5 : Int) * (↑(List.length xs) : Int))) [(true, Blk.vec Ty.item (gen (fun e => mkItem (k + (5 : Int) * (↑e : Int))) (List.length xs)))]) := by kernel_rfl

theorem ok_lawsMarkBroad : FsOk Try.prog 25 fs_lawsMarkBroad := fsOk_of tt_ok (tabFs_cons ok_lawsMarkItemS tabFs_nil) mixed Try.func25 (by kernel_rfl) (by kernel_rfl) (by
    intro args LL p r HH h hp
    unfold fs_lawsMarkBroad at h
    dsimp only at h
    split at h
    case h_2 => cases h
    rename_i k xs
    simp only [Option.some.injEq, Prod.mk.injEq] at h
    obtain ⟨rfl, rfl, rfl⟩ := h
    refine ⟨by simp [Form, stays], L0, ?_⟩
    rw [vc_lawsMarkBroad]
    try dsimp only
    exact ⟨hp _ rfl, rfl, rfl⟩)

noncomputable def fs_lawsHeldBroad : Fs := ⟨[], fun args H => match args, H with
  | [.agg [.vec 0], .int .i64 k], [(false, .vec .item xs)] => some ((some (xs.length ≤ 1048576 ∧ 0 ≤ k ∧ k ≤ 1000000000000)), .int .i64 (bif same xs (gen (fun e => mkItem (k + 5 * (e : Int))) xs.length) then k + 5 * xs.length else -1), [(false, .vec .item xs)])
  | _, _ => none⟩

theorem vc_lawsHeldBroad (xs : List Item) (k : Int) (Q : SV → List Ent → Prop) :
    fnVC tt (look [(122, fs_lawsHeldItemS)]) L0 Try.f48 [.agg [.vec 0], .int .i64 k] [(false, .vec .item xs)] Q =
    ((List.length xs ≤ (1048576 : Nat) ∧ (0 : Int) ≤ k ∧ k ≤ (1000000000000 : Int)) ∧ ifB (decide ((bif same xs (gen (fun e => mkItem (k + (5 : Int) * (↑e : Int))) (List.length xs)) then k + (5 : Int) * (↑(List.length xs) : Int) else (-1 : Int)) < (0 : Int))) (Q (SV.int IntKind.i64 (-1 : Int)) [(false, Blk.vec Ty.item xs)]) (Q (SV.int IntKind.i64 (bif same xs (gen (fun e => mkItem (k + (5 : Int) * (↑e : Int))) (List.length xs)) then k + (5 : Int) * (↑(List.length xs) : Int) else (-1 : Int))) [(false, Blk.vec Ty.item xs)])) := by kernel_rfl

theorem ok_lawsHeldBroad : FsOk Try.prog 48 fs_lawsHeldBroad := fsOk_of tt_ok (tabFs_cons ok_lawsHeldItemS tabFs_nil) mixed Try.func48 (by kernel_rfl) (by kernel_rfl) (by
    intro args LL p r HH h hp
    unfold fs_lawsHeldBroad at h
    dsimp only at h
    split at h
    case h_2 => cases h
    rename_i k xs
    simp only [Option.some.injEq, Prod.mk.injEq] at h
    obtain ⟨rfl, rfl, rfl⟩ := h
    refine ⟨by simp [Form, stays], L0, ?_⟩
    rw [vc_lawsHeldBroad]
    try dsimp only
    obtain ⟨hb, hk0, hk1⟩ := hp _ rfl
    refine ⟨⟨hb, hk0, hk1⟩, ?_⟩
    cases h : same xs (gen (fun e => mkItem (k + 5 * (e : Int))) xs.length) with
    | true =>
      refine ifB_of (fun c => ?_) (fun c => ?_)
      · simp at c; omega
      · exact ⟨rfl, rfl⟩
    | false => exact ⟨rfl, rfl⟩)

theorem szLeft_le {n : Nat} (c : decide (szLeft 1048576 (n : Int) < 0) = false) (hb : n ≤ 9223372036854775807) : n ≤ 1048576 := by
  have c := of_decide_eq_false c
  have hw : W (1048576 - (n : Int)) = 1048576 - (n : Int) := wrap_small (by omega) (by omega)
  simp only [szLeft, hw] at c
  split at c <;> omega
theorem fin_items {xs : List Item} : itemsOk xs = (allTo (itemAt xs) xs.length && decide ((xs.length : Int) ≤ 24)) := by
  unfold itemsOk
  congr 1
  rw [decide_eq_decide]
  omega
def LSspecBroadOk (xs : List Item) : LS where
  S := List Item × Unit × Int
  live := [(1, [none]), (3, [none])]
  shape := fun s => ([.ptr 1 0 0, .int .i64 s.2.2], [(false, .vec .item s.1), (true, .box [.vec 0])])
  get := fun v h => match v, h with
    | [.ptr 1 0 0, .int .i64 i], [(false, .vec .item xs'), (true, .box [.vec 0])] => some (xs', (), i)
    | _, _ => none
  inv := fun s0 s => Holds (s.1 = xs ∧ 0 ≤ s.2.2 ∧ s.2.2 ≤ xs.length ∧ allTo (itemAt xs) s.2.2.toNat = true ∧ xs.length < 4611686018427387904)
  mu := fun s => ((xs.length : Int) - s.2.2).toNat
  ok := by
    intro v h s hg
    try dsimp only at hg
    split at hg <;> cases hg
    rfl

def L_specBroadOk (xs : List Item) : Loops := fun n => match n with
  | 2 => some (LSspecBroadOk xs)
  | _ => none
noncomputable def fs_specBroadOk : Fs := ⟨[], fun args H => match args, H with
  | [.agg [.vec 0]], [(false, .vec .item xs)] => some ((some (xs.length ≤ 1048576)), .bool (itemsOk xs), [(false, .vec .item xs)])
  | _, _ => none⟩

theorem vc_specBroadOk (xs : List Item) (Q : SV → List Ent → Prop) :
    fnVC tt (look [(80, fs_l1In), (81, fs_specBoxOk)]) (L_specBroadOk xs) Try.f19 [.agg [.vec 0]] [(false, .vec .item xs)] Q =
    (Holds (xs = xs ∧ (0 : Int) ≤ (0 : Int) ∧ (0 : Int) ≤ (↑(List.length xs) : Int) ∧ allTo (itemAt xs) (Int.toNat (0 : Int)) = true ∧ List.length xs < (4611686018427387904 : Nat)) ∧ ∀ (x : List Item × Unit × Int), Holds (Prod.fst x = xs ∧ (0 : Int) ≤ Prod.snd (Prod.snd x) ∧ Prod.snd (Prod.snd x) ≤ (↑(List.length xs) : Int) ∧ allTo (itemAt xs) (Int.toNat (Prod.snd (Prod.snd x))) = true ∧ List.length xs < (4611686018427387904 : Nat)) → ifB (decide (Prod.snd (Prod.snd x) < (↑(List.length (Prod.fst x)) : Int))) (((0 : Int) ≤ Prod.snd (Prod.snd x) ∧ Prod.snd (Prod.snd x) < (↑(List.length (Prod.fst x)) : Int)) ∧ ifB (!isIn (Item.Id (Ty.ix Ty.item (Prod.fst x) (Int.toNat (Prod.snd (Prod.snd x))))) (0 : Int) (1000000000 : Int)) (Q (SV.bool false) [(false, Blk.vec Ty.item (Prod.fst x))]) (((0 : Int) ≤ Prod.snd (Prod.snd x) ∧ Prod.snd (Prod.snd x) < (↑(List.length (Prod.fst x)) : Int)) ∧ ifB (!boxOk (Item.Box (Ty.ix Ty.item (Prod.fst x) (Int.toNat (Prod.snd (Prod.snd x)))))) (Q (SV.bool false) [(false, Blk.vec Ty.item (Prod.fst x))]) (ifB (decide (Prod.snd (Prod.snd x) > (0 : Int))) (((0 : Int) ≤ IntKind.wrap IntKind.i64 (Prod.snd (Prod.snd x) - (1 : Int)) ∧ IntKind.wrap IntKind.i64 (Prod.snd (Prod.snd x) - (1 : Int)) < (↑(List.length (Prod.fst x)) : Int)) ∧ ((0 : Int) ≤ Prod.snd (Prod.snd x) ∧ Prod.snd (Prod.snd x) < (↑(List.length (Prod.fst x)) : Int)) ∧ ifB (decide (Item.Id (Ty.ix Ty.item (Prod.fst x) (Int.toNat (IntKind.wrap IntKind.i64 (Prod.snd (Prod.snd x) - (1 : Int))))) ≥ Item.Id (Ty.ix Ty.item (Prod.fst x) (Int.toNat (Prod.snd (Prod.snd x)))))) (Q (SV.bool false) [(false, Blk.vec Ty.item (Prod.fst x))]) (Holds (Prod.fst x = xs ∧ (0 : Int) ≤ IntKind.wrap IntKind.i64 (Prod.snd (Prod.snd x) + (1 : Int)) ∧ IntKind.wrap IntKind.i64 (Prod.snd (Prod.snd x) + (1 : Int)) ≤ (↑(List.length xs) : Int) ∧ allTo (itemAt xs) (Int.toNat (IntKind.wrap IntKind.i64 (Prod.snd (Prod.snd x) + (1 : Int)))) = true ∧ List.length xs < (4611686018427387904 : Nat)) ∧ Int.toNat ((↑(List.length xs) : Int) - IntKind.wrap IntKind.i64 (Prod.snd (Prod.snd x) + (1 : Int))) < Int.toNat ((↑(List.length xs) : Int) - Prod.snd (Prod.snd x)))) (Holds (Prod.fst x = xs ∧ (0 : Int) ≤ IntKind.wrap IntKind.i64 (Prod.snd (Prod.snd x) + (1 : Int)) ∧ IntKind.wrap IntKind.i64 (Prod.snd (Prod.snd x) + (1 : Int)) ≤ (↑(List.length xs) : Int) ∧ allTo (itemAt xs) (Int.toNat (IntKind.wrap IntKind.i64 (Prod.snd (Prod.snd x) + (1 : Int)))) = true ∧ List.length xs < (4611686018427387904 : Nat)) ∧ Int.toNat ((↑(List.length xs) : Int) - IntKind.wrap IntKind.i64 (Prod.snd (Prod.snd x) + (1 : Int))) < Int.toNat ((↑(List.length xs) : Int) - Prod.snd (Prod.snd x)))))) (Q (SV.bool (decide ((↑(List.length (Prod.fst x)) : Int) ≤ (24 : Int)))) [(false, Blk.vec Ty.item (Prod.fst x))])) := by kernel_rfl

theorem ok_specBroadOk : FsOk Try.prog 19 fs_specBroadOk := fsOk_of tt_ok (tabFs_cons ok_l1In (tabFs_cons ok_specBoxOk tabFs_nil)) mixed Try.func19 (by kernel_rfl) (by kernel_rfl) (by
    intro args LL p r HH h hp
    unfold fs_specBroadOk at h
    dsimp only at h
    split at h
    case h_2 => cases h
    rename_i xs
    simp only [Option.some.injEq, Prod.mk.injEq] at h
    obtain ⟨rfl, rfl, rfl⟩ := h
    refine ⟨by simp [Form, stays], (L_specBroadOk xs), ?_⟩
    rw [vc_specBroadOk]
    try dsimp only
    have hb := hp _ rfl
    refine ⟨⟨rfl, by omega, by omega, rfl, by omega⟩, ?_⟩
    rintro ⟨xs', u, i⟩ ⟨h⟩
    obtain ⟨rfl, h0, h1, h3, _⟩ := h
    dsimp only at hb h0 h1 h3 ⊢
    refine ifB_of (fun c => ?_) (fun c => ?_)
    · have hi : i < xs'.length := of_decide_eq_true c
      have hw1 : IntKind.i64.wrap (i + 1) = i + 1 := wrap_small (by omega) (by omega)
      have hw2 : IntKind.i64.wrap (i - 1) = i - 1 := wrap_small (by omega) (by omega)
      have e1 : (i + 1).toNat = i.toNat + 1 := by omega
      have e2 : (i - 1).toNat = i.toNat - 1 := by omega
      have fl : itemAt xs' i.toNat = false → itemsOk xs' = false := fun h => by simp [itemsOk, allTo_false h (show i.toNat < xs'.length by omega)]
      have nx : itemAt xs' i.toNat = true → allTo (itemAt xs') (i.toNat + 1) = true := fun h => by simp [allTo, h3, h]
      rw [hw1, hw2, e1, e2]
      refine ⟨⟨h0, hi⟩, ifB_of (fun c1 => ?_) (fun c1 => ?_)⟩
      · rw [fl (by simp_all [itemAt, itemOk])]
        exact ⟨rfl, rfl⟩
      refine ⟨⟨h0, hi⟩, ifB_of (fun c2 => ?_) (fun c2 => ?_)⟩
      · rw [fl (by simp_all [itemAt, itemOk])]
        exact ⟨rfl, rfl⟩
      refine ifB_of (fun c3 => ?_) (fun c3 => ?_)
      · have c3 : i > 0 := of_decide_eq_true c3
        have hne : ¬ i.toNat = 0 := by omega
        refine ⟨⟨by omega, by omega⟩, ⟨h0, hi⟩, ifB_of (fun c4 => ?_) (fun c4 => ?_)⟩
        · have c4 := of_decide_eq_true c4
          rw [fl (by simp only [itemAt]; simp [hne]; intro _; omega)]
          exact ⟨rfl, rfl⟩
        · have c4 := of_decide_eq_false c4
          refine ⟨⟨rfl, by omega, by omega, nx ?_, by omega⟩, by omega⟩
          have c1 : isIn (Ty.ix .item xs' i.toNat).Id 0 1000000000 = true := by simpa using c1
          have c2 : boxOk (Ty.ix .item xs' i.toNat).Box = true := by simpa using c2
          simp only [itemAt, itemOk, c1, c2]
          simp [hne]
          omega
      · have c3 : ¬ i > 0 := of_decide_eq_false c3
        have hz : i.toNat = 0 := by omega
        refine ⟨⟨rfl, by omega, by omega, nx ?_, by omega⟩, by omega⟩
        have c1 : isIn (Ty.ix .item xs' i.toNat).Id 0 1000000000 = true := by simpa using c1
        have c2 : boxOk (Ty.ix .item xs' i.toNat).Box = true := by simpa using c2
        simp only [itemAt, itemOk, c1, c2]
        simp [hz]
    · have hi : ¬ i < xs'.length := of_decide_eq_false c
      have e1 : i.toNat = xs'.length := by omega
      rw [e1] at h3
      rw [fin_items, h3]
      exact ⟨rfl, rfl⟩)

def LSimplBroadOk (xs : List Item) : LS where
  S := List Item × Unit × Unit × Int × Int
  live := [(1, [none]), (6, [none]), (7, [none]), (8, [none])]
  shape := fun s => ([.ptr 1 0 0, .vec 0, .int .i64 s.2.2.2.1, .int .i64 s.2.2.2.2], [(false, .vec .item s.1), (true, .box [.vec 0])])
  get := fun v h => match v, h with
    | [.ptr 1 0 0, .vec 0, .int .i64 n, .int .i64 i], [(false, .vec .item xs'), (true, .box [.vec 0])] => some (xs', (), (), n, i)
    | _, _ => none
  inv := fun s0 s => Holds (s.1 = xs ∧ s.2.2.2.1 = xs.length ∧ 0 ≤ s.2.2.2.2 ∧ s.2.2.2.2 ≤ xs.length ∧ allTo (itemAt xs) s.2.2.2.2.toNat = true ∧ xs.length < 4611686018427387904)
  mu := fun s => ((xs.length : Int) - s.2.2.2.2).toNat
  ok := by
    intro v h s hg
    try dsimp only at hg
    split at hg <;> cases hg
    rfl

def L_implBroadOk (xs : List Item) : Loops := fun n => match n with
  | 2 => some (LSimplBroadOk xs)
  | _ => none
noncomputable def fs_implBroadOk : Fs := ⟨[], fun args H => match args, H with
  | [.agg [.vec 0]], [(false, .vec .item xs)] => some ((some (xs.length ≤ 1048576)), .bool (itemsOk xs), [(false, .vec .item xs)])
  | _, _ => none⟩

theorem vc_implBroadOk (xs : List Item) (Q : SV → List Ent → Prop) :
    fnVC tt (look [(118, fs_implItemOk)]) (L_implBroadOk xs) Try.f53 [.agg [.vec 0]] [(false, .vec .item xs)] Q =
    (Holds (xs = xs ∧ (↑(List.length xs) : Int) = (↑(List.length xs) : Int) ∧ (0 : Int) ≤ (0 : Int) ∧ (0 : Int) ≤ (↑(List.length xs) : Int) ∧ allTo (itemAt xs) (Int.toNat (0 : Int)) = true ∧ List.length xs < (4611686018427387904 : Nat)) ∧ ∀ (x : List Item × Unit × Unit × Int × Int), Holds (Prod.fst x = xs ∧ Prod.fst (Prod.snd (Prod.snd (Prod.snd x))) = (↑(List.length xs) : Int) ∧ (0 : Int) ≤ Prod.snd (Prod.snd (Prod.snd (Prod.snd x))) ∧ Prod.snd (Prod.snd (Prod.snd (Prod.snd x))) ≤ (↑(List.length xs) : Int) ∧ allTo (itemAt xs) (Int.toNat (Prod.snd (Prod.snd (Prod.snd (Prod.snd x))))) = true ∧ List.length xs < (4611686018427387904 : Nat)) → ifB (decide (Prod.snd (Prod.snd (Prod.snd (Prod.snd x))) < Prod.fst (Prod.snd (Prod.snd (Prod.snd x))))) (((0 : Int) ≤ Prod.snd (Prod.snd (Prod.snd (Prod.snd x))) ∧ Prod.snd (Prod.snd (Prod.snd (Prod.snd x))) < (↑(List.length (Prod.fst x)) : Int)) ∧ ifB (!itemOk (Ty.ix Ty.item (Prod.fst x) (Int.toNat (Prod.snd (Prod.snd (Prod.snd (Prod.snd x))))))) (Q (SV.bool false) [(false, Blk.vec Ty.item (Prod.fst x))]) (ifB (decide (Prod.snd (Prod.snd (Prod.snd (Prod.snd x))) > (0 : Int))) (((0 : Int) ≤ IntKind.wrap IntKind.i64 (Prod.snd (Prod.snd (Prod.snd (Prod.snd x))) - (1 : Int)) ∧ IntKind.wrap IntKind.i64 (Prod.snd (Prod.snd (Prod.snd (Prod.snd x))) - (1 : Int)) < (↑(List.length (Prod.fst x)) : Int)) ∧ ifB (decide (Item.Id (Ty.ix Ty.item (Prod.fst x) (Int.toNat (Prod.snd (Prod.snd (Prod.snd (Prod.snd x)))))) ≤ Item.Id (Ty.ix Ty.item (Prod.fst x) (Int.toNat (IntKind.wrap IntKind.i64 (Prod.snd (Prod.snd (Prod.snd (Prod.snd x))) - (1 : Int))))))) (Q (SV.bool false) [(false, Blk.vec Ty.item (Prod.fst x))]) (Holds (Prod.fst x = xs ∧ Prod.fst (Prod.snd (Prod.snd (Prod.snd x))) = (↑(List.length xs) : Int) ∧ (0 : Int) ≤ IntKind.wrap IntKind.i64 (Prod.snd (Prod.snd (Prod.snd (Prod.snd x))) + (1 : Int)) ∧ IntKind.wrap IntKind.i64 (Prod.snd (Prod.snd (Prod.snd (Prod.snd x))) + (1 : Int)) ≤ (↑(List.length xs) : Int) ∧ allTo (itemAt xs) (Int.toNat (IntKind.wrap IntKind.i64 (Prod.snd (Prod.snd (Prod.snd (Prod.snd x))) + (1 : Int)))) = true ∧ List.length xs < (4611686018427387904 : Nat)) ∧ Int.toNat ((↑(List.length xs) : Int) - IntKind.wrap IntKind.i64 (Prod.snd (Prod.snd (Prod.snd (Prod.snd x))) + (1 : Int))) < Int.toNat ((↑(List.length xs) : Int) - Prod.snd (Prod.snd (Prod.snd (Prod.snd x)))))) (Holds (Prod.fst x = xs ∧ Prod.fst (Prod.snd (Prod.snd (Prod.snd x))) = (↑(List.length xs) : Int) ∧ (0 : Int) ≤ IntKind.wrap IntKind.i64 (Prod.snd (Prod.snd (Prod.snd (Prod.snd x))) + (1 : Int)) ∧ IntKind.wrap IntKind.i64 (Prod.snd (Prod.snd (Prod.snd (Prod.snd x))) + (1 : Int)) ≤ (↑(List.length xs) : Int) ∧ allTo (itemAt xs) (Int.toNat (IntKind.wrap IntKind.i64 (Prod.snd (Prod.snd (Prod.snd (Prod.snd x))) + (1 : Int)))) = true ∧ List.length xs < (4611686018427387904 : Nat)) ∧ Int.toNat ((↑(List.length xs) : Int) - IntKind.wrap IntKind.i64 (Prod.snd (Prod.snd (Prod.snd (Prod.snd x))) + (1 : Int))) < Int.toNat ((↑(List.length xs) : Int) - Prod.snd (Prod.snd (Prod.snd (Prod.snd x))))))) (Q (SV.bool (decide ((↑(List.length (Prod.fst x)) : Int) ≤ (24 : Int)))) [(false, Blk.vec Ty.item (Prod.fst x))])) := by kernel_rfl

theorem ok_implBroadOk : FsOk Try.prog 53 fs_implBroadOk := fsOk_of tt_ok (tabFs_cons ok_implItemOk tabFs_nil) mixed Try.func53 (by kernel_rfl) (by kernel_rfl) (by
    intro args LL p r HH h hp
    unfold fs_implBroadOk at h
    dsimp only at h
    split at h
    case h_2 => cases h
    rename_i xs
    simp only [Option.some.injEq, Prod.mk.injEq] at h
    obtain ⟨rfl, rfl, rfl⟩ := h
    refine ⟨by simp [Form, stays], (L_implBroadOk xs), ?_⟩
    rw [vc_implBroadOk]
    try dsimp only
    have hb := hp _ rfl
    refine ⟨⟨rfl, rfl, by omega, by omega, rfl, by omega⟩, ?_⟩
    rintro ⟨xs', u, v, n, i⟩ ⟨h⟩
    obtain ⟨rfl, h4, h0, h1, h3, _⟩ := h
    dsimp only at hb h0 h1 h3 h4 ⊢
    subst h4
    refine ifB_of (fun c => ?_) (fun c => ?_)
    · have hi : i < xs'.length := of_decide_eq_true c
      have hw1 : IntKind.i64.wrap (i + 1) = i + 1 := wrap_small (by omega) (by omega)
      have hw2 : IntKind.i64.wrap (i - 1) = i - 1 := wrap_small (by omega) (by omega)
      have e1 : (i + 1).toNat = i.toNat + 1 := by omega
      have e2 : (i - 1).toNat = i.toNat - 1 := by omega
      have fl : itemAt xs' i.toNat = false → itemsOk xs' = false := fun h => by simp [itemsOk, allTo_false h (show i.toNat < xs'.length by omega)]
      have nx : itemAt xs' i.toNat = true → allTo (itemAt xs') (i.toNat + 1) = true := fun h => by simp [allTo, h3, h]
      rw [hw1, hw2, e1, e2]
      refine ⟨⟨h0, hi⟩, ifB_of (fun c1 => ?_) (fun c1 => ?_)⟩
      · rw [fl (by simp_all [itemAt])]
        exact ⟨rfl, rfl⟩
      have c1 : itemOk (Ty.ix .item xs' i.toNat) = true := by simpa using c1
      refine ifB_of (fun c3 => ?_) (fun c3 => ?_)
      · have c3 : i > 0 := of_decide_eq_true c3
        have hne : ¬ i.toNat = 0 := by omega
        refine ⟨⟨by omega, by omega⟩, ifB_of (fun c4 => ?_) (fun c4 => ?_)⟩
        · have c4 := of_decide_eq_true c4
          rw [fl (by simp only [itemAt]; simp [hne]; intro _; omega)]
          exact ⟨rfl, rfl⟩
        · have c4 := of_decide_eq_false c4
          refine ⟨⟨rfl, rfl, by omega, by omega, nx ?_, by omega⟩, by omega⟩
          simp only [itemAt, c1]
          simp [hne]
          omega
      · have c3 : ¬ i > 0 := of_decide_eq_false c3
        have hz : i.toNat = 0 := by omega
        refine ⟨⟨rfl, rfl, by omega, by omega, nx ?_, by omega⟩, by omega⟩
        simp only [itemAt, c1]
        simp [hz]
    · have hi : ¬ i < xs'.length := of_decide_eq_false c
      have e1 : i.toNat = xs'.length := by omega
      rw [e1] at h3
      rw [fin_items, h3]
      exact ⟨rfl, rfl⟩)


def boxMeets (a b : Box) : Bool := decide (a.Low.X ≤ b.High.X) && decide (b.Low.X ≤ a.High.X) && decide (a.Low.Y ≤ b.High.Y) && decide (b.Low.Y ≤ a.High.Y)
noncomputable def fs_implMeets : Fs := ⟨[], fun args H => match args, H with
  | [.agg [.int .i64 aLX, .int .i64 aLY, .int .i64 aHX, .int .i64 aHY], .agg [.int .i64 bLX, .int .i64 bLY, .int .i64 bHX, .int .i64 bHY]], [] => some (none, .bool (boxMeets (Box.mk (Vec.mk aLX aLY) (Vec.mk aHX aHY)) (Box.mk (Vec.mk bLX bLY) (Vec.mk bHX bHY))), [])
  | _, _ => none⟩

theorem vc_implMeets (aLX : Int) (aLY : Int) (aHX : Int) (aHY : Int) (bLX : Int) (bLY : Int) (bHX : Int) (bHY : Int) (Q : SV → List Ent → Prop) :
    fnVC tt (look []) L0 Try.f82 [.agg [.int .i64 aLX, .int .i64 aLY, .int .i64 aHX, .int .i64 aHY], .agg [.int .i64 bLX, .int .i64 bLY, .int .i64 bHX, .int .i64 bHY]] [] Q =
    (ifB (decide (aLX ≤ bHX)) (ifB (decide (bLX ≤ aHX)) (ifB (decide (aLY ≤ bHY)) (Q (SV.bool (decide (bLY ≤ aHY))) []) (Q (SV.bool false) [])) (Q (SV.bool false) [])) (Q (SV.bool false) [])) := by kernel_rfl

theorem ok_implMeets : FsOk Try.prog 82 fs_implMeets := fsOk_of tt_ok tabFs_nil mixed Try.func82 (by kernel_rfl) (by kernel_rfl) (by
    intro args LL p r HH h hp
    unfold fs_implMeets at h
    dsimp only at h
    split at h
    case h_2 => cases h
    rename_i aLX aLY aHX aHY bLX bLY bHX bHY
    simp only [Option.some.injEq, Prod.mk.injEq] at h
    obtain ⟨rfl, rfl, rfl⟩ := h
    refine ⟨by simp [Form, stays], L0, ?_⟩
    rw [vc_implMeets]
    try dsimp only

    repeat' (first | refine ifB_of (fun _ => ?_) (fun _ => ?_) | refine pre_of ?_ (fun _ => ?_))
    all_goals first
      | rfl
      | (simp only [W, boxMeets, *, cond_true, cond_false, Bool.true_and, Bool.false_and, Bool.and_true, Bool.and_false, Bool.not_true, Bool.not_false, and_self, true_and]; done)
      | (simp_all [W, boxMeets]; done)
      | (simp_all [W, boxMeets] <;> omega))

noncomputable def fs_l3Meets : Fs := ⟨[], fun args H => match args, H with
  | [.agg [.int .i64 aLX, .int .i64 aLY, .int .i64 aHX, .int .i64 aHY], .agg [.int .i64 bLX, .int .i64 bLY, .int .i64 bHX, .int .i64 bHY]], [] => some (none, .bool (boxMeets (Box.mk (Vec.mk aLX aLY) (Vec.mk aHX aHY)) (Box.mk (Vec.mk bLX bLY) (Vec.mk bHX bHY))), [])
  | _, _ => none⟩

theorem vc_l3Meets (aLX : Int) (aLY : Int) (aHX : Int) (aHY : Int) (bLX : Int) (bLY : Int) (bHX : Int) (bHY : Int) (Q : SV → List Ent → Prop) :
    fnVC tt (look []) L0 Try.f137 [.agg [.int .i64 aLX, .int .i64 aLY, .int .i64 aHX, .int .i64 aHY], .agg [.int .i64 bLX, .int .i64 bLY, .int .i64 bHX, .int .i64 bHY]] [] Q =
    (ifB (decide (aLX ≤ bHX)) (ifB (decide (bLX ≤ aHX)) (ifB (decide (aLY ≤ bHY)) (Q (SV.bool (decide (bLY ≤ aHY))) []) (Q (SV.bool false) [])) (Q (SV.bool false) [])) (Q (SV.bool false) [])) := by kernel_rfl

theorem ok_l3Meets : FsOk Try.prog 137 fs_l3Meets := fsOk_of tt_ok tabFs_nil mixed Try.func137 (by kernel_rfl) (by kernel_rfl) (by
    intro args LL p r HH h hp
    unfold fs_l3Meets at h
    dsimp only at h
    split at h
    case h_2 => cases h
    rename_i aLX aLY aHX aHY bLX bLY bHX bHY
    simp only [Option.some.injEq, Prod.mk.injEq] at h
    obtain ⟨rfl, rfl, rfl⟩ := h
    refine ⟨by simp [Form, stays], L0, ?_⟩
    rw [vc_l3Meets]
    try dsimp only

    repeat' (first | refine ifB_of (fun _ => ?_) (fun _ => ?_) | refine pre_of ?_ (fun _ => ?_))
    all_goals first
      | rfl
      | (simp only [W, boxMeets, *, cond_true, cond_false, Bool.true_and, Bool.false_and, Bool.and_true, Bool.and_false, Bool.not_true, Bool.not_false, and_self, true_and]; done)
      | (simp_all [W, boxMeets]; done)
      | (simp_all [W, boxMeets] <;> omega))


/-! ### All that meet a box -/
def askF (x : Box) (xs : List Item) : List Int := (xs.filter fun y => boxMeets y.Box x).map (·.Id)
def broadAsk (xs : List Item) (x : Box) : List Int := bif itemsOk xs && boxOk x then askF x xs else []
theorem length_askF (x : Box) (xs : List Item) : (askF x xs).length ≤ xs.length := by
  simp only [askF, List.length_map]
  exact List.length_filter_le _ _
theorem drop_ix {T : Ty} {xs : List T.El} {i : Nat} (h : i < xs.length) : xs.drop i = T.ix xs i :: xs.drop (i + 1) := by
  rw [List.drop_eq_getElem_cons h]
  congr 1
  simp [Ty.ix, List.getD, h]
theorem askF_drop {x : Box} {xs : List Item} {i : Nat} (h : i < xs.length) : askF x (xs.drop i) = (bif boxMeets (Ty.ix .item xs i).Box x then [(Ty.ix .item xs i).Id] else []) ++ askF x (xs.drop (i + 1)) := by
  rw [drop_ix (T := .item) h]
  cases c : boxMeets (Ty.ix .item xs i).Box x <;> simp [askF, c]
theorem itemsOk_len {xs : List Item} (h : itemsOk xs = true) : xs.length ≤ 24 := by
  simp only [itemsOk, Bool.and_eq_true, decide_eq_true_eq] at h
  exact h.2
def LSimplBroadAsk  : LS where
  S := List Item × Box × List Int × Unit × Int × Int
  live := [(3, [none]), (5, [some .int]), (17, [none]), (18, [none]), (19, [none])]
  shape := fun s => ([.ptr 1 0 0, .vec 2, .vec 0, .int .i64 s.2.2.2.2.1, .int .i64 s.2.2.2.2.2], [(false, .vec .item s.1), (true, .box [.int .i64 s.2.1.Low.X, .int .i64 s.2.1.Low.Y, .int .i64 s.2.1.High.X, .int .i64 s.2.1.High.Y]), (true, .vec .int s.2.2.1)])
  get := fun v h => match v, h with
    | [.ptr 1 0 0, .vec 2, .vec 0, .int .i64 n, .int .i64 i], [(false, .vec .item xs), (true, .box [.int .i64 xLX, .int .i64 xLY, .int .i64 xHX, .int .i64 xHY]), (true, .vec .int out)] => some (xs, (Box.mk (Vec.mk xLX xLY) (Vec.mk xHX xHY)), out, (), n, i)
    | _, _ => none
  inv := fun s0 s => Holds (s.1 = s0.1 ∧ s.2.1 = s0.2.1 ∧ s.2.2.2.2.1 = s0.1.length ∧ 0 ≤ s.2.2.2.2.2 ∧ s.2.2.2.2.2 ≤ s0.1.length ∧ s.2.2.1 ++ askF s0.2.1 (s0.1.drop s.2.2.2.2.2.toNat) = askF s0.2.1 s0.1)
  mu := fun s => ((s.1.length : Int) - s.2.2.2.2.2).toNat
  ok := by
    intro v h s hg
    try dsimp only at hg
    split at hg <;> cases hg
    rfl

def L_implBroadAsk : Loops := fun n => match n with
  | 5 => some LSimplBroadAsk
  | _ => none
theorem not_true {b : Bool} (h : (!b) = true) : b = false := by simpa using h
theorem not_false {b : Bool} (h : (!b) = false) : b = true := by simpa using h
theorem drop_end {α : Type} {xs : List α} {i : Nat} (h : xs.length ≤ i) : xs.drop i = [] := List.drop_eq_nil_of_le h
noncomputable def fs_implBroadAsk : Fs := ⟨[], fun args H => match args, H with
  | [.agg [.vec 0], .agg [.int .i64 a, .int .i64 b, .int .i64 c, .int .i64 d]], [(false, .vec .item xs)] => some ((some (xs.length ≤ 1048576)), .vec 1, [(false, .vec .item xs), (true, .vec .int (broadAsk xs ⟨⟨a, b⟩, ⟨c, d⟩⟩))])
  | _, _ => none⟩

theorem vc_implBroadAsk (xs : List Item) (a : Int) (b : Int) (c : Int) (d : Int) (Q : SV → List Ent → Prop) :
    fnVC tt (look [(53, fs_implBroadOk), (105, fs_implBoxOk), (82, fs_implMeets)]) (L_implBroadAsk) Try.f56 [.agg [.vec 0], .agg [.int .i64 a, .int .i64 b, .int .i64 c, .int .i64 d]] [(false, .vec .item xs)] Q =
    (List.length xs ≤ (1048576 : Nat) ∧ ifB (!itemsOk xs) (Q (SV.vec (1 : Nat)) [(false, Blk.vec Ty.item xs), (true, Blk.vec Ty.int [])]) (ifB (!boxOk (Box.mk (Vec.mk a b) (Vec.mk c d))) (Q (SV.vec (1 : Nat)) [(false, Blk.vec Ty.item xs), (true, Blk.vec Ty.int [])]) (Holds (xs = xs ∧ Box.mk (Vec.mk a b) (Vec.mk c d) = Box.mk (Vec.mk a b) (Vec.mk c d) ∧ (↑(List.length xs) : Int) = (↑(List.length xs) : Int) ∧ (0 : Int) ≤ (0 : Int) ∧ (0 : Int) ≤ (↑(List.length xs) : Int) ∧ [] ++ askF (Box.mk (Vec.mk a b) (Vec.mk c d)) (List.drop (Int.toNat (0 : Int)) xs) = askF (Box.mk (Vec.mk a b) (Vec.mk c d)) xs) ∧ ∀ (x : List Item × Box × List Int × Unit × Int × Int), Holds (Prod.fst x = xs ∧ Prod.fst (Prod.snd x) = Box.mk (Vec.mk a b) (Vec.mk c d) ∧ Prod.fst (Prod.snd (Prod.snd (Prod.snd (Prod.snd x)))) = (↑(List.length xs) : Int) ∧ (0 : Int) ≤ Prod.snd (Prod.snd (Prod.snd (Prod.snd (Prod.snd x)))) ∧ Prod.snd (Prod.snd (Prod.snd (Prod.snd (Prod.snd x)))) ≤ (↑(List.length xs) : Int) ∧ Prod.fst (Prod.snd (Prod.snd x)) ++ askF (Box.mk (Vec.mk a b) (Vec.mk c d)) (List.drop (Int.toNat (Prod.snd (Prod.snd (Prod.snd (Prod.snd (Prod.snd x)))))) xs) = askF (Box.mk (Vec.mk a b) (Vec.mk c d)) xs) → ifB (decide (Prod.snd (Prod.snd (Prod.snd (Prod.snd (Prod.snd x)))) < Prod.fst (Prod.snd (Prod.snd (Prod.snd (Prod.snd x)))))) (((0 : Int) ≤ Prod.snd (Prod.snd (Prod.snd (Prod.snd (Prod.snd x)))) ∧ Prod.snd (Prod.snd (Prod.snd (Prod.snd (Prod.snd x)))) < (↑(List.length (Prod.fst x)) : Int)) ∧ ifB (boxMeets (Item.Box (Ty.ix Ty.item (Prod.fst x) (Int.toNat (Prod.snd (Prod.snd (Prod.snd (Prod.snd (Prod.snd x)))))))) (Prod.fst (Prod.snd x))) ((List.length (Prod.fst (Prod.snd (Prod.snd x))) + List.length [Item.Id (Ty.ix Ty.item (Prod.fst x) (Int.toNat (Prod.snd (Prod.snd (Prod.snd (Prod.snd (Prod.snd x)))))))]) * (8 : Nat) ≤ room ∧ Holds (Prod.fst x = xs ∧ Prod.fst (Prod.snd x) = Box.mk (Vec.mk a b) (Vec.mk c d) ∧ Prod.fst (Prod.snd (Prod.snd (Prod.snd (Prod.snd x)))) = (↑(List.length xs) : Int) ∧ (0 : Int) ≤ IntKind.wrap IntKind.i64 (Prod.snd (Prod.snd (Prod.snd (Prod.snd (Prod.snd x)))) + (1 : Int)) ∧ IntKind.wrap IntKind.i64 (Prod.snd (Prod.snd (Prod.snd (Prod.snd (Prod.snd x)))) + (1 : Int)) ≤ (↑(List.length xs) : Int) ∧ Prod.fst (Prod.snd (Prod.snd x)) ++ [Item.Id (Ty.ix Ty.item (Prod.fst x) (Int.toNat (Prod.snd (Prod.snd (Prod.snd (Prod.snd (Prod.snd x)))))))] ++ askF (Box.mk (Vec.mk a b) (Vec.mk c d)) (List.drop (Int.toNat (IntKind.wrap IntKind.i64 (Prod.snd (Prod.snd (Prod.snd (Prod.snd (Prod.snd x)))) + (1 : Int)))) xs) = askF (Box.mk (Vec.mk a b) (Vec.mk c d)) xs) ∧ Int.toNat ((↑(List.length (Prod.fst x)) : Int) - IntKind.wrap IntKind.i64 (Prod.snd (Prod.snd (Prod.snd (Prod.snd (Prod.snd x)))) + (1 : Int))) < Int.toNat ((↑(List.length (Prod.fst x)) : Int) - Prod.snd (Prod.snd (Prod.snd (Prod.snd (Prod.snd x)))))) (Holds (Prod.fst x = xs ∧ Prod.fst (Prod.snd x) = Box.mk (Vec.mk a b) (Vec.mk c d) ∧ Prod.fst (Prod.snd (Prod.snd (Prod.snd (Prod.snd x)))) = (↑(List.length xs) : Int) ∧ (0 : Int) ≤ IntKind.wrap IntKind.i64 (Prod.snd (Prod.snd (Prod.snd (Prod.snd (Prod.snd x)))) + (1 : Int)) ∧ IntKind.wrap IntKind.i64 (Prod.snd (Prod.snd (Prod.snd (Prod.snd (Prod.snd x)))) + (1 : Int)) ≤ (↑(List.length xs) : Int) ∧ Prod.fst (Prod.snd (Prod.snd x)) ++ askF (Box.mk (Vec.mk a b) (Vec.mk c d)) (List.drop (Int.toNat (IntKind.wrap IntKind.i64 (Prod.snd (Prod.snd (Prod.snd (Prod.snd (Prod.snd x)))) + (1 : Int)))) xs) = askF (Box.mk (Vec.mk a b) (Vec.mk c d)) xs) ∧ Int.toNat ((↑(List.length (Prod.fst x)) : Int) - IntKind.wrap IntKind.i64 (Prod.snd (Prod.snd (Prod.snd (Prod.snd (Prod.snd x)))) + (1 : Int))) < Int.toNat ((↑(List.length (Prod.fst x)) : Int) - Prod.snd (Prod.snd (Prod.snd (Prod.snd (Prod.snd x))))))) (Q (SV.vec (1 : Nat)) [(false, Blk.vec Ty.item (Prod.fst x)), (true, Blk.vec Ty.int (Prod.fst (Prod.snd (Prod.snd x))))])))) := by kernel_rfl

theorem ok_implBroadAsk : FsOk Try.prog 56 fs_implBroadAsk := fsOk_of tt_ok (tabFs_cons ok_implBroadOk (tabFs_cons ok_implBoxOk (tabFs_cons ok_implMeets tabFs_nil))) mixed Try.func56 (by kernel_rfl) (by kernel_rfl) (by
    intro args LL p r HH h hp
    unfold fs_implBroadAsk at h
    dsimp only at h
    split at h
    case h_2 => cases h
    rename_i a b c d xs
    simp only [Option.some.injEq, Prod.mk.injEq] at h
    obtain ⟨rfl, rfl, rfl⟩ := h
    refine ⟨by simp [Form, stays], (L_implBroadAsk), ?_⟩
    rw [vc_implBroadAsk]
    try dsimp only
    have hb := hp _ rfl
    refine ⟨hb, ifB_of (fun c1 => ?_) (fun c1 => ifB_of (fun c2 => ?_) (fun c2 => ?_))⟩
    · simp [broadAsk, not_true c1]
    · simp [broadAsk, not_true c2]
    have c1 := not_false c1
    have hl := itemsOk_len c1
    simp only [broadAsk, c1, not_false c2, Bool.and_true, cond_true]
    refine ⟨⟨(by trivial), (by trivial), (by trivial), by omega, by omega, rfl⟩, ?_⟩
    rintro ⟨xs', x, out, u, n, i⟩ ⟨h⟩
    dsimp only at h ⊢
    obtain ⟨rfl, rfl, rfl, h0, h1, h2⟩ := h
    have hs := length_askF ⟨⟨a, b⟩, ⟨c, d⟩⟩ xs'
    have hs2 := congrArg List.length h2
    rw [List.length_append] at hs2
    refine ifB_of (fun c3 => ?_) (fun c3 => ?_)
    · have hi := of_decide_eq_true c3
      have e1 : (i + 1).toNat = i.toNat + 1 := by omega
      rw [askF_drop (show i.toNat < xs'.length by omega)] at h2
      refine ⟨⟨h0, hi⟩, ifB_of (fun c4 => ?_) (fun c4 => ?_)⟩
      · rw [c4] at h2
        simp (disch := omega) only [wrap_small, e1]
        refine ⟨by simp only [room, List.length_singleton]; omega, ⟨(by trivial), (by trivial), (by trivial), by omega, by omega, ?_⟩, by omega⟩
        rw [← h2, List.append_assoc]
        rfl
      · rw [c4] at h2
        simp (disch := omega) only [wrap_small, e1]
        exact ⟨⟨(by trivial), (by trivial), (by trivial), by omega, by omega, h2⟩, by omega⟩
    · have hi := of_decide_eq_false c3
      rw [drop_end (by omega)] at h2
      rw [← h2]
      simp [askF])

def LSspecBroadAsk  : LS where
  S := List Item × Unit × Box × List Int × Int
  live := [(2, [none]), (3, [none]), (5, [some .int]), (6, [none])]
  shape := fun s => ([.ptr 1 0 0, .ptr 2 0 0, .vec 3, .int .i64 s.2.2.2.2], [(false, .vec .item s.1), (true, .box [.vec 0]), (true, .box [.int .i64 s.2.2.1.Low.X, .int .i64 s.2.2.1.Low.Y, .int .i64 s.2.2.1.High.X, .int .i64 s.2.2.1.High.Y]), (true, .vec .int s.2.2.2.1)])
  get := fun v h => match v, h with
    | [.ptr 1 0 0, .ptr 2 0 0, .vec 3, .int .i64 i], [(false, .vec .item xs), (true, .box [.vec 0]), (true, .box [.int .i64 xLX, .int .i64 xLY, .int .i64 xHX, .int .i64 xHY]), (true, .vec .int out)] => some (xs, (), (Box.mk (Vec.mk xLX xLY) (Vec.mk xHX xHY)), out, i)
    | _, _ => none
  inv := fun s0 s => Holds (s.1 = s0.1 ∧ s.2.2.1 = s0.2.2.1 ∧ 0 ≤ s.2.2.2.2 ∧ s.2.2.2.2 ≤ s0.1.length ∧ s.2.2.2.1 ++ askF s0.2.2.1 (s0.1.drop s.2.2.2.2.toNat) = askF s0.2.2.1 s0.1)
  mu := fun s => ((s.1.length : Int) - s.2.2.2.2).toNat
  ok := by
    intro v h s hg
    try dsimp only at hg
    split at hg <;> cases hg
    rfl

def L_specBroadAsk : Loops := fun n => match n with
  | 5 => some LSspecBroadAsk
  | _ => none

/-! ### All two that meet -/
def rowF (x : Item) (ys : List Item) : List Pair := (ys.filter fun y => boxMeets x.Box y.Box).map fun y => ⟨x.Id, y.Id⟩
def pairsF : List Item → List Pair
  | [] => []
  | x :: r => rowF x r ++ pairsF r
def broadPairs (xs : List Item) : List Pair := bif itemsOk xs then pairsF xs else []
theorem length_rowF (x : Item) (ys : List Item) : (rowF x ys).length ≤ ys.length := by
  simp only [rowF, List.length_map]
  exact List.length_filter_le _ _
theorem length_pairsF : ∀ xs : List Item, (pairsF xs).length ≤ xs.length * xs.length
  | [] => by simp [pairsF]
  | x :: r => by
    have h1 := length_rowF x r
    have h2 := length_pairsF r
    simp only [pairsF, List.length_append, List.length_cons, Nat.add_mul, Nat.mul_add, Nat.one_mul, Nat.mul_one]
    omega
theorem rowF_drop {x : Item} {xs : List Item} {i : Nat} (h : i < xs.length) : rowF x (xs.drop i) = (bif boxMeets x.Box (Ty.ix .item xs i).Box then [⟨x.Id, (Ty.ix .item xs i).Id⟩] else []) ++ rowF x (xs.drop (i + 1)) := by
  rw [drop_ix (T := .item) h]
  cases c : boxMeets x.Box (Ty.ix .item xs i).Box <;> simp [rowF, c]
theorem pairsF_drop {xs : List Item} {i : Nat} (h : i < xs.length) : pairsF (xs.drop i) = rowF (Ty.ix .item xs i) (xs.drop (i + 1)) ++ pairsF (xs.drop (i + 1)) := by
  rw [drop_ix (T := .item) h]
  rfl
theorem length_sq {n : Nat} (h : n ≤ 24) : n * n ≤ 576 := Nat.mul_le_mul h h
def LSl4Pairs1  : LS where
  S := List Item × Unit × List Pair × Int
  live := [(1, [none]), (3, [some .pair]), (4, [none])]
  shape := fun s => ([.ptr 1 0 0, .vec 2, .int .i64 s.2.2.2], [(false, .vec .item s.1), (true, .box [.vec 0]), (true, .vec .pair s.2.2.1)])
  get := fun v h => match v, h with
    | [.ptr 1 0 0, .vec 2, .int .i64 i], [(false, .vec .item xs), (true, .box [.vec 0]), (true, .vec .pair out)] => some (xs, (), out, i)
    | _, _ => none
  inv := fun s0 s => Holds (s.1 = s0.1 ∧ 0 ≤ s.2.2.2 ∧ s.2.2.2 ≤ s0.1.length ∧ s.2.2.1 ++ pairsF (s0.1.drop s.2.2.2.toNat) = pairsF s0.1)
  mu := fun s => ((s.1.length : Int) - s.2.2.2).toNat
  ok := by
    intro v h s hg
    try dsimp only at hg
    split at hg <;> cases hg
    rfl

def LSl4Pairs2  : LS where
  S := List Item × Unit × List Pair × Int × Int
  live := [(1, [none]), (3, [some .pair]), (4, [none]), (5, [none])]
  shape := fun s => ([.ptr 1 0 0, .vec 2, .int .i64 s.2.2.2.1, .int .i64 s.2.2.2.2], [(false, .vec .item s.1), (true, .box [.vec 0]), (true, .vec .pair s.2.2.1)])
  get := fun v h => match v, h with
    | [.ptr 1 0 0, .vec 2, .int .i64 i, .int .i64 k], [(false, .vec .item xs), (true, .box [.vec 0]), (true, .vec .pair out)] => some (xs, (), out, i, k)
    | _, _ => none
  inv := fun s0 s => Holds (s.1 = s0.1 ∧ s.2.2.2.1 = s0.2.2.2.1 ∧ s0.2.2.2.1 + 1 ≤ s.2.2.2.2 ∧ s.2.2.2.2 ≤ s0.1.length ∧ s.2.2.1 ++ rowF (Ty.ix .item s0.1 s0.2.2.2.1.toNat) (s0.1.drop s.2.2.2.2.toNat) = s0.2.2.1 ++ rowF (Ty.ix .item s0.1 s0.2.2.2.1.toNat) (s0.1.drop s0.2.2.2.2.toNat))
  mu := fun s => ((s.1.length : Int) - s.2.2.2.2).toNat
  ok := by
    intro v h s hg
    try dsimp only at hg
    split at hg <;> cases hg
    rfl

def L_l4Pairs : Loops := fun n => match n with
  | 3 => some LSl4Pairs1
  | 6 => some LSl4Pairs2
  | _ => none
noncomputable def fs_l4Pairs : Fs := ⟨[], fun args H => match args, H with
  | [.agg [.vec 0]], [(false, .vec .item xs)] => some ((some (xs.length ≤ 24)), .vec 1, [(false, .vec .item xs), (true, .vec .pair (pairsF xs))])
  | _, _ => none⟩

theorem vc_l4Pairs (xs : List Item) (Q : SV → List Ent → Prop) :
    fnVC tt (look [(137, fs_l3Meets)]) (L_l4Pairs) Try.f78 [.agg [.vec 0]] [(false, .vec .item xs)] Q =
    (Holds (xs = xs ∧ (0 : Int) ≤ (0 : Int) ∧ (0 : Int) ≤ (↑(List.length xs) : Int) ∧ [] ++ pairsF (List.drop (Int.toNat (0 : Int)) xs) = pairsF xs) ∧ ∀ (x : List Item × Unit × List Pair × Int), Holds (Prod.fst x = xs ∧ (0 : Int) ≤ Prod.snd (Prod.snd (Prod.snd x)) ∧ Prod.snd (Prod.snd (Prod.snd x)) ≤ (↑(List.length xs) : Int) ∧ Prod.fst (Prod.snd (Prod.snd x)) ++ pairsF (List.drop (Int.toNat (Prod.snd (Prod.snd (Prod.snd x)))) xs) = pairsF xs) → ifB (decide (Prod.snd (Prod.snd (Prod.snd x)) < (↑(List.length (Prod.fst x)) : Int))) (Holds (Prod.fst x = Prod.fst x ∧ Prod.snd (Prod.snd (Prod.snd x)) = Prod.snd (Prod.snd (Prod.snd x)) ∧ Prod.snd (Prod.snd (Prod.snd x)) + (1 : Int) ≤ IntKind.wrap IntKind.i64 (Prod.snd (Prod.snd (Prod.snd x)) + (1 : Int)) ∧ IntKind.wrap IntKind.i64 (Prod.snd (Prod.snd (Prod.snd x)) + (1 : Int)) ≤ (↑(List.length (Prod.fst x)) : Int) ∧ Prod.fst (Prod.snd (Prod.snd x)) ++ rowF (Ty.ix Ty.item (Prod.fst x) (Int.toNat (Prod.snd (Prod.snd (Prod.snd x))))) (List.drop (Int.toNat (IntKind.wrap IntKind.i64 (Prod.snd (Prod.snd (Prod.snd x)) + (1 : Int)))) (Prod.fst x)) = Prod.fst (Prod.snd (Prod.snd x)) ++ rowF (Ty.ix Ty.item (Prod.fst x) (Int.toNat (Prod.snd (Prod.snd (Prod.snd x))))) (List.drop (Int.toNat (IntKind.wrap IntKind.i64 (Prod.snd (Prod.snd (Prod.snd x)) + (1 : Int)))) (Prod.fst x))) ∧ ∀ (x_1 : List Item × Unit × List Pair × Int × Int), Holds (Prod.fst x_1 = Prod.fst x ∧ Prod.fst (Prod.snd (Prod.snd (Prod.snd x_1))) = Prod.snd (Prod.snd (Prod.snd x)) ∧ Prod.snd (Prod.snd (Prod.snd x)) + (1 : Int) ≤ Prod.snd (Prod.snd (Prod.snd (Prod.snd x_1))) ∧ Prod.snd (Prod.snd (Prod.snd (Prod.snd x_1))) ≤ (↑(List.length (Prod.fst x)) : Int) ∧ Prod.fst (Prod.snd (Prod.snd x_1)) ++ rowF (Ty.ix Ty.item (Prod.fst x) (Int.toNat (Prod.snd (Prod.snd (Prod.snd x))))) (List.drop (Int.toNat (Prod.snd (Prod.snd (Prod.snd (Prod.snd x_1))))) (Prod.fst x)) = Prod.fst (Prod.snd (Prod.snd x)) ++ rowF (Ty.ix Ty.item (Prod.fst x) (Int.toNat (Prod.snd (Prod.snd (Prod.snd x))))) (List.drop (Int.toNat (IntKind.wrap IntKind.i64 (Prod.snd (Prod.snd (Prod.snd x)) + (1 : Int)))) (Prod.fst x))) → ifB (decide (Prod.snd (Prod.snd (Prod.snd (Prod.snd x_1))) < (↑(List.length (Prod.fst x_1)) : Int))) (((0 : Int) ≤ Prod.fst (Prod.snd (Prod.snd (Prod.snd x_1))) ∧ Prod.fst (Prod.snd (Prod.snd (Prod.snd x_1))) < (↑(List.length (Prod.fst x_1)) : Int)) ∧ ((0 : Int) ≤ Prod.snd (Prod.snd (Prod.snd (Prod.snd x_1))) ∧ Prod.snd (Prod.snd (Prod.snd (Prod.snd x_1))) < (↑(List.length (Prod.fst x_1)) : Int)) ∧ ifB (boxMeets (Item.Box (Ty.ix Ty.item (Prod.fst x_1) (Int.toNat (Prod.fst (Prod.snd (Prod.snd (Prod.snd x_1))))))) (Item.Box (Ty.ix Ty.item (Prod.fst x_1) (Int.toNat (Prod.snd (Prod.snd (Prod.snd (Prod.snd x_1)))))))) (((0 : Int) ≤ Prod.fst (Prod.snd (Prod.snd (Prod.snd x_1))) ∧ Prod.fst (Prod.snd (Prod.snd (Prod.snd x_1))) < (↑(List.length (Prod.fst x_1)) : Int)) ∧ ((0 : Int) ≤ Prod.snd (Prod.snd (Prod.snd (Prod.snd x_1))) ∧ Prod.snd (Prod.snd (Prod.snd (Prod.snd x_1))) < (↑(List.length (Prod.fst x_1)) : Int)) ∧ (List.length (Prod.fst (Prod.snd (Prod.snd x_1))) + List.length [Pair.mk (Item.Id (Ty.ix Ty.item (Prod.fst x_1) (Int.toNat (Prod.fst (Prod.snd (Prod.snd (Prod.snd x_1))))))) (Item.Id (Ty.ix Ty.item (Prod.fst x_1) (Int.toNat (Prod.snd (Prod.snd (Prod.snd (Prod.snd x_1)))))))]) * (16 : Nat) ≤ room ∧ Holds (Prod.fst x_1 = Prod.fst x ∧ Prod.fst (Prod.snd (Prod.snd (Prod.snd x_1))) = Prod.snd (Prod.snd (Prod.snd x)) ∧ Prod.snd (Prod.snd (Prod.snd x)) + (1 : Int) ≤ IntKind.wrap IntKind.i64 (Prod.snd (Prod.snd (Prod.snd (Prod.snd x_1))) + (1 : Int)) ∧ IntKind.wrap IntKind.i64 (Prod.snd (Prod.snd (Prod.snd (Prod.snd x_1))) + (1 : Int)) ≤ (↑(List.length (Prod.fst x)) : Int) ∧ Prod.fst (Prod.snd (Prod.snd x_1)) ++ [Pair.mk (Item.Id (Ty.ix Ty.item (Prod.fst x_1) (Int.toNat (Prod.fst (Prod.snd (Prod.snd (Prod.snd x_1))))))) (Item.Id (Ty.ix Ty.item (Prod.fst x_1) (Int.toNat (Prod.snd (Prod.snd (Prod.snd (Prod.snd x_1)))))))] ++ rowF (Ty.ix Ty.item (Prod.fst x) (Int.toNat (Prod.snd (Prod.snd (Prod.snd x))))) (List.drop (Int.toNat (IntKind.wrap IntKind.i64 (Prod.snd (Prod.snd (Prod.snd (Prod.snd x_1))) + (1 : Int)))) (Prod.fst x)) = Prod.fst (Prod.snd (Prod.snd x)) ++ rowF (Ty.ix Ty.item (Prod.fst x) (Int.toNat (Prod.snd (Prod.snd (Prod.snd x))))) (List.drop (Int.toNat (IntKind.wrap IntKind.i64 (Prod.snd (Prod.snd (Prod.snd x)) + (1 : Int)))) (Prod.fst x))) ∧ Int.toNat ((↑(List.length (Prod.fst x_1)) : Int) - IntKind.wrap IntKind.i64 (Prod.snd (Prod.snd (Prod.snd (Prod.snd x_1))) + (1 : Int))) < Int.toNat ((↑(List.length (Prod.fst x_1)) : Int) - Prod.snd (Prod.snd (Prod.snd (Prod.snd x_1))))) (Holds (Prod.fst x_1 = Prod.fst x ∧ Prod.fst (Prod.snd (Prod.snd (Prod.snd x_1))) = Prod.snd (Prod.snd (Prod.snd x)) ∧ Prod.snd (Prod.snd (Prod.snd x)) + (1 : Int) ≤ IntKind.wrap IntKind.i64 (Prod.snd (Prod.snd (Prod.snd (Prod.snd x_1))) + (1 : Int)) ∧ IntKind.wrap IntKind.i64 (Prod.snd (Prod.snd (Prod.snd (Prod.snd x_1))) + (1 : Int)) ≤ (↑(List.length (Prod.fst x)) : Int) ∧ Prod.fst (Prod.snd (Prod.snd x_1)) ++ rowF (Ty.ix Ty.item (Prod.fst x) (Int.toNat (Prod.snd (Prod.snd (Prod.snd x))))) (List.drop (Int.toNat (IntKind.wrap IntKind.i64 (Prod.snd (Prod.snd (Prod.snd (Prod.snd x_1))) + (1 : Int)))) (Prod.fst x)) = Prod.fst (Prod.snd (Prod.snd x)) ++ rowF (Ty.ix Ty.item (Prod.fst x) (Int.toNat (Prod.snd (Prod.snd (Prod.snd x))))) (List.drop (Int.toNat (IntKind.wrap IntKind.i64 (Prod.snd (Prod.snd (Prod.snd x)) + (1 : Int)))) (Prod.fst x))) ∧ Int.toNat ((↑(List.length (Prod.fst x_1)) : Int) - IntKind.wrap IntKind.i64 (Prod.snd (Prod.snd (Prod.snd (Prod.snd x_1))) + (1 : Int))) < Int.toNat ((↑(List.length (Prod.fst x_1)) : Int) - Prod.snd (Prod.snd (Prod.snd (Prod.snd x_1)))))) (Holds (Prod.fst x_1 = xs ∧ (0 : Int) ≤ IntKind.wrap IntKind.i64 (Prod.fst (Prod.snd (Prod.snd (Prod.snd x_1))) + (1 : Int)) ∧ IntKind.wrap IntKind.i64 (Prod.fst (Prod.snd (Prod.snd (Prod.snd x_1))) + (1 : Int)) ≤ (↑(List.length xs) : Int) ∧ Prod.fst (Prod.snd (Prod.snd x_1)) ++ pairsF (List.drop (Int.toNat (IntKind.wrap IntKind.i64 (Prod.fst (Prod.snd (Prod.snd (Prod.snd x_1))) + (1 : Int)))) xs) = pairsF xs) ∧ Int.toNat ((↑(List.length (Prod.fst x_1)) : Int) - IntKind.wrap IntKind.i64 (Prod.fst (Prod.snd (Prod.snd (Prod.snd x_1))) + (1 : Int))) < Int.toNat ((↑(List.length (Prod.fst x)) : Int) - Prod.snd (Prod.snd (Prod.snd x))))) (Q (SV.vec (1 : Nat)) [(false, Blk.vec Ty.item (Prod.fst x)), (true, Blk.vec Ty.pair (Prod.fst (Prod.snd (Prod.snd x))))])) := by kernel_rfl

theorem ok_l4Pairs : FsOk Try.prog 78 fs_l4Pairs := fsOk_of tt_ok (tabFs_cons ok_l3Meets tabFs_nil) mixed Try.func78 (by kernel_rfl) (by kernel_rfl) (by
    intro args LL p r HH h hp
    unfold fs_l4Pairs at h
    dsimp only at h
    split at h
    case h_2 => cases h
    rename_i xs
    simp only [Option.some.injEq, Prod.mk.injEq] at h
    obtain ⟨rfl, rfl, rfl⟩ := h
    refine ⟨by simp [Form, stays], (L_l4Pairs), ?_⟩
    rw [vc_l4Pairs]
    try dsimp only
    have hl := hp _ rfl
    have hq := length_pairsF xs
    have hq2 := length_sq hl
    refine ⟨⟨(by trivial), by omega, by omega, rfl⟩, ?_⟩
    rintro ⟨xs', u, out, i⟩ ⟨h⟩
    dsimp only at h ⊢
    obtain ⟨rfl, h0, h1, h2⟩ := h
    refine ifB_of (fun c1 => ?_) (fun c1 => ?_)
    · have hi := of_decide_eq_true c1
      have e1 : (i + 1).toNat = i.toNat + 1 := by omega
      have hs2 := congrArg List.length h2
      rw [pairsF_drop (show i.toNat < xs'.length by omega)] at h2 hs2
      simp only [List.length_append] at hs2
      have hw : IntKind.i64.wrap (i + 1) = i + 1 := wrap_small (by omega) (by omega)
      rw [hw]
      refine ⟨⟨(by trivial), (by trivial), by omega, by omega, rfl⟩, ?_⟩
      rintro ⟨xs'', u', out', i', k⟩ ⟨h⟩
      dsimp only at h ⊢
      obtain ⟨rfl, rfl, g1, g2, g3⟩ := h
      have hs3 := congrArg List.length g3
      rw [e1] at g3 hs3
      simp only [List.length_append] at hs3
      refine ifB_of (fun c2 => ?_) (fun c2 => ?_)
      · have hk := of_decide_eq_true c2
        have e2 : (k + 1).toNat = k.toNat + 1 := by omega
        rw [rowF_drop (show k.toNat < xs''.length by omega)] at g3
        refine ⟨⟨h0, hi⟩, ⟨by omega, hk⟩, ifB_of (fun c3 => ?_) (fun c3 => ?_)⟩
        · rw [c3] at g3
          simp (disch := omega) only [wrap_small, e1, e2]
          refine ⟨⟨h0, hi⟩, ⟨by omega, hk⟩, by simp only [room, List.length_singleton]; omega, ⟨(by trivial), (by trivial), by omega, by omega, ?_⟩, by omega⟩
          rw [← g3, List.append_assoc]
          rfl
        · rw [c3] at g3
          simp (disch := omega) only [wrap_small, e1, e2]
          exact ⟨⟨(by trivial), (by trivial), by omega, by omega, g3⟩, by omega⟩
      · have hk := of_decide_eq_false c2
        simp (disch := omega) only [wrap_small, e1]
        rw [drop_end (i := k.toNat) (by omega)] at g3
        refine ⟨⟨(by trivial), by omega, by omega, ?_⟩, by omega⟩
        rw [← h2, ← List.append_assoc, ← g3]
        simp [rowF]
    · have hi := of_decide_eq_false c1
      rw [drop_end (by omega)] at h2
      rw [← h2]
      simp [pairsF])

noncomputable def fs_specBroadPairs : Fs := ⟨[], fun args H => match args, H with
  | [.agg [.vec 0]], [(false, .vec .item xs)] => some ((some (xs.length ≤ 1048576)), .vec 1, [(false, .vec .item xs), (true, .vec .pair (broadPairs xs))])
  | _, _ => none⟩

theorem vc_specBroadPairs (xs : List Item) (Q : SV → List Ent → Prop) :
    fnVC tt (look [(19, fs_specBroadOk), (78, fs_l4Pairs)]) L0 Try.f43 [.agg [.vec 0]] [(false, .vec .item xs)] Q =
    (List.length xs ≤ (1048576 : Nat) ∧ ifB (!itemsOk xs) (Q (SV.vec (1 : Nat)) [(false, Blk.vec Ty.item xs), (true, Blk.vec Ty.pair [])]) (List.length xs ≤ (24 : Nat) ∧ Q (SV.vec (1 : Nat)) [(false, Blk.vec Ty.item xs), (true, Blk.vec Ty.pair (pairsF xs))])) := by kernel_rfl

theorem ok_specBroadPairs : FsOk Try.prog 43 fs_specBroadPairs := fsOk_of tt_ok (tabFs_cons ok_specBroadOk (tabFs_cons ok_l4Pairs tabFs_nil)) mixed Try.func43 (by kernel_rfl) (by kernel_rfl) (by
    intro args LL p r HH h hp
    unfold fs_specBroadPairs at h
    dsimp only at h
    split at h
    case h_2 => cases h
    rename_i xs
    simp only [Option.some.injEq, Prod.mk.injEq] at h
    obtain ⟨rfl, rfl, rfl⟩ := h
    refine ⟨by simp [Form, stays], L0, ?_⟩
    rw [vc_specBroadPairs]
    try dsimp only
    have hb := hp _ rfl
    refine ⟨hb, ifB_of (fun c1 => ?_) (fun c1 => ?_)⟩
    · simp [broadPairs, not_true c1]
    · simp only [broadPairs, not_false c1, cond_true]
      exact ⟨itemsOk_len (not_false c1), (by trivial), (by trivial)⟩)

def LSimplPairs1  : LS where
  S := List Item × Unit × List Pair × Unit × Int × Int
  live := [(1, [none]), (3, [some .pair]), (12, [none]), (13, [none]), (14, [none])]
  shape := fun s => ([.ptr 1 0 0, .vec 2, .vec 0, .int .i64 s.2.2.2.2.1, .int .i64 s.2.2.2.2.2], [(false, .vec .item s.1), (true, .box [.vec 0]), (true, .vec .pair s.2.2.1)])
  get := fun v h => match v, h with
    | [.ptr 1 0 0, .vec 2, .vec 0, .int .i64 n, .int .i64 i], [(false, .vec .item xs), (true, .box [.vec 0]), (true, .vec .pair out)] => some (xs, (), out, (), n, i)
    | _, _ => none
  inv := fun s0 s => Holds (s.1 = s0.1 ∧ s.2.2.2.2.1 = s0.1.length ∧ 0 ≤ s.2.2.2.2.2 ∧ s.2.2.2.2.2 ≤ s0.1.length ∧ s.2.2.1 ++ pairsF (s0.1.drop s.2.2.2.2.2.toNat) = pairsF s0.1)
  mu := fun s => ((s.1.length : Int) - s.2.2.2.2.2).toNat
  ok := by
    intro v h s hg
    try dsimp only at hg
    split at hg <;> cases hg
    rfl

def LSimplPairs2  : LS where
  S := List Item × Unit × List Pair × Item × Unit × Int × Int × (Nat × Nat) × Int × Int
  live := [(1, [none]), (3, [some .pair]), (5, [none]), (12, [none]), (13, [none]), (14, [none]), (23, [none]), (24, [none]), (25, [none])]
  shape := fun s => ([.ptr 1 0 0, .vec 2, .ptr 3 0 0, .vec 0, .int .i64 s.2.2.2.2.2.1, .int .i64 s.2.2.2.2.2.2.1, .sl 0 s.2.2.2.2.2.2.2.1.1 s.2.2.2.2.2.2.2.1.2, .int .i64 s.2.2.2.2.2.2.2.2.1, .int .i64 s.2.2.2.2.2.2.2.2.2], [(false, .vec .item s.1), (true, .box [.vec 0]), (true, .vec .pair s.2.2.1), (true, .box [.int .i64 s.2.2.2.1.Id, .int .i64 s.2.2.2.1.Box.Low.X, .int .i64 s.2.2.2.1.Box.Low.Y, .int .i64 s.2.2.2.1.Box.High.X, .int .i64 s.2.2.2.1.Box.High.Y])])
  get := fun v h => match v, h with
    | [.ptr 1 0 0, .vec 2, .ptr 3 0 0, .vec 0, .int .i64 n, .int .i64 i, .sl 0 z_1 z_2, .int .i64 m, .int .i64 k], [(false, .vec .item xs), (true, .box [.vec 0]), (true, .vec .pair out), (true, .box [.int .i64 xI, .int .i64 xLX, .int .i64 xLY, .int .i64 xHX, .int .i64 xHY])] => some (xs, (), out, (Item.mk xI (Box.mk (Vec.mk xLX xLY) (Vec.mk xHX xHY))), (), n, i, (z_1, z_2), m, k)
    | _, _ => none
  inv := fun s0 s => Holds (s.1 = s0.1 ∧ s.2.2.2.1 = s0.2.2.2.1 ∧ s.2.2.2.2.2.1 = s0.2.2.2.2.2.1 ∧ s.2.2.2.2.2.2.1 = s0.2.2.2.2.2.2.1 ∧ s.2.2.2.2.2.2.2.1 = s0.2.2.2.2.2.2.2.1 ∧ s.2.2.2.2.2.2.2.2.1 = s0.2.2.2.2.2.2.2.2.1 ∧ 0 ≤ s.2.2.2.2.2.2.2.2.2 ∧ s.2.2.2.2.2.2.2.2.2 ≤ s0.2.2.2.2.2.2.2.2.1 ∧ s.2.2.1 ++ rowF s0.2.2.2.1 (s0.1.drop (s0.2.2.2.2.2.2.2.1.1 + s.2.2.2.2.2.2.2.2.2.toNat)) = s0.2.2.1 ++ rowF s0.2.2.2.1 (s0.1.drop (s0.2.2.2.2.2.2.2.1.1 + s0.2.2.2.2.2.2.2.2.2.toNat)))
  mu := fun s => (s.2.2.2.2.2.2.2.2.1 - s.2.2.2.2.2.2.2.2.2).toNat
  ok := by
    intro v h s hg
    try dsimp only at hg
    split at hg <;> cases hg
    rfl

def L_implPairs : Loops := fun n => match n with
  | 5 => some LSimplPairs1
  | 8 => some LSimplPairs2
  | _ => none
noncomputable def fs_implBroadPairs : Fs := ⟨[], fun args H => match args, H with
  | [.agg [.vec 0]], [(false, .vec .item xs)] => some ((some (xs.length ≤ 1048576)), .vec 1, [(false, .vec .item xs), (true, .vec .pair (broadPairs xs))])
  | _, _ => none⟩

theorem vc_implBroadPairs (xs : List Item) (Q : SV → List Ent → Prop) :
    fnVC tt (look [(53, fs_implBroadOk), (82, fs_implMeets)]) (L_implPairs) Try.f20 [.agg [.vec 0]] [(false, .vec .item xs)] Q =
    (List.length xs ≤ (1048576 : Nat) ∧ ifB (!itemsOk xs) (Q (SV.vec (1 : Nat)) [(false, Blk.vec Ty.item xs), (true, Blk.vec Ty.pair [])]) (Holds (xs = xs ∧ (↑(List.length xs) : Int) = (↑(List.length xs) : Int) ∧ (0 : Int) ≤ (0 : Int) ∧ (0 : Int) ≤ (↑(List.length xs) : Int) ∧ [] ++ pairsF (List.drop (Int.toNat (0 : Int)) xs) = pairsF xs) ∧ ∀ (x : List Item × Unit × List Pair × Unit × Int × Int), Holds (Prod.fst x = xs ∧ Prod.fst (Prod.snd (Prod.snd (Prod.snd (Prod.snd x)))) = (↑(List.length xs) : Int) ∧ (0 : Int) ≤ Prod.snd (Prod.snd (Prod.snd (Prod.snd (Prod.snd x)))) ∧ Prod.snd (Prod.snd (Prod.snd (Prod.snd (Prod.snd x)))) ≤ (↑(List.length xs) : Int) ∧ Prod.fst (Prod.snd (Prod.snd x)) ++ pairsF (List.drop (Int.toNat (Prod.snd (Prod.snd (Prod.snd (Prod.snd (Prod.snd x)))))) xs) = pairsF xs) → ifB (decide (Prod.snd (Prod.snd (Prod.snd (Prod.snd (Prod.snd x)))) < Prod.fst (Prod.snd (Prod.snd (Prod.snd (Prod.snd x)))))) (((0 : Int) ≤ Prod.snd (Prod.snd (Prod.snd (Prod.snd (Prod.snd x)))) ∧ Prod.snd (Prod.snd (Prod.snd (Prod.snd (Prod.snd x)))) < (↑(List.length (Prod.fst x)) : Int)) ∧ ((0 : Int) ≤ IntKind.wrap IntKind.i64 (Prod.snd (Prod.snd (Prod.snd (Prod.snd (Prod.snd x)))) + (1 : Int)) ∧ IntKind.wrap IntKind.i64 (Prod.snd (Prod.snd (Prod.snd (Prod.snd (Prod.snd x)))) + (1 : Int)) ≤ (↑(List.length (Prod.fst x)) : Int)) ∧ Holds (Prod.fst x = Prod.fst x ∧ Ty.ix Ty.item (Prod.fst x) (Int.toNat (Prod.snd (Prod.snd (Prod.snd (Prod.snd (Prod.snd x)))))) = Ty.ix Ty.item (Prod.fst x) (Int.toNat (Prod.snd (Prod.snd (Prod.snd (Prod.snd (Prod.snd x)))))) ∧ Prod.fst (Prod.snd (Prod.snd (Prod.snd (Prod.snd x)))) = Prod.fst (Prod.snd (Prod.snd (Prod.snd (Prod.snd x)))) ∧ Prod.snd (Prod.snd (Prod.snd (Prod.snd (Prod.snd x)))) = Prod.snd (Prod.snd (Prod.snd (Prod.snd (Prod.snd x)))) ∧ (Int.toNat (IntKind.wrap IntKind.i64 (Prod.snd (Prod.snd (Prod.snd (Prod.snd (Prod.snd x)))) + (1 : Int))), List.length (Prod.fst x) - Int.toNat (IntKind.wrap IntKind.i64 (Prod.snd (Prod.snd (Prod.snd (Prod.snd (Prod.snd x)))) + (1 : Int)))) = (Int.toNat (IntKind.wrap IntKind.i64 (Prod.snd (Prod.snd (Prod.snd (Prod.snd (Prod.snd x)))) + (1 : Int))), List.length (Prod.fst x) - Int.toNat (IntKind.wrap IntKind.i64 (Prod.snd (Prod.snd (Prod.snd (Prod.snd (Prod.snd x)))) + (1 : Int)))) ∧ (↑(List.length (Prod.fst x) - Int.toNat (IntKind.wrap IntKind.i64 (Prod.snd (Prod.snd (Prod.snd (Prod.snd (Prod.snd x)))) + (1 : Int)))) : Int) = (↑(List.length (Prod.fst x) - Int.toNat (IntKind.wrap IntKind.i64 (Prod.snd (Prod.snd (Prod.snd (Prod.snd (Prod.snd x)))) + (1 : Int)))) : Int) ∧ (0 : Int) ≤ (0 : Int) ∧ (0 : Int) ≤ (↑(List.length (Prod.fst x) - Int.toNat (IntKind.wrap IntKind.i64 (Prod.snd (Prod.snd (Prod.snd (Prod.snd (Prod.snd x)))) + (1 : Int)))) : Int) ∧ Prod.fst (Prod.snd (Prod.snd x)) ++ rowF (Ty.ix Ty.item (Prod.fst x) (Int.toNat (Prod.snd (Prod.snd (Prod.snd (Prod.snd (Prod.snd x))))))) (List.drop (Int.toNat (IntKind.wrap IntKind.i64 (Prod.snd (Prod.snd (Prod.snd (Prod.snd (Prod.snd x)))) + (1 : Int))) + Int.toNat (0 : Int)) (Prod.fst x)) = Prod.fst (Prod.snd (Prod.snd x)) ++ rowF (Ty.ix Ty.item (Prod.fst x) (Int.toNat (Prod.snd (Prod.snd (Prod.snd (Prod.snd (Prod.snd x))))))) (List.drop (Int.toNat (IntKind.wrap IntKind.i64 (Prod.snd (Prod.snd (Prod.snd (Prod.snd (Prod.snd x)))) + (1 : Int))) + Int.toNat (0 : Int)) (Prod.fst x))) ∧ ∀ (x_1 : List Item × Unit × List Pair × Item × Unit × Int × Int × (Nat × Nat) × Int × Int), Holds (Prod.fst x_1 = Prod.fst x ∧ Prod.fst (Prod.snd (Prod.snd (Prod.snd x_1))) = Ty.ix Ty.item (Prod.fst x) (Int.toNat (Prod.snd (Prod.snd (Prod.snd (Prod.snd (Prod.snd x)))))) ∧ Prod.fst (Prod.snd (Prod.snd (Prod.snd (Prod.snd (Prod.snd x_1))))) = Prod.fst (Prod.snd (Prod.snd (Prod.snd (Prod.snd x)))) ∧ Prod.fst (Prod.snd (Prod.snd (Prod.snd (Prod.snd (Prod.snd (Prod.snd x_1)))))) = Prod.snd (Prod.snd (Prod.snd (Prod.snd (Prod.snd x)))) ∧ Prod.fst (Prod.snd (Prod.snd (Prod.snd (Prod.snd (Prod.snd (Prod.snd (Prod.snd x_1))))))) = (Int.toNat (IntKind.wrap IntKind.i64 (Prod.snd (Prod.snd (Prod.snd (Prod.snd (Prod.snd x)))) + (1 : Int))), List.length (Prod.fst x) - Int.toNat (IntKind.wrap IntKind.i64 (Prod.snd (Prod.snd (Prod.snd (Prod.snd (Prod.snd x)))) + (1 : Int)))) ∧ Prod.fst (Prod.snd (Prod.snd (Prod.snd (Prod.snd (Prod.snd (Prod.snd (Prod.snd (Prod.snd x_1)))))))) = (↑(List.length (Prod.fst x) - Int.toNat (IntKind.wrap IntKind.i64 (Prod.snd (Prod.snd (Prod.snd (Prod.snd (Prod.snd x)))) + (1 : Int)))) : Int) ∧ (0 : Int) ≤ Prod.snd (Prod.snd (Prod.snd (Prod.snd (Prod.snd (Prod.snd (Prod.snd (Prod.snd (Prod.snd x_1)))))))) ∧ Prod.snd (Prod.snd (Prod.snd (Prod.snd (Prod.snd (Prod.snd (Prod.snd (Prod.snd (Prod.snd x_1)))))))) ≤ (↑(List.length (Prod.fst x) - Int.toNat (IntKind.wrap IntKind.i64 (Prod.snd (Prod.snd (Prod.snd (Prod.snd (Prod.snd x)))) + (1 : Int)))) : Int) ∧ Prod.fst (Prod.snd (Prod.snd x_1)) ++ rowF (Ty.ix Ty.item (Prod.fst x) (Int.toNat (Prod.snd (Prod.snd (Prod.snd (Prod.snd (Prod.snd x))))))) (List.drop (Int.toNat (IntKind.wrap IntKind.i64 (Prod.snd (Prod.snd (Prod.snd (Prod.snd (Prod.snd x)))) + (1 : Int))) + Int.toNat (Prod.snd (Prod.snd (Prod.snd (Prod.snd (Prod.snd (Prod.snd (Prod.snd (Prod.snd (Prod.snd x_1)))))))))) (Prod.fst x)) = Prod.fst (Prod.snd (Prod.snd x)) ++ rowF (Ty.ix Ty.item (Prod.fst x) (Int.toNat (Prod.snd (Prod.snd (Prod.snd (Prod.snd (Prod.snd x))))))) (List.drop (Int.toNat (IntKind.wrap IntKind.i64 (Prod.snd (Prod.snd (Prod.snd (Prod.snd (Prod.snd x)))) + (1 : Int))) + Int.toNat (0 : Int)) (Prod.fst x))) → ifB (decide (Prod.snd (Prod.snd (Prod.snd (Prod.snd (Prod.snd (Prod.snd (Prod.snd (Prod.snd (Prod.snd x_1)))))))) < Prod.fst (Prod.snd (Prod.snd (Prod.snd (Prod.snd (Prod.snd (Prod.snd (Prod.snd (Prod.snd x_1)))))))))) (((0 : Int) ≤ Prod.snd (Prod.snd (Prod.snd (Prod.snd (Prod.snd (Prod.snd (Prod.snd (Prod.snd (Prod.snd x_1)))))))) ∧ Prod.snd (Prod.snd (Prod.snd (Prod.snd (Prod.snd (Prod.snd (Prod.snd (Prod.snd (Prod.snd x_1)))))))) < (↑(Prod.snd (Prod.fst (Prod.snd (Prod.snd (Prod.snd (Prod.snd (Prod.snd (Prod.snd (Prod.snd x_1))))))))) : Int)) ∧ ifB (boxMeets (Item.Box (Prod.fst (Prod.snd (Prod.snd (Prod.snd x_1))))) (Item.Box (Ty.ix Ty.item (Prod.fst x_1) (Prod.fst (Prod.fst (Prod.snd (Prod.snd (Prod.snd (Prod.snd (Prod.snd (Prod.snd (Prod.snd x_1)))))))) + Int.toNat (Prod.snd (Prod.snd (Prod.snd (Prod.snd (Prod.snd (Prod.snd (Prod.snd (Prod.snd (Prod.snd x_1))))))))))))) ((List.length (Prod.fst (Prod.snd (Prod.snd x_1))) + List.length [Pair.mk (Item.Id (Prod.fst (Prod.snd (Prod.snd (Prod.snd x_1))))) (Item.Id (Ty.ix Ty.item (Prod.fst x_1) (Prod.fst (Prod.fst (Prod.snd (Prod.snd (Prod.snd (Prod.snd (Prod.snd (Prod.snd (Prod.snd x_1)))))))) + Int.toNat (Prod.snd (Prod.snd (Prod.snd (Prod.snd (Prod.snd (Prod.snd (Prod.snd (Prod.snd (Prod.snd x_1))))))))))))]) * (16 : Nat) ≤ room ∧ Holds (Prod.fst x_1 = Prod.fst x ∧ Prod.fst (Prod.snd (Prod.snd (Prod.snd x_1))) = Ty.ix Ty.item (Prod.fst x) (Int.toNat (Prod.snd (Prod.snd (Prod.snd (Prod.snd (Prod.snd x)))))) ∧ Prod.fst (Prod.snd (Prod.snd (Prod.snd (Prod.snd (Prod.snd x_1))))) = Prod.fst (Prod.snd (Prod.snd (Prod.snd (Prod.snd x)))) ∧ Prod.fst (Prod.snd (Prod.snd (Prod.snd (Prod.snd (Prod.snd (Prod.snd x_1)))))) = Prod.snd (Prod.snd (Prod.snd (Prod.snd (Prod.snd x)))) ∧ Prod.fst (Prod.snd (Prod.snd (Prod.snd (Prod.snd (Prod.snd (Prod.snd (Prod.snd x_1))))))) = (Int.toNat (IntKind.wrap IntKind.i64 (Prod.snd (Prod.snd (Prod.snd (Prod.snd (Prod.snd x)))) + (1 : Int))), List.length (Prod.fst x) - Int.toNat (IntKind.wrap IntKind.i64 (Prod.snd (Prod.snd (Prod.snd (Prod.snd (Prod.snd x)))) + (1 : Int)))) ∧ Prod.fst (Prod.snd (Prod.snd (Prod.snd (Prod.snd (Prod.snd (Prod.snd (Prod.snd (Prod.snd x_1)))))))) = (↑(List.length (Prod.fst x) - Int.toNat (IntKind.wrap IntKind.i64 (Prod.snd (Prod.snd (Prod.snd (Prod.snd (Prod.snd x)))) + (1 : Int)))) : Int) ∧ (0 : Int) ≤ IntKind.wrap IntKind.i64 (Prod.snd (Prod.snd (Prod.snd (Prod.snd (Prod.snd (Prod.snd (Prod.snd (Prod.snd (Prod.snd x_1)))))))) + (1 : Int)) ∧ IntKind.wrap IntKind.i64 (Prod.snd (Prod.snd (Prod.snd (Prod.snd (Prod.snd (Prod.snd (Prod.snd (Prod.snd (Prod.snd x_1)))))))) + (1 : Int)) ≤ (↑(List.length (Prod.fst x) - Int.toNat (IntKind.wrap IntKind.i64 (Prod.snd (Prod.snd (Prod.snd (Prod.snd (Prod.snd x)))) + (1 : Int)))) : Int) ∧ Prod.fst (Prod.snd (Prod.snd x_1)) ++ [Pair.mk (Item.Id (Prod.fst (Prod.snd (Prod.snd (Prod.snd x_1))))) (Item.Id (Ty.ix Ty.item (Prod.fst x_1) (Prod.fst (Prod.fst (Prod.snd (Prod.snd (Prod.snd (Prod.snd (Prod.snd (Prod.snd (Prod.snd x_1)))))))) + Int.toNat (Prod.snd (Prod.snd (Prod.snd (Prod.snd (Prod.snd (Prod.snd (Prod.snd (Prod.snd (Prod.snd x_1))))))))))))] ++ rowF (Ty.ix Ty.item (Prod.fst x) (Int.toNat (Prod.snd (Prod.snd (Prod.snd (Prod.snd (Prod.snd x))))))) (List.drop (Int.toNat (IntKind.wrap IntKind.i64 (Prod.snd (Prod.snd (Prod.snd (Prod.snd (Prod.snd x)))) + (1 : Int))) + Int.toNat (IntKind.wrap IntKind.i64 (Prod.snd (Prod.snd (Prod.snd (Prod.snd (Prod.snd (Prod.snd (Prod.snd (Prod.snd (Prod.snd x_1)))))))) + (1 : Int)))) (Prod.fst x)) = Prod.fst (Prod.snd (Prod.snd x)) ++ rowF (Ty.ix Ty.item (Prod.fst x) (Int.toNat (Prod.snd (Prod.snd (Prod.snd (Prod.snd (Prod.snd x))))))) (List.drop (Int.toNat (IntKind.wrap IntKind.i64 (Prod.snd (Prod.snd (Prod.snd (Prod.snd (Prod.snd x)))) + (1 : Int))) + Int.toNat (0 : Int)) (Prod.fst x))) ∧ Int.toNat (Prod.fst (Prod.snd (Prod.snd (Prod.snd (Prod.snd (Prod.snd (Prod.snd (Prod.snd (Prod.snd x_1)))))))) - IntKind.wrap IntKind.i64 (Prod.snd (Prod.snd (Prod.snd (Prod.snd (Prod.snd (Prod.snd (Prod.snd (Prod.snd (Prod.snd x_1)))))))) + (1 : Int))) < Int.toNat (Prod.fst (Prod.snd (Prod.snd (Prod.snd (Prod.snd (Prod.snd (Prod.snd (Prod.snd (Prod.snd x_1)))))))) - Prod.snd (Prod.snd (Prod.snd (Prod.snd (Prod.snd (Prod.snd (Prod.snd (Prod.snd (Prod.snd x_1)))))))))) (Holds (Prod.fst x_1 = Prod.fst x ∧ Prod.fst (Prod.snd (Prod.snd (Prod.snd x_1))) = Ty.ix Ty.item (Prod.fst x) (Int.toNat (Prod.snd (Prod.snd (Prod.snd (Prod.snd (Prod.snd x)))))) ∧ Prod.fst (Prod.snd (Prod.snd (Prod.snd (Prod.snd (Prod.snd x_1))))) = Prod.fst (Prod.snd (Prod.snd (Prod.snd (Prod.snd x)))) ∧ Prod.fst (Prod.snd (Prod.snd (Prod.snd (Prod.snd (Prod.snd (Prod.snd x_1)))))) = Prod.snd (Prod.snd (Prod.snd (Prod.snd (Prod.snd x)))) ∧ Prod.fst (Prod.snd (Prod.snd (Prod.snd (Prod.snd (Prod.snd (Prod.snd (Prod.snd x_1))))))) = (Int.toNat (IntKind.wrap IntKind.i64 (Prod.snd (Prod.snd (Prod.snd (Prod.snd (Prod.snd x)))) + (1 : Int))), List.length (Prod.fst x) - Int.toNat (IntKind.wrap IntKind.i64 (Prod.snd (Prod.snd (Prod.snd (Prod.snd (Prod.snd x)))) + (1 : Int)))) ∧ Prod.fst (Prod.snd (Prod.snd (Prod.snd (Prod.snd (Prod.snd (Prod.snd (Prod.snd (Prod.snd x_1)))))))) = (↑(List.length (Prod.fst x) - Int.toNat (IntKind.wrap IntKind.i64 (Prod.snd (Prod.snd (Prod.snd (Prod.snd (Prod.snd x)))) + (1 : Int)))) : Int) ∧ (0 : Int) ≤ IntKind.wrap IntKind.i64 (Prod.snd (Prod.snd (Prod.snd (Prod.snd (Prod.snd (Prod.snd (Prod.snd (Prod.snd (Prod.snd x_1)))))))) + (1 : Int)) ∧ IntKind.wrap IntKind.i64 (Prod.snd (Prod.snd (Prod.snd (Prod.snd (Prod.snd (Prod.snd (Prod.snd (Prod.snd (Prod.snd x_1)))))))) + (1 : Int)) ≤ (↑(List.length (Prod.fst x) - Int.toNat (IntKind.wrap IntKind.i64 (Prod.snd (Prod.snd (Prod.snd (Prod.snd (Prod.snd x)))) + (1 : Int)))) : Int) ∧ Prod.fst (Prod.snd (Prod.snd x_1)) ++ rowF (Ty.ix Ty.item (Prod.fst x) (Int.toNat (Prod.snd (Prod.snd (Prod.snd (Prod.snd (Prod.snd x))))))) (List.drop (Int.toNat (IntKind.wrap IntKind.i64 (Prod.snd (Prod.snd (Prod.snd (Prod.snd (Prod.snd x)))) + (1 : Int))) + Int.toNat (IntKind.wrap IntKind.i64 (Prod.snd (Prod.snd (Prod.snd (Prod.snd (Prod.snd (Prod.snd (Prod.snd (Prod.snd (Prod.snd x_1)))))))) + (1 : Int)))) (Prod.fst x)) = Prod.fst (Prod.snd (Prod.snd x)) ++ rowF (Ty.ix Ty.item (Prod.fst x) (Int.toNat (Prod.snd (Prod.snd (Prod.snd (Prod.snd (Prod.snd x))))))) (List.drop (Int.toNat (IntKind.wrap IntKind.i64 (Prod.snd (Prod.snd (Prod.snd (Prod.snd (Prod.snd x)))) + (1 : Int))) + Int.toNat (0 : Int)) (Prod.fst x))) ∧ Int.toNat (Prod.fst (Prod.snd (Prod.snd (Prod.snd (Prod.snd (Prod.snd (Prod.snd (Prod.snd (Prod.snd x_1)))))))) - IntKind.wrap IntKind.i64 (Prod.snd (Prod.snd (Prod.snd (Prod.snd (Prod.snd (Prod.snd (Prod.snd (Prod.snd (Prod.snd x_1)))))))) + (1 : Int))) < Int.toNat (Prod.fst (Prod.snd (Prod.snd (Prod.snd (Prod.snd (Prod.snd (Prod.snd (Prod.snd (Prod.snd x_1)))))))) - Prod.snd (Prod.snd (Prod.snd (Prod.snd (Prod.snd (Prod.snd (Prod.snd (Prod.snd (Prod.snd x_1))))))))))) (Holds (Prod.fst x_1 = xs ∧ Prod.fst (Prod.snd (Prod.snd (Prod.snd (Prod.snd (Prod.snd x_1))))) = (↑(List.length xs) : Int) ∧ (0 : Int) ≤ IntKind.wrap IntKind.i64 (Prod.fst (Prod.snd (Prod.snd (Prod.snd (Prod.snd (Prod.snd (Prod.snd x_1)))))) + (1 : Int)) ∧ IntKind.wrap IntKind.i64 (Prod.fst (Prod.snd (Prod.snd (Prod.snd (Prod.snd (Prod.snd (Prod.snd x_1)))))) + (1 : Int)) ≤ (↑(List.length xs) : Int) ∧ Prod.fst (Prod.snd (Prod.snd x_1)) ++ pairsF (List.drop (Int.toNat (IntKind.wrap IntKind.i64 (Prod.fst (Prod.snd (Prod.snd (Prod.snd (Prod.snd (Prod.snd (Prod.snd x_1)))))) + (1 : Int)))) xs) = pairsF xs) ∧ Int.toNat ((↑(List.length (Prod.fst x_1)) : Int) - IntKind.wrap IntKind.i64 (Prod.fst (Prod.snd (Prod.snd (Prod.snd (Prod.snd (Prod.snd (Prod.snd x_1)))))) + (1 : Int))) < Int.toNat ((↑(List.length (Prod.fst x)) : Int) - Prod.snd (Prod.snd (Prod.snd (Prod.snd (Prod.snd x))))))) (Q (SV.vec (1 : Nat)) [(false, Blk.vec Ty.item (Prod.fst x)), (true, Blk.vec Ty.pair (Prod.fst (Prod.snd (Prod.snd x))))]))) := by kernel_rfl

theorem ok_implBroadPairs : FsOk Try.prog 20 fs_implBroadPairs := fsOk_of tt_ok (tabFs_cons ok_implBroadOk (tabFs_cons ok_implMeets tabFs_nil)) mixed Try.func20 (by kernel_rfl) (by kernel_rfl) (by
    intro args LL p r HH h hp
    unfold fs_implBroadPairs at h
    dsimp only at h
    split at h
    case h_2 => cases h
    rename_i xs
    simp only [Option.some.injEq, Prod.mk.injEq] at h
    obtain ⟨rfl, rfl, rfl⟩ := h
    refine ⟨by simp [Form, stays], (L_implPairs), ?_⟩
    rw [vc_implBroadPairs]
    try dsimp only
    have hb := hp _ rfl
    refine ⟨hb, ifB_of (fun c1 => ?_) (fun c1 => ?_)⟩
    · simp [broadPairs, not_true c1]
    have c1 := not_false c1
    have hl := itemsOk_len c1
    have hq := length_pairsF xs
    have hq2 := length_sq hl
    simp only [broadPairs, c1, cond_true]
    refine ⟨⟨(by trivial), (by trivial), by omega, by omega, (by trivial)⟩, ?_⟩
    rintro ⟨xs', u, out, v, n, i⟩ ⟨h⟩
    dsimp only at h ⊢
    obtain ⟨rfl, rfl, h0, h1, h2⟩ := h
    refine ifB_of (fun c1 => ?_) (fun c1 => ?_)
    · have hi := of_decide_eq_true c1
      have e1 : (i + 1).toNat = i.toNat + 1 := by omega
      have hs2 := congrArg List.length h2
      rw [pairsF_drop (show i.toNat < xs'.length by omega)] at h2 hs2
      simp only [List.length_append] at hs2
      have hw : IntKind.i64.wrap (i + 1) = i + 1 := wrap_small (by omega) (by omega)
      rw [hw]
      refine ⟨⟨h0, hi⟩, ⟨by omega, by omega⟩, ⟨(by trivial), (by trivial), (by trivial), (by trivial), (by trivial), (by trivial), by omega, by omega, (by trivial)⟩, ?_⟩
      rintro ⟨xs'', u', out', x, v', n, i', z, m, k⟩ ⟨h⟩
      dsimp only at h ⊢
      obtain ⟨rfl, rfl, rfl, rfl, rfl, rfl, g1, g2, g3⟩ := h
      dsimp only at g2 g3 ⊢
      have hs3 := congrArg List.length g3
      rw [e1] at g3 hs3 ⊢
      have z0 : (0 : Int).toNat = 0 := rfl
      simp only [List.length_append, z0, Nat.add_zero] at hs3
      refine ifB_of (fun c2 => ?_) (fun c2 => ?_)
      · have hk := of_decide_eq_true c2
        have e2 : (k + 1).toNat = k.toNat + 1 := by omega
        rw [rowF_drop (show i'.toNat + 1 + k.toNat < xs''.length by omega)] at g3
        refine ⟨⟨by omega, hk⟩, ifB_of (fun c3 => ?_) (fun c3 => ?_)⟩
        · rw [c3] at g3
          simp (disch := omega) only [wrap_small, e1, e2]
          refine ⟨by simp only [room, List.length_singleton]; omega, ⟨(by trivial), (by trivial), (by trivial), (by trivial), (by trivial), (by trivial), by omega, by omega, ?_⟩, by omega⟩
          rw [← g3, List.append_assoc]
          rfl
        · rw [c3] at g3
          simp (disch := omega) only [wrap_small, e1, e2]
          exact ⟨⟨(by trivial), (by trivial), (by trivial), (by trivial), (by trivial), (by trivial), by omega, by omega, g3⟩, by omega⟩
      · have hk := of_decide_eq_false c2
        simp (disch := omega) only [wrap_small, e1]
        rw [drop_end (i := i'.toNat + 1 + k.toNat) (by omega)] at g3
        refine ⟨⟨(by trivial), (by trivial), by omega, by omega, ?_⟩, by omega⟩
        rw [← h2, ← List.append_assoc]
        rw [z0, Nat.add_zero] at g3
        rw [← g3]
        simp [rowF]
    · have hi := of_decide_eq_false c1
      rw [drop_end (by omega)] at h2
      rw [← h2]
      simp [pairsF])

theorem length_broadAsk {xs : List Item} {x : Box} : (broadAsk xs x).length ≤ 24 := by
  unfold broadAsk
  cases c : itemsOk xs
  · simp
  · cases boxOk x
    · simp
    · have := itemsOk_len c
      have := length_askF x xs
      simp only [Bool.and_true, cond_true]
      omega
theorem length_broadPairs {xs : List Item} : (broadPairs xs).length ≤ 576 := by
  unfold broadPairs
  cases c : itemsOk xs
  · simp
  · have := length_sq (itemsOk_len c)
    have := length_pairsF xs
    simp only [cond_true]
    omega
end Go.Proofs.Ytgdpaijphaeimaa.Sym
