/-
  Lists of items.
  No condition.
-/
import Derived.Test.YteeelenokjahnaaF4
import Derived.Test.YteeelenokjahnaaSymX
namespace Go.Proofs.Yteeelenokjahnaa.Sym
open Go
set_option linter.unusedVariables false
set_option linter.unusedSimpArgs false
set_option maxRecDepth 100000

/-- The bound on what comes in: what is left of it, or -1. -/
def szLeft (b n : Int) : Int := if W (b - n) < 0 then -1 else W (b - n)
def itemOk (x : Item) : Bool := isIn x.Id 0 1000000000 && boxOk x.Box
/-- All below a number. -/
def allTo (p : Nat → Bool) : Nat → Bool
  | 0 => true
  | k + 1 => allTo p k && p k
theorem allTo_false {p : Nat → Bool} {k : Nat} (hk : p k = false) : ∀ {n : Nat}, k < n → allTo p n = false
  | n + 1, h => by
    simp only [allTo]
    by_cases e : k = n
    · subst e; simp [hk]
    · simp [allTo_false hk (n := n) (by omega)]
theorem allTo_true {p : Nat → Bool} : ∀ {n : Nat}, (∀ k, k < n → p k = true) → allTo p n = true
  | 0, _ => rfl
  | n + 1, h => by simp only [allTo, allTo_true (n := n) fun k hk => h k (by omega), h n (by omega), Bool.and_self]
def itemAt (xs : List Item) (k : Nat) : Bool := itemOk (Ty.ix .item xs k) && (k == 0 || decide ((Ty.ix .item xs (k - 1)).Id < (Ty.ix .item xs k).Id))
def itemsOk (xs : List Item) : Bool := allTo (itemAt xs) xs.length && decide (xs.length ≤ 24)
def eqV2 (a b : Vec) : Bool := a.X == b.X && a.Y == b.Y
def eqBox2 (a b : Box) : Bool := eqV2 a.Low b.Low && eqV2 a.High b.High
def eqItem2 (a b : Item) : Bool := a.Id == b.Id && eqBox2 a.Box b.Box
def eqItemAt (xs ys : List Item) (k : Nat) : Bool := eqItem2 (Ty.ix .item xs k) (Ty.ix .item ys k)
def eqItems (xs ys : List Item) : Bool := xs.length == ys.length && allTo (eqItemAt xs ys) xs.length
theorem eqItems_self (xs : List Item) : eqItems xs xs = true := by
  have : allTo (eqItemAt xs xs) xs.length = true := allTo_true fun k _ => by simp [eqItemAt, eqItem2, eqBox2, eqV2]
  simp [eqItems, this]

theorem take_set {T : Ty} {ys xs : List T.El} {k : Nat} (hl : ys.length = xs.length) (h : ys.take k = xs.take k) (hk : k < xs.length) : (ys.set k (Ty.ix T xs k)).take (k + 1) = xs.take (k + 1) := by
  apply List.ext_getElem?
  intro j
  have hj : ys.take k = xs.take k := h
  have hget : ∀ q, q < k → ys[q]? = xs[q]? := fun q hq => by
    have := congrArg (fun l => l[q]?) h
    simpa [List.getElem?_take, hq] using this
  simp only [List.getElem?_take]
  split
  · rename_i hjk
    by_cases e : j = k
    · subst e
      rw [List.getElem?_set_self (by omega)]
      simp [Ty.ix, List.getD, hk]
    · rw [List.getElem?_set_ne (by omega)]
      exact hget j (by omega)
  · rfl

def fs_szItemS : Fs := ⟨[], fun args H => match args, H with
  | [.vec 0, .int .i64 b], [(false, .vec .item xs)] => some (none, .int .i64 (szLeft b xs.length), [(false, .vec .item xs)])
  | _, _ => none⟩

theorem vc_szItemS (xs : List Item) (b : Int) (Q : SV → List Ent → Prop) :
    fnVC tt (look []) L0 Try.f68 [.vec 0, .int .i64 b] [(false, .vec .item xs)] Q =
    (ifB (decide (IntKind.wrap IntKind.i64 (b - (↑(List.length xs) : Int)) < (0 : Int))) (Q (SV.int IntKind.i64 (-1 : Int)) [(false, Blk.vec Ty.item xs)]) (Q (SV.int IntKind.i64 (IntKind.wrap IntKind.i64 (b - (↑(List.length xs) : Int)))) [(false, Blk.vec Ty.item xs)])) := by kernel_rfl

theorem ok_szItemS : FsOk Try.prog 68 fs_szItemS := fsOk_of tt_ok tabFs_nil mixed Try.func68 (by kernel_rfl) (by kernel_rfl) (by
    intro args LL p r HH h hp
    unfold fs_szItemS at h
    dsimp only at h
    split at h
    case h_2 => cases h
    rename_i xs b
    simp only [Option.some.injEq, Prod.mk.injEq] at h
    obtain ⟨rfl, rfl, rfl⟩ := h
    refine ⟨by simp [Form, stays], L0, ?_⟩
    rw [vc_szItemS]
    try dsimp only

    repeat' (first | refine ifB_of (fun _ => ?_) (fun _ => ?_) | refine pre_of ?_ (fun _ => ?_))
    all_goals first
      | rfl
      | (simp only [W, szLeft, *, cond_true, cond_false, Bool.true_and, Bool.false_and, Bool.and_true, Bool.and_false, Bool.not_true, Bool.not_false, and_self, true_and]; done)
      | (simp_all [W, szLeft]; done)
      | (simp_all [W, szLeft] <;> omega))

def fs_szBroad : Fs := ⟨[], fun args H => match args, H with
  | [.agg [.vec 0], .int .i64 b], [(false, .vec .item xs)] => some (none, .int .i64 (szLeft b xs.length), [(false, .vec .item xs)])
  | _, _ => none⟩

theorem vc_szBroad (xs : List Item) (b : Int) (Q : SV → List Ent → Prop) :
    fnVC tt (look [(68, fs_szItemS)]) L0 Try.f15 [.agg [.vec 0], .int .i64 b] [(false, .vec .item xs)] Q =
    (ifB (decide (szLeft b (↑(List.length xs) : Int) < (0 : Int))) (Q (SV.int IntKind.i64 (-1 : Int)) [(false, Blk.vec Ty.item xs)]) (Q (SV.int IntKind.i64 (szLeft b (↑(List.length xs) : Int))) [(false, Blk.vec Ty.item xs)])) := by kernel_rfl

theorem ok_szBroad : FsOk Try.prog 15 fs_szBroad := fsOk_of tt_ok (tabFs_cons ok_szItemS tabFs_nil) mixed Try.func15 (by kernel_rfl) (by kernel_rfl) (by
    intro args LL p r HH h hp
    unfold fs_szBroad at h
    dsimp only at h
    split at h
    case h_2 => cases h
    rename_i xs b
    simp only [Option.some.injEq, Prod.mk.injEq] at h
    obtain ⟨rfl, rfl, rfl⟩ := h
    refine ⟨by simp [Form, stays], L0, ?_⟩
    rw [vc_szBroad]
    try dsimp only

    repeat' (first | refine ifB_of (fun _ => ?_) (fun _ => ?_) | refine pre_of ?_ (fun _ => ?_))
    all_goals first
      | rfl
      | (simp only [W, szLeft, *, cond_true, cond_false, Bool.true_and, Bool.false_and, Bool.and_true, Bool.and_false, Bool.not_true, Bool.not_false, and_self, true_and]; done)
      | (simp_all [W, szLeft]; done)
      | (simp_all [W, szLeft] <;> omega))

def fs_lawsToItem : Fs := ⟨[], fun args H => match args, H with
  | [.agg [.int .i64 xI, .int .i64 xLX, .int .i64 xLY, .int .i64 xHX, .int .i64 xHY]], [] => some (none, .agg [.int .i64 ((Item.mk xI (Box.mk (Vec.mk xLX xLY) (Vec.mk xHX xHY)))).Id, .int .i64 ((Item.mk xI (Box.mk (Vec.mk xLX xLY) (Vec.mk xHX xHY)))).Box.Low.X, .int .i64 ((Item.mk xI (Box.mk (Vec.mk xLX xLY) (Vec.mk xHX xHY)))).Box.Low.Y, .int .i64 ((Item.mk xI (Box.mk (Vec.mk xLX xLY) (Vec.mk xHX xHY)))).Box.High.X, .int .i64 ((Item.mk xI (Box.mk (Vec.mk xLX xLY) (Vec.mk xHX xHY)))).Box.High.Y], [])
  | _, _ => none⟩

theorem vc_lawsToItem (xI : Int) (xLX : Int) (xLY : Int) (xHX : Int) (xHY : Int) (Q : SV → List Ent → Prop) :
    fnVC tt (look [(35, fs_lawsToBox)]) L0 Try.f122 [.agg [.int .i64 xI, .int .i64 xLX, .int .i64 xLY, .int .i64 xHX, .int .i64 xHY]] [] Q =
    (Q (SV.agg [SV.int IntKind.i64 xI, SV.int IntKind.i64 xLX, SV.int IntKind.i64 xLY, SV.int IntKind.i64 xHX, SV.int IntKind.i64 xHY]) []) := by kernel_rfl

theorem ok_lawsToItem : FsOk Try.prog 122 fs_lawsToItem := fsOk_of tt_ok (tabFs_cons ok_lawsToBox tabFs_nil) mixed Try.func122 (by kernel_rfl) (by kernel_rfl) (by
    intro args LL p r HH h hp
    unfold fs_lawsToItem at h
    dsimp only at h
    split at h
    case h_2 => cases h
    rename_i xI xLX xLY xHX xHY
    simp only [Option.some.injEq, Prod.mk.injEq] at h
    obtain ⟨rfl, rfl, rfl⟩ := h
    refine ⟨by simp [Form, stays], L0, ?_⟩
    rw [vc_lawsToItem]
    try dsimp only

    repeat' (first | refine ifB_of (fun _ => ?_) (fun _ => ?_) | refine pre_of ?_ (fun _ => ?_))
    all_goals first
      | rfl
      | (simp only [W, isIn, *, cond_true, cond_false, Bool.true_and, Bool.false_and, Bool.and_true, Bool.and_false, Bool.not_true, Bool.not_false, and_self, true_and]; done)
      | (simp_all [W, isIn]; done)
      | (simp_all [W, isIn] <;> omega))

def fs_implItemOk : Fs := ⟨[], fun args H => match args, H with
  | [.agg [.int .i64 xI, .int .i64 xLX, .int .i64 xLY, .int .i64 xHX, .int .i64 xHY]], [] => some (none, .bool (itemOk (Item.mk xI (Box.mk (Vec.mk xLX xLY) (Vec.mk xHX xHY)))), [])
  | _, _ => none⟩

theorem vc_implItemOk (xI : Int) (xLX : Int) (xLY : Int) (xHX : Int) (xHY : Int) (Q : SV → List Ent → Prop) :
    fnVC tt (look [(80, fs_in_), (94, fs_implBoxOk)]) L0 Try.f71 [.agg [.int .i64 xI, .int .i64 xLX, .int .i64 xLY, .int .i64 xHX, .int .i64 xHY]] [] Q =
    (ifB (isIn xI (0 : Int) (1000000000 : Int)) (Q (SV.bool (boxOk (Box.mk (Vec.mk xLX xLY) (Vec.mk xHX xHY)))) []) (Q (SV.bool false) [])) := by kernel_rfl

theorem ok_implItemOk : FsOk Try.prog 71 fs_implItemOk := fsOk_of tt_ok (tabFs_cons ok_in_ (tabFs_cons ok_implBoxOk tabFs_nil)) mixed Try.func71 (by kernel_rfl) (by kernel_rfl) (by
    intro args LL p r HH h hp
    unfold fs_implItemOk at h
    dsimp only at h
    split at h
    case h_2 => cases h
    rename_i xI xLX xLY xHX xHY
    simp only [Option.some.injEq, Prod.mk.injEq] at h
    obtain ⟨rfl, rfl, rfl⟩ := h
    refine ⟨by simp [Form, stays], L0, ?_⟩
    rw [vc_implItemOk]
    try dsimp only

    repeat' (first | refine ifB_of (fun _ => ?_) (fun _ => ?_) | refine pre_of ?_ (fun _ => ?_))
    all_goals first
      | rfl
      | (simp only [W, itemOk, *, cond_true, cond_false, Bool.true_and, Bool.false_and, Bool.and_true, Bool.and_false, Bool.not_true, Bool.not_false, and_self, true_and]; done)
      | (simp_all [W, itemOk]; done)
      | (simp_all [W, itemOk] <;> omega))

def LStoItemS (xs : List Item) : LS where
  S := List Item × Unit × List Item × Int
  live := [(0, [none]), (3, [some .item]), (4, [none])]
  shape := fun s => ([.vec 0, .vec 1, .int .i64 s.2.2.2], [(false, .vec .item s.1), (true, .vec .item s.2.2.1)])
  get := fun v h => match v, h with
    | [.vec 0, .vec 1, .int .i64 i], [(false, .vec .item xs'), (true, .vec .item ys)] => some (xs', (), ys, i)
    | _, _ => none
  inv := fun s => Holds (s.1 = xs ∧ s.2.2.1.length = xs.length ∧ 0 ≤ s.2.2.2 ∧ s.2.2.2 ≤ xs.length ∧ s.2.2.1.take s.2.2.2.toNat = xs.take s.2.2.2.toNat)
  mu := fun s => ((xs.length : Int) - s.2.2.2).toNat
  ok := by
    intro v h s hg
    try dsimp only at hg
    split at hg <;> cases hg
    rfl

def L_toItemS (xs : List Item) : Loops := fun n => match n with
  | 3 => some (LStoItemS xs)
  | _ => none
def fs_lawsToItemS : Fs := ⟨[], fun args H => match args, H with
  | [.vec 0], [(false, .vec .item xs)] => some ((some (xs.length ≤ 1048576)), .vec 1, [(false, .vec .item xs), (true, .vec .item xs)])
  | _, _ => none⟩

theorem vc_lawsToItemS (xs : List Item) (Q : SV → List Ent → Prop) :
    fnVC tt (look [(122, fs_lawsToItem)]) (L_toItemS xs) Try.f70 [.vec 0] [(false, .vec .item xs)] Q =
    (((0 : Int) ≤ (↑(List.length xs) : Int) ∧ (↑(List.length xs) : Int) = (↑(List.length xs) : Int) ∧ Int.toNat (↑(List.length xs) : Int) * (40 : Nat) ≤ room) ∧ Holds (xs = xs ∧ List.length (List.replicate (Int.toNat (↑(List.length xs) : Int)) (Item.mk (0 : Int) (Box.mk (Vec.mk (0 : Int) (0 : Int)) (Vec.mk (0 : Int) (0 : Int))))) = List.length xs ∧ (0 : Int) ≤ (0 : Int) ∧ (0 : Int) ≤ (↑(List.length xs) : Int) ∧ List.take (Int.toNat (0 : Int)) (List.replicate (Int.toNat (↑(List.length xs) : Int)) (Item.mk (0 : Int) (Box.mk (Vec.mk (0 : Int) (0 : Int)) (Vec.mk (0 : Int) (0 : Int))))) = List.take (Int.toNat (0 : Int)) xs) ∧ ∀ (x : List Item × Unit × List Item × Int), Holds (Prod.fst x = xs ∧ List.length (Prod.fst (Prod.snd (Prod.snd x))) = List.length xs ∧ (0 : Int) ≤ Prod.snd (Prod.snd (Prod.snd x)) ∧ Prod.snd (Prod.snd (Prod.snd x)) ≤ (↑(List.length xs) : Int) ∧ List.take (Int.toNat (Prod.snd (Prod.snd (Prod.snd x)))) (Prod.fst (Prod.snd (Prod.snd x))) = List.take (Int.toNat (Prod.snd (Prod.snd (Prod.snd x)))) xs) → ifB (decide (Prod.snd (Prod.snd (Prod.snd x)) < (↑(List.length (Prod.fst x)) : Int))) (((0 : Int) ≤ Prod.snd (Prod.snd (Prod.snd x)) ∧ Prod.snd (Prod.snd (Prod.snd x)) < (↑(List.length (Prod.fst x)) : Int)) ∧ ((0 : Int) ≤ Prod.snd (Prod.snd (Prod.snd x)) ∧ Prod.snd (Prod.snd (Prod.snd x)) < (↑(List.length (Prod.fst (Prod.snd (Prod.snd x)))) : Int)) ∧ Holds (Prod.fst x = xs ∧ List.length (List.set (Prod.fst (Prod.snd (Prod.snd x))) (Int.toNat (Prod.snd (Prod.snd (Prod.snd x)))) (Ty.ix Ty.item (Prod.fst x) (Int.toNat (Prod.snd (Prod.snd (Prod.snd x)))))) = List.length xs ∧ (0 : Int) ≤ IntKind.wrap IntKind.i64 (Prod.snd (Prod.snd (Prod.snd x)) + (1 : Int)) ∧ IntKind.wrap IntKind.i64 (Prod.snd (Prod.snd (Prod.snd x)) + (1 : Int)) ≤ (↑(List.length xs) : Int) ∧ List.take (Int.toNat (IntKind.wrap IntKind.i64 (Prod.snd (Prod.snd (Prod.snd x)) + (1 : Int)))) (List.set (Prod.fst (Prod.snd (Prod.snd x))) (Int.toNat (Prod.snd (Prod.snd (Prod.snd x)))) (Ty.ix Ty.item (Prod.fst x) (Int.toNat (Prod.snd (Prod.snd (Prod.snd x)))))) = List.take (Int.toNat (IntKind.wrap IntKind.i64 (Prod.snd (Prod.snd (Prod.snd x)) + (1 : Int)))) xs) ∧ Int.toNat ((↑(List.length xs) : Int) - IntKind.wrap IntKind.i64 (Prod.snd (Prod.snd (Prod.snd x)) + (1 : Int))) < Int.toNat ((↑(List.length xs) : Int) - Prod.snd (Prod.snd (Prod.snd x)))) (Q (SV.vec (1 : Nat)) [(false, Blk.vec Ty.item (Prod.fst x)), (true, Blk.vec Ty.item (Prod.fst (Prod.snd (Prod.snd x))))])) := by kernel_rfl

theorem ok_lawsToItemS : FsOk Try.prog 70 fs_lawsToItemS := fsOk_of tt_ok (tabFs_cons ok_lawsToItem tabFs_nil) mixed Try.func70 (by kernel_rfl) (by kernel_rfl) (by
    intro args LL p r HH h hp
    unfold fs_lawsToItemS at h
    dsimp only at h
    split at h
    case h_2 => cases h
    rename_i xs
    simp only [Option.some.injEq, Prod.mk.injEq] at h
    obtain ⟨rfl, rfl, rfl⟩ := h
    refine ⟨by simp [Form, stays], (L_toItemS xs), ?_⟩
    rw [vc_lawsToItemS]
    try dsimp only
    have hb := hp _ rfl
    refine ⟨⟨by omega, rfl, by simp only [room]; omega⟩, ⟨rfl, by simp, by omega, by omega, by simp⟩, ?_⟩
    rintro ⟨xs', u, ys, i⟩ ⟨h⟩
    obtain ⟨rfl, h0, h1, h2, h3⟩ := h
    dsimp only at hb h0 h1 h2 h3 ⊢
    refine ifB_of (fun c => ?_) (fun c => ?_)
    · have hi : i < xs'.length := of_decide_eq_true c
      have hw : IntKind.i64.wrap (i + 1) = i + 1 := wrap_small (by omega) (by omega)
      have e1 : (i + 1).toNat = i.toNat + 1 := by omega
      rw [hw]
      refine ⟨⟨h1, hi⟩, ⟨h1, by omega⟩, ⟨rfl, by simp [h0], by omega, by omega, ?_⟩, by omega⟩
      rw [e1]
      exact take_set (T := .item) (ys := ys) (xs := xs') h0 h3 (by omega)
    · have hi : ¬ i < xs'.length := of_decide_eq_false c
      have e1 : ys.take i.toNat = ys := List.take_of_length_le (show ys.length ≤ i.toNat by omega)
      have e2 : xs'.take i.toNat = xs' := List.take_of_length_le (show xs'.length ≤ i.toNat by omega)
      rw [e1, e2] at h3
      subst h3
      exact ⟨rfl, rfl⟩)


def fs_lawsToBroad : Fs := ⟨[], fun args H => match args, H with
  | [.agg [.vec 0]], [(false, .vec .item xs)] => some ((some (xs.length ≤ 1048576)), .agg [.vec 1], [(false, .vec .item xs), (true, .vec .item xs)])
  | _, _ => none⟩

theorem vc_lawsToBroad (xs : List Item) (Q : SV → List Ent → Prop) :
    fnVC tt (look [(70, fs_lawsToItemS)]) L0 Try.f17 [.agg [.vec 0]] [(false, .vec .item xs)] Q =
    (List.length xs ≤ (1048576 : Nat) ∧ Q (SV.agg [SV.vec (1 : Nat)]) [(false, Blk.vec Ty.item xs), (true, Blk.vec Ty.item xs)]) := by kernel_rfl

theorem ok_lawsToBroad : FsOk Try.prog 17 fs_lawsToBroad := fsOk_of tt_ok (tabFs_cons ok_lawsToItemS tabFs_nil) mixed Try.func17 (by kernel_rfl) (by kernel_rfl) (by
    intro args LL p r HH h hp
    unfold fs_lawsToBroad at h
    dsimp only at h
    split at h
    case h_2 => cases h
    rename_i xs
    simp only [Option.some.injEq, Prod.mk.injEq] at h
    obtain ⟨rfl, rfl, rfl⟩ := h
    refine ⟨by simp [Form, stays], L0, ?_⟩
    rw [vc_lawsToBroad]
    try dsimp only
    have hb := hp _ rfl
    exact ⟨hb, rfl, rfl⟩)

def fs_lawsEqVec : Fs := ⟨[], fun args H => match args, H with
  | [.agg [.int .i64 aX, .int .i64 aY], .agg [.int .i64 bX, .int .i64 bY]], [] => some (none, .bool (eqV2 (Vec.mk aX aY) (Vec.mk bX bY)), [])
  | _, _ => none⟩

theorem vc_lawsEqVec (aX : Int) (aY : Int) (bX : Int) (bY : Int) (Q : SV → List Ent → Prop) :
    fnVC tt (look []) L0 Try.f57 [.agg [.int .i64 aX, .int .i64 aY], .agg [.int .i64 bX, .int .i64 bY]] [] Q =
    (ifB (aX != bX) (Q (SV.bool false) []) (ifB (aY != bY) (Q (SV.bool false) []) (Q (SV.bool true) []))) := by kernel_rfl

theorem ok_lawsEqVec : FsOk Try.prog 57 fs_lawsEqVec := fsOk_of tt_ok tabFs_nil mixed Try.func57 (by kernel_rfl) (by kernel_rfl) (by
    intro args LL p r HH h hp
    unfold fs_lawsEqVec at h
    dsimp only at h
    split at h
    case h_2 => cases h
    rename_i aX aY bX bY
    simp only [Option.some.injEq, Prod.mk.injEq] at h
    obtain ⟨rfl, rfl, rfl⟩ := h
    refine ⟨by simp [Form, stays], L0, ?_⟩
    rw [vc_lawsEqVec]
    try dsimp only

    repeat' (first | refine ifB_of (fun _ => ?_) (fun _ => ?_) | refine pre_of ?_ (fun _ => ?_))
    all_goals first
      | rfl
      | (simp only [W, eqV2, *, cond_true, cond_false, Bool.true_and, Bool.false_and, Bool.and_true, Bool.and_false, Bool.not_true, Bool.not_false, and_self, true_and]; done)
      | (simp_all [W, eqV2]; done)
      | (simp_all [W, eqV2] <;> omega))

def fs_lawsEqBox : Fs := ⟨[], fun args H => match args, H with
  | [.agg [.int .i64 aLX, .int .i64 aLY, .int .i64 aHX, .int .i64 aHY], .agg [.int .i64 bLX, .int .i64 bLY, .int .i64 bHX, .int .i64 bHY]], [] => some (none, .bool (eqBox2 (Box.mk (Vec.mk aLX aLY) (Vec.mk aHX aHY)) (Box.mk (Vec.mk bLX bLY) (Vec.mk bHX bHY))), [])
  | _, _ => none⟩

theorem vc_lawsEqBox (aLX : Int) (aLY : Int) (aHX : Int) (aHY : Int) (bLX : Int) (bLY : Int) (bHX : Int) (bHY : Int) (Q : SV → List Ent → Prop) :
    fnVC tt (look [(57, fs_lawsEqVec)]) L0 Try.f155 [.agg [.int .i64 aLX, .int .i64 aLY, .int .i64 aHX, .int .i64 aHY], .agg [.int .i64 bLX, .int .i64 bLY, .int .i64 bHX, .int .i64 bHY]] [] Q =
    (ifB (!eqV2 (Vec.mk aLX aLY) (Vec.mk bLX bLY)) (Q (SV.bool false) []) (ifB (!eqV2 (Vec.mk aHX aHY) (Vec.mk bHX bHY)) (Q (SV.bool false) []) (Q (SV.bool true) []))) := by kernel_rfl

theorem ok_lawsEqBox : FsOk Try.prog 155 fs_lawsEqBox := fsOk_of tt_ok (tabFs_cons ok_lawsEqVec tabFs_nil) mixed Try.func155 (by kernel_rfl) (by kernel_rfl) (by
    intro args LL p r HH h hp
    unfold fs_lawsEqBox at h
    dsimp only at h
    split at h
    case h_2 => cases h
    rename_i aLX aLY aHX aHY bLX bLY bHX bHY
    simp only [Option.some.injEq, Prod.mk.injEq] at h
    obtain ⟨rfl, rfl, rfl⟩ := h
    refine ⟨by simp [Form, stays], L0, ?_⟩
    rw [vc_lawsEqBox]
    try dsimp only

    repeat' (first | refine ifB_of (fun _ => ?_) (fun _ => ?_) | refine pre_of ?_ (fun _ => ?_))
    all_goals first
      | rfl
      | (simp only [W, eqBox2, *, cond_true, cond_false, Bool.true_and, Bool.false_and, Bool.and_true, Bool.and_false, Bool.not_true, Bool.not_false, and_self, true_and]; done)
      | (simp_all [W, eqBox2]; done)
      | (simp_all [W, eqBox2] <;> omega))

def fs_lawsEqItem : Fs := ⟨[], fun args H => match args, H with
  | [.agg [.int .i64 aI, .int .i64 aLX, .int .i64 aLY, .int .i64 aHX, .int .i64 aHY], .agg [.int .i64 bI, .int .i64 bLX, .int .i64 bLY, .int .i64 bHX, .int .i64 bHY]], [] => some (none, .bool (eqItem2 (Item.mk aI (Box.mk (Vec.mk aLX aLY) (Vec.mk aHX aHY))) (Item.mk bI (Box.mk (Vec.mk bLX bLY) (Vec.mk bHX bHY)))), [])
  | _, _ => none⟩

theorem vc_lawsEqItem (aI : Int) (aLX : Int) (aLY : Int) (aHX : Int) (aHY : Int) (bI : Int) (bLX : Int) (bLY : Int) (bHX : Int) (bHY : Int) (Q : SV → List Ent → Prop) :
    fnVC tt (look [(155, fs_lawsEqBox)]) L0 Try.f123 [.agg [.int .i64 aI, .int .i64 aLX, .int .i64 aLY, .int .i64 aHX, .int .i64 aHY], .agg [.int .i64 bI, .int .i64 bLX, .int .i64 bLY, .int .i64 bHX, .int .i64 bHY]] [] Q =
    (ifB (aI != bI) (Q (SV.bool false) []) (ifB (!eqBox2 (Box.mk (Vec.mk aLX aLY) (Vec.mk aHX aHY)) (Box.mk (Vec.mk bLX bLY) (Vec.mk bHX bHY))) (Q (SV.bool false) []) (Q (SV.bool true) []))) := by kernel_rfl

theorem ok_lawsEqItem : FsOk Try.prog 123 fs_lawsEqItem := fsOk_of tt_ok (tabFs_cons ok_lawsEqBox tabFs_nil) mixed Try.func123 (by kernel_rfl) (by kernel_rfl) (by
    intro args LL p r HH h hp
    unfold fs_lawsEqItem at h
    dsimp only at h
    split at h
    case h_2 => cases h
    rename_i aI aLX aLY aHX aHY bI bLX bLY bHX bHY
    simp only [Option.some.injEq, Prod.mk.injEq] at h
    obtain ⟨rfl, rfl, rfl⟩ := h
    refine ⟨by simp [Form, stays], L0, ?_⟩
    rw [vc_lawsEqItem]
    try dsimp only

    repeat' (first | refine ifB_of (fun _ => ?_) (fun _ => ?_) | refine pre_of ?_ (fun _ => ?_))
    all_goals first
      | rfl
      | (simp only [W, eqItem2, *, cond_true, cond_false, Bool.true_and, Bool.false_and, Bool.and_true, Bool.and_false, Bool.not_true, Bool.not_false, and_self, true_and]; done)
      | (simp_all [W, eqItem2]; done)
      | (simp_all [W, eqItem2] <;> omega))

def LSeqItemS (xs : List Item) (ys : List Item) : LS where
  S := List Item × List Item × Unit × Unit × Int
  live := [(0, [none]), (1, [none]), (5, [none])]
  shape := fun s => ([.vec 0, .vec 1, .int .i64 s.2.2.2.2], [(false, .vec .item s.1), (false, .vec .item s.2.1)])
  get := fun v h => match v, h with
    | [.vec 0, .vec 1, .int .i64 i], [(false, .vec .item xs'), (false, .vec .item ys')] => some (xs', ys', (), (), i)
    | _, _ => none
  inv := fun s => Holds (s.1 = xs ∧ s.2.1 = ys ∧ 0 ≤ s.2.2.2.2 ∧ s.2.2.2.2 ≤ xs.length ∧ xs.length = ys.length ∧ allTo (eqItemAt xs ys) s.2.2.2.2.toNat = true ∧ xs.length < 4611686018427387904)
  mu := fun s => ((xs.length : Int) - s.2.2.2.2).toNat
  ok := by
    intro v h s hg
    try dsimp only at hg
    split at hg <;> cases hg
    rfl

def L_eqItemS (xs ys : List Item) : Loops := fun n => match n with
  | 4 => some (LSeqItemS xs ys)
  | _ => none
def fs_lawsEqItemS : Fs := ⟨[], fun args H => match args, H with
  | [.vec 0, .vec 1], [(false, .vec .item xs), (false, .vec .item ys)] => some ((some (xs.length ≤ 1048576)), .bool (eqItems xs ys), [(false, .vec .item xs), (false, .vec .item ys)])
  | _, _ => none⟩

theorem vc_lawsEqItemS (xs : List Item) (ys : List Item) (Q : SV → List Ent → Prop) :
    fnVC tt (look [(123, fs_lawsEqItem)]) (L_eqItemS xs ys) Try.f72 [.vec 0, .vec 1] [(false, .vec .item xs), (false, .vec .item ys)] Q =
    (ifB ((↑(List.length xs) : Int) != (↑(List.length ys) : Int)) (Q (SV.bool false) [(false, Blk.vec Ty.item xs), (false, Blk.vec Ty.item ys)]) (Holds (xs = xs ∧ ys = ys ∧ (0 : Int) ≤ (0 : Int) ∧ (0 : Int) ≤ (↑(List.length xs) : Int) ∧ List.length xs = List.length ys ∧ allTo (eqItemAt xs ys) (Int.toNat (0 : Int)) = true ∧ List.length xs < (4611686018427387904 : Nat)) ∧ ∀ (x : List Item × List Item × Unit × Unit × Int), Holds (Prod.fst x = xs ∧ Prod.fst (Prod.snd x) = ys ∧ (0 : Int) ≤ Prod.snd (Prod.snd (Prod.snd (Prod.snd x))) ∧ Prod.snd (Prod.snd (Prod.snd (Prod.snd x))) ≤ (↑(List.length xs) : Int) ∧ List.length xs = List.length ys ∧ allTo (eqItemAt xs ys) (Int.toNat (Prod.snd (Prod.snd (Prod.snd (Prod.snd x))))) = true ∧ List.length xs < (4611686018427387904 : Nat)) → ifB (decide (Prod.snd (Prod.snd (Prod.snd (Prod.snd x))) < (↑(List.length (Prod.fst x)) : Int))) (((0 : Int) ≤ Prod.snd (Prod.snd (Prod.snd (Prod.snd x))) ∧ Prod.snd (Prod.snd (Prod.snd (Prod.snd x))) < (↑(List.length (Prod.fst x)) : Int)) ∧ ((0 : Int) ≤ Prod.snd (Prod.snd (Prod.snd (Prod.snd x))) ∧ Prod.snd (Prod.snd (Prod.snd (Prod.snd x))) < (↑(List.length (Prod.fst (Prod.snd x))) : Int)) ∧ ifB (!eqItem2 (Ty.ix Ty.item (Prod.fst x) (Int.toNat (Prod.snd (Prod.snd (Prod.snd (Prod.snd x)))))) (Ty.ix Ty.item (Prod.fst (Prod.snd x)) (Int.toNat (Prod.snd (Prod.snd (Prod.snd (Prod.snd x))))))) (Q (SV.bool false) [(false, Blk.vec Ty.item (Prod.fst x)), (false, Blk.vec Ty.item (Prod.fst (Prod.snd x)))]) (Holds (Prod.fst x = xs ∧ Prod.fst (Prod.snd x) = ys ∧ (0 : Int) ≤ IntKind.wrap IntKind.i64 (Prod.snd (Prod.snd (Prod.snd (Prod.snd x))) + (1 : Int)) ∧ IntKind.wrap IntKind.i64 (Prod.snd (Prod.snd (Prod.snd (Prod.snd x))) + (1 : Int)) ≤ (↑(List.length xs) : Int) ∧ List.length xs = List.length ys ∧ allTo (eqItemAt xs ys) (Int.toNat (IntKind.wrap IntKind.i64 (Prod.snd (Prod.snd (Prod.snd (Prod.snd x))) + (1 : Int)))) = true ∧ List.length xs < (4611686018427387904 : Nat)) ∧ Int.toNat ((↑(List.length xs) : Int) - IntKind.wrap IntKind.i64 (Prod.snd (Prod.snd (Prod.snd (Prod.snd x))) + (1 : Int))) < Int.toNat ((↑(List.length xs) : Int) - Prod.snd (Prod.snd (Prod.snd (Prod.snd x)))))) (Q (SV.bool true) [(false, Blk.vec Ty.item (Prod.fst x)), (false, Blk.vec Ty.item (Prod.fst (Prod.snd x)))]))) := by kernel_rfl

theorem ok_lawsEqItemS : FsOk Try.prog 72 fs_lawsEqItemS := fsOk_of tt_ok (tabFs_cons ok_lawsEqItem tabFs_nil) mixed Try.func72 (by kernel_rfl) (by kernel_rfl) (by
    intro args LL p r HH h hp
    unfold fs_lawsEqItemS at h
    dsimp only at h
    split at h
    case h_2 => cases h
    rename_i xs ys
    simp only [Option.some.injEq, Prod.mk.injEq] at h
    obtain ⟨rfl, rfl, rfl⟩ := h
    refine ⟨by simp [Form, stays], (L_eqItemS xs ys), ?_⟩
    rw [vc_lawsEqItemS]
    try dsimp only
    have hb := hp _ rfl
    refine ifB_of (fun c => ?_) (fun c => ?_)
    · have c : (xs.length : Int) ≠ ys.length := by simpa using c
      simp [eqItems, show xs.length ≠ ys.length by omega]
    have hl : xs.length = ys.length := by
      have : (xs.length : Int) = ys.length := by simpa using c
      omega
    refine ⟨⟨rfl, rfl, by omega, by omega, hl, rfl, by omega⟩, ?_⟩
    rintro ⟨xs', ys', u, v, i⟩ ⟨h⟩
    obtain ⟨rfl, rfl, h0, h1, _, h3, _⟩ := h
    dsimp only at hb hl h0 h1 h3 ⊢
    refine ifB_of (fun c => ?_) (fun c => ?_)
    · have hi : i < xs'.length := of_decide_eq_true c
      have hw : IntKind.i64.wrap (i + 1) = i + 1 := wrap_small (by omega) (by omega)
      refine ⟨⟨h0, hi⟩, ⟨h0, by omega⟩, ?_⟩
      refine ifB_of (fun c => ?_) (fun c => ?_)
      · have c : eqItemAt xs' ys' i.toNat = false := by simpa [eqItemAt] using c
        have : allTo (eqItemAt xs' ys') xs'.length = false := allTo_false c (by omega)
        simp [eqItems, this]
      · have c : eqItemAt xs' ys' i.toNat = true := by simpa [eqItemAt] using c
        have e1 : (i + 1).toNat = i.toNat + 1 := by omega
        rw [hw]
        refine ⟨⟨rfl, rfl, by omega, by omega, hl, ?_, by omega⟩, by omega⟩
        rw [e1, allTo, h3, c]
        rfl
    · have hi : ¬ i < xs'.length := of_decide_eq_false c
      have e1 : i.toNat = xs'.length := by omega
      rw [e1] at h3
      have : eqItems xs' ys' = true := by
        unfold eqItems
        rw [h3, hl]
        simp
      rw [this]
      exact ⟨rfl, rfl⟩)

def fs_lawsEqBroad : Fs := ⟨[], fun args H => match args, H with
  | [.agg [.vec 0], .agg [.vec 1]], [(false, .vec .item xs), (false, .vec .item ys)] => some ((some (xs.length ≤ 1048576)), .bool (eqItems xs ys), [(false, .vec .item xs), (false, .vec .item ys)])
  | _, _ => none⟩

theorem vc_lawsEqBroad (xs : List Item) (ys : List Item) (Q : SV → List Ent → Prop) :
    fnVC tt (look [(72, fs_lawsEqItemS)]) L0 Try.f19 [.agg [.vec 0], .agg [.vec 1]] [(false, .vec .item xs), (false, .vec .item ys)] Q =
    (List.length xs ≤ (1048576 : Nat) ∧ ifB (!eqItems xs ys) (Q (SV.bool false) [(false, Blk.vec Ty.item xs), (false, Blk.vec Ty.item ys)]) (Q (SV.bool true) [(false, Blk.vec Ty.item xs), (false, Blk.vec Ty.item ys)])) := by kernel_rfl

theorem ok_lawsEqBroad : FsOk Try.prog 19 fs_lawsEqBroad := fsOk_of tt_ok (tabFs_cons ok_lawsEqItemS tabFs_nil) mixed Try.func19 (by kernel_rfl) (by kernel_rfl) (by
    intro args LL p r HH h hp
    unfold fs_lawsEqBroad at h
    dsimp only at h
    split at h
    case h_2 => cases h
    rename_i xs ys
    simp only [Option.some.injEq, Prod.mk.injEq] at h
    obtain ⟨rfl, rfl, rfl⟩ := h
    refine ⟨by simp [Form, stays], L0, ?_⟩
    rw [vc_lawsEqBroad]
    try dsimp only
    have hb := hp _ rfl
    refine ⟨hb, ?_⟩
    repeat' (first | refine ifB_of (fun _ => ?_) (fun _ => ?_) | refine pre_of ?_ (fun _ => ?_))
    all_goals first
      | rfl
      | (simp only [W, isIn, *, cond_true, cond_false, Bool.true_and, Bool.false_and, Bool.and_true, Bool.and_false, Bool.not_true, Bool.not_false, and_self, true_and]; done)
      | (simp_all [W, isIn]; done)
      | (simp_all [W, isIn] <;> omega))


theorem fin_items {xs : List Item} : itemsOk xs = (allTo (itemAt xs) xs.length && decide ((xs.length : Int) ≤ 24)) := by
  unfold itemsOk
  congr 1
  rw [decide_eq_decide]
  omega
def LSspecBroadOk (xs : List Item) : LS where
  S := List Item × Unit × Int
  live := [(1, [none]), (3, [none])]
  shape := fun s => ([.ptr 1 0 0, .int .i64 s.2.2], [(false, .vec .item s.1), (true, .box [.vec 0])])
  get := fun v h => match v, h with
    | [.ptr 1 0 0, .int .i64 i], [(false, .vec .item xs'), (true, .box [.vec 0])] => some (xs', (), i)
    | _, _ => none
  inv := fun s => Holds (s.1 = xs ∧ 0 ≤ s.2.2 ∧ s.2.2 ≤ xs.length ∧ allTo (itemAt xs) s.2.2.toNat = true ∧ xs.length < 4611686018427387904)
  mu := fun s => ((xs.length : Int) - s.2.2).toNat
  ok := by
    intro v h s hg
    try dsimp only at hg
    split at hg <;> cases hg
    rfl

def L_specBroadOk (xs : List Item) : Loops := fun n => match n with
  | 2 => some (LSspecBroadOk xs)
  | _ => none
def fs_specBroadOk : Fs := ⟨[], fun args H => match args, H with
  | [.agg [.vec 0]], [(false, .vec .item xs)] => some ((some (xs.length ≤ 1048576)), .bool (itemsOk xs), [(false, .vec .item xs)])
  | _, _ => none⟩

theorem vc_specBroadOk (xs : List Item) (Q : SV → List Ent → Prop) :
    fnVC tt (look [(69, fs_l1In), (31, fs_specBoxOk)]) (L_specBroadOk xs) Try.f16 [.agg [.vec 0]] [(false, .vec .item xs)] Q =
    (Holds (xs = xs ∧ (0 : Int) ≤ (0 : Int) ∧ (0 : Int) ≤ (↑(List.length xs) : Int) ∧ allTo (itemAt xs) (Int.toNat (0 : Int)) = true ∧ List.length xs < (4611686018427387904 : Nat)) ∧ ∀ (x : List Item × Unit × Int), Holds (Prod.fst x = xs ∧ (0 : Int) ≤ Prod.snd (Prod.snd x) ∧ Prod.snd (Prod.snd x) ≤ (↑(List.length xs) : Int) ∧ allTo (itemAt xs) (Int.toNat (Prod.snd (Prod.snd x))) = true ∧ List.length xs < (4611686018427387904 : Nat)) → ifB (decide (Prod.snd (Prod.snd x) < (↑(List.length (Prod.fst x)) : Int))) (((0 : Int) ≤ Prod.snd (Prod.snd x) ∧ Prod.snd (Prod.snd x) < (↑(List.length (Prod.fst x)) : Int)) ∧ ifB (!isIn (Item.Id (Ty.ix Ty.item (Prod.fst x) (Int.toNat (Prod.snd (Prod.snd x))))) (0 : Int) (1000000000 : Int)) (Q (SV.bool false) [(false, Blk.vec Ty.item (Prod.fst x))]) (((0 : Int) ≤ Prod.snd (Prod.snd x) ∧ Prod.snd (Prod.snd x) < (↑(List.length (Prod.fst x)) : Int)) ∧ ifB (!boxOk (Item.Box (Ty.ix Ty.item (Prod.fst x) (Int.toNat (Prod.snd (Prod.snd x)))))) (Q (SV.bool false) [(false, Blk.vec Ty.item (Prod.fst x))]) (ifB (decide (Prod.snd (Prod.snd x) > (0 : Int))) (((0 : Int) ≤ IntKind.wrap IntKind.i64 (Prod.snd (Prod.snd x) - (1 : Int)) ∧ IntKind.wrap IntKind.i64 (Prod.snd (Prod.snd x) - (1 : Int)) < (↑(List.length (Prod.fst x)) : Int)) ∧ ((0 : Int) ≤ Prod.snd (Prod.snd x) ∧ Prod.snd (Prod.snd x) < (↑(List.length (Prod.fst x)) : Int)) ∧ ifB (decide (Item.Id (Ty.ix Ty.item (Prod.fst x) (Int.toNat (IntKind.wrap IntKind.i64 (Prod.snd (Prod.snd x) - (1 : Int))))) ≥ Item.Id (Ty.ix Ty.item (Prod.fst x) (Int.toNat (Prod.snd (Prod.snd x)))))) (Q (SV.bool false) [(false, Blk.vec Ty.item (Prod.fst x))]) (Holds (Prod.fst x = xs ∧ (0 : Int) ≤ IntKind.wrap IntKind.i64 (Prod.snd (Prod.snd x) + (1 : Int)) ∧ IntKind.wrap IntKind.i64 (Prod.snd (Prod.snd x) + (1 : Int)) ≤ (↑(List.length xs) : Int) ∧ allTo (itemAt xs) (Int.toNat (IntKind.wrap IntKind.i64 (Prod.snd (Prod.snd x) + (1 : Int)))) = true ∧ List.length xs < (4611686018427387904 : Nat)) ∧ Int.toNat ((↑(List.length xs) : Int) - IntKind.wrap IntKind.i64 (Prod.snd (Prod.snd x) + (1 : Int))) < Int.toNat ((↑(List.length xs) : Int) - Prod.snd (Prod.snd x)))) (Holds (Prod.fst x = xs ∧ (0 : Int) ≤ IntKind.wrap IntKind.i64 (Prod.snd (Prod.snd x) + (1 : Int)) ∧ IntKind.wrap IntKind.i64 (Prod.snd (Prod.snd x) + (1 : Int)) ≤ (↑(List.length xs) : Int) ∧ allTo (itemAt xs) (Int.toNat (IntKind.wrap IntKind.i64 (Prod.snd (Prod.snd x) + (1 : Int)))) = true ∧ List.length xs < (4611686018427387904 : Nat)) ∧ Int.toNat ((↑(List.length xs) : Int) - IntKind.wrap IntKind.i64 (Prod.snd (Prod.snd x) + (1 : Int))) < Int.toNat ((↑(List.length xs) : Int) - Prod.snd (Prod.snd x)))))) (Q (SV.bool (decide ((↑(List.length (Prod.fst x)) : Int) ≤ (24 : Int)))) [(false, Blk.vec Ty.item (Prod.fst x))])) := by kernel_rfl

theorem ok_specBroadOk : FsOk Try.prog 16 fs_specBroadOk := fsOk_of tt_ok (tabFs_cons ok_l1In (tabFs_cons ok_specBoxOk tabFs_nil)) mixed Try.func16 (by kernel_rfl) (by kernel_rfl) (by
    intro args LL p r HH h hp
    unfold fs_specBroadOk at h
    dsimp only at h
    split at h
    case h_2 => cases h
    rename_i xs
    simp only [Option.some.injEq, Prod.mk.injEq] at h
    obtain ⟨rfl, rfl, rfl⟩ := h
    refine ⟨by simp [Form, stays], (L_specBroadOk xs), ?_⟩
    rw [vc_specBroadOk]
    try dsimp only
    have hb := hp _ rfl
    refine ⟨⟨rfl, by omega, by omega, rfl, by omega⟩, ?_⟩
    rintro ⟨xs', u, i⟩ ⟨h⟩
    obtain ⟨rfl, h0, h1, h3, _⟩ := h
    dsimp only at hb h0 h1 h3 ⊢
    refine ifB_of (fun c => ?_) (fun c => ?_)
    · have hi : i < xs'.length := of_decide_eq_true c
      have hw1 : IntKind.i64.wrap (i + 1) = i + 1 := wrap_small (by omega) (by omega)
      have hw2 : IntKind.i64.wrap (i - 1) = i - 1 := wrap_small (by omega) (by omega)
      have e1 : (i + 1).toNat = i.toNat + 1 := by omega
      have e2 : (i - 1).toNat = i.toNat - 1 := by omega
      have fl : itemAt xs' i.toNat = false → itemsOk xs' = false := fun h => by simp [itemsOk, allTo_false h (show i.toNat < xs'.length by omega)]
      have nx : itemAt xs' i.toNat = true → allTo (itemAt xs') (i.toNat + 1) = true := fun h => by simp [allTo, h3, h]
      rw [hw1, hw2, e1, e2]
      refine ⟨⟨h0, hi⟩, ifB_of (fun c1 => ?_) (fun c1 => ?_)⟩
      · rw [fl (by simp_all [itemAt, itemOk])]
        exact ⟨rfl, rfl⟩
      refine ⟨⟨h0, hi⟩, ifB_of (fun c2 => ?_) (fun c2 => ?_)⟩
      · rw [fl (by simp_all [itemAt, itemOk])]
        exact ⟨rfl, rfl⟩
      refine ifB_of (fun c3 => ?_) (fun c3 => ?_)
      · have c3 : i > 0 := of_decide_eq_true c3
        have hne : ¬ i.toNat = 0 := by omega
        refine ⟨⟨by omega, by omega⟩, ⟨h0, hi⟩, ifB_of (fun c4 => ?_) (fun c4 => ?_)⟩
        · have c4 := of_decide_eq_true c4
          rw [fl (by simp only [itemAt]; simp [hne]; intro _; omega)]
          exact ⟨rfl, rfl⟩
        · have c4 := of_decide_eq_false c4
          refine ⟨⟨rfl, by omega, by omega, nx ?_, by omega⟩, by omega⟩
          have c1 : isIn (Ty.ix .item xs' i.toNat).Id 0 1000000000 = true := by simpa using c1
          have c2 : boxOk (Ty.ix .item xs' i.toNat).Box = true := by simpa using c2
          simp only [itemAt, itemOk, c1, c2]
          simp [hne]
          omega
      · have c3 : ¬ i > 0 := of_decide_eq_false c3
        have hz : i.toNat = 0 := by omega
        refine ⟨⟨rfl, by omega, by omega, nx ?_, by omega⟩, by omega⟩
        have c1 : isIn (Ty.ix .item xs' i.toNat).Id 0 1000000000 = true := by simpa using c1
        have c2 : boxOk (Ty.ix .item xs' i.toNat).Box = true := by simpa using c2
        simp only [itemAt, itemOk, c1, c2]
        simp [hz]
    · have hi : ¬ i < xs'.length := of_decide_eq_false c
      have e1 : i.toNat = xs'.length := by omega
      rw [e1] at h3
      rw [fin_items, h3]
      exact ⟨rfl, rfl⟩)

def LSimplBroadOk (xs : List Item) : LS where
  S := List Item × Unit × Unit × Int × Int
  live := [(1, [none]), (6, [none]), (7, [none]), (8, [none])]
  shape := fun s => ([.ptr 1 0 0, .vec 0, .int .i64 s.2.2.2.1, .int .i64 s.2.2.2.2], [(false, .vec .item s.1), (true, .box [.vec 0])])
  get := fun v h => match v, h with
    | [.ptr 1 0 0, .vec 0, .int .i64 n, .int .i64 i], [(false, .vec .item xs'), (true, .box [.vec 0])] => some (xs', (), (), n, i)
    | _, _ => none
  inv := fun s => Holds (s.1 = xs ∧ s.2.2.2.1 = xs.length ∧ 0 ≤ s.2.2.2.2 ∧ s.2.2.2.2 ≤ xs.length ∧ allTo (itemAt xs) s.2.2.2.2.toNat = true ∧ xs.length < 4611686018427387904)
  mu := fun s => ((xs.length : Int) - s.2.2.2.2).toNat
  ok := by
    intro v h s hg
    try dsimp only at hg
    split at hg <;> cases hg
    rfl

def L_implBroadOk (xs : List Item) : Loops := fun n => match n with
  | 2 => some (LSimplBroadOk xs)
  | _ => none
def fs_implBroadOk : Fs := ⟨[], fun args H => match args, H with
  | [.agg [.vec 0]], [(false, .vec .item xs)] => some ((some (xs.length ≤ 1048576)), .bool (itemsOk xs), [(false, .vec .item xs)])
  | _, _ => none⟩

theorem vc_implBroadOk (xs : List Item) (Q : SV → List Ent → Prop) :
    fnVC tt (look [(71, fs_implItemOk)]) (L_implBroadOk xs) Try.f18 [.agg [.vec 0]] [(false, .vec .item xs)] Q =
    (Holds (xs = xs ∧ (↑(List.length xs) : Int) = (↑(List.length xs) : Int) ∧ (0 : Int) ≤ (0 : Int) ∧ (0 : Int) ≤ (↑(List.length xs) : Int) ∧ allTo (itemAt xs) (Int.toNat (0 : Int)) = true ∧ List.length xs < (4611686018427387904 : Nat)) ∧ ∀ (x : List Item × Unit × Unit × Int × Int), Holds (Prod.fst x = xs ∧ Prod.fst (Prod.snd (Prod.snd (Prod.snd x))) = (↑(List.length xs) : Int) ∧ (0 : Int) ≤ Prod.snd (Prod.snd (Prod.snd (Prod.snd x))) ∧ Prod.snd (Prod.snd (Prod.snd (Prod.snd x))) ≤ (↑(List.length xs) : Int) ∧ allTo (itemAt xs) (Int.toNat (Prod.snd (Prod.snd (Prod.snd (Prod.snd x))))) = true ∧ List.length xs < (4611686018427387904 : Nat)) → ifB (decide (Prod.snd (Prod.snd (Prod.snd (Prod.snd x))) < Prod.fst (Prod.snd (Prod.snd (Prod.snd x))))) (((0 : Int) ≤ Prod.snd (Prod.snd (Prod.snd (Prod.snd x))) ∧ Prod.snd (Prod.snd (Prod.snd (Prod.snd x))) < (↑(List.length (Prod.fst x)) : Int)) ∧ ifB (!itemOk (Ty.ix Ty.item (Prod.fst x) (Int.toNat (Prod.snd (Prod.snd (Prod.snd (Prod.snd x))))))) (Q (SV.bool false) [(false, Blk.vec Ty.item (Prod.fst x))]) (ifB (decide (Prod.snd (Prod.snd (Prod.snd (Prod.snd x))) > (0 : Int))) (((0 : Int) ≤ IntKind.wrap IntKind.i64 (Prod.snd (Prod.snd (Prod.snd (Prod.snd x))) - (1 : Int)) ∧ IntKind.wrap IntKind.i64 (Prod.snd (Prod.snd (Prod.snd (Prod.snd x))) - (1 : Int)) < (↑(List.length (Prod.fst x)) : Int)) ∧ ifB (decide (Item.Id (Ty.ix Ty.item (Prod.fst x) (Int.toNat (Prod.snd (Prod.snd (Prod.snd (Prod.snd x)))))) ≤ Item.Id (Ty.ix Ty.item (Prod.fst x) (Int.toNat (IntKind.wrap IntKind.i64 (Prod.snd (Prod.snd (Prod.snd (Prod.snd x))) - (1 : Int))))))) (Q (SV.bool false) [(false, Blk.vec Ty.item (Prod.fst x))]) (Holds (Prod.fst x = xs ∧ Prod.fst (Prod.snd (Prod.snd (Prod.snd x))) = (↑(List.length xs) : Int) ∧ (0 : Int) ≤ IntKind.wrap IntKind.i64 (Prod.snd (Prod.snd (Prod.snd (Prod.snd x))) + (1 : Int)) ∧ IntKind.wrap IntKind.i64 (Prod.snd (Prod.snd (Prod.snd (Prod.snd x))) + (1 : Int)) ≤ (↑(List.length xs) : Int) ∧ allTo (itemAt xs) (Int.toNat (IntKind.wrap IntKind.i64 (Prod.snd (Prod.snd (Prod.snd (Prod.snd x))) + (1 : Int)))) = true ∧ List.length xs < (4611686018427387904 : Nat)) ∧ Int.toNat ((↑(List.length xs) : Int) - IntKind.wrap IntKind.i64 (Prod.snd (Prod.snd (Prod.snd (Prod.snd x))) + (1 : Int))) < Int.toNat ((↑(List.length xs) : Int) - Prod.snd (Prod.snd (Prod.snd (Prod.snd x)))))) (Holds (Prod.fst x = xs ∧ Prod.fst (Prod.snd (Prod.snd (Prod.snd x))) = (↑(List.length xs) : Int) ∧ (0 : Int) ≤ IntKind.wrap IntKind.i64 (Prod.snd (Prod.snd (Prod.snd (Prod.snd x))) + (1 : Int)) ∧ IntKind.wrap IntKind.i64 (Prod.snd (Prod.snd (Prod.snd (Prod.snd x))) + (1 : Int)) ≤ (↑(List.length xs) : Int) ∧ allTo (itemAt xs) (Int.toNat (IntKind.wrap IntKind.i64 (Prod.snd (Prod.snd (Prod.snd (Prod.snd x))) + (1 : Int)))) = true ∧ List.length xs < (4611686018427387904 : Nat)) ∧ Int.toNat ((↑(List.length xs) : Int) - IntKind.wrap IntKind.i64 (Prod.snd (Prod.snd (Prod.snd (Prod.snd x))) + (1 : Int))) < Int.toNat ((↑(List.length xs) : Int) - Prod.snd (Prod.snd (Prod.snd (Prod.snd x))))))) (Q (SV.bool (decide ((↑(List.length (Prod.fst x)) : Int) ≤ (24 : Int)))) [(false, Blk.vec Ty.item (Prod.fst x))])) := by kernel_rfl

theorem ok_implBroadOk : FsOk Try.prog 18 fs_implBroadOk := fsOk_of tt_ok (tabFs_cons ok_implItemOk tabFs_nil) mixed Try.func18 (by kernel_rfl) (by kernel_rfl) (by
    intro args LL p r HH h hp
    unfold fs_implBroadOk at h
    dsimp only at h
    split at h
    case h_2 => cases h
    rename_i xs
    simp only [Option.some.injEq, Prod.mk.injEq] at h
    obtain ⟨rfl, rfl, rfl⟩ := h
    refine ⟨by simp [Form, stays], (L_implBroadOk xs), ?_⟩
    rw [vc_implBroadOk]
    try dsimp only
    have hb := hp _ rfl
    refine ⟨⟨rfl, rfl, by omega, by omega, rfl, by omega⟩, ?_⟩
    rintro ⟨xs', u, v, n, i⟩ ⟨h⟩
    obtain ⟨rfl, h4, h0, h1, h3, _⟩ := h
    dsimp only at hb h0 h1 h3 h4 ⊢
    subst h4
    refine ifB_of (fun c => ?_) (fun c => ?_)
    · have hi : i < xs'.length := of_decide_eq_true c
      have hw1 : IntKind.i64.wrap (i + 1) = i + 1 := wrap_small (by omega) (by omega)
      have hw2 : IntKind.i64.wrap (i - 1) = i - 1 := wrap_small (by omega) (by omega)
      have e1 : (i + 1).toNat = i.toNat + 1 := by omega
      have e2 : (i - 1).toNat = i.toNat - 1 := by omega
      have fl : itemAt xs' i.toNat = false → itemsOk xs' = false := fun h => by simp [itemsOk, allTo_false h (show i.toNat < xs'.length by omega)]
      have nx : itemAt xs' i.toNat = true → allTo (itemAt xs') (i.toNat + 1) = true := fun h => by simp [allTo, h3, h]
      rw [hw1, hw2, e1, e2]
      refine ⟨⟨h0, hi⟩, ifB_of (fun c1 => ?_) (fun c1 => ?_)⟩
      · rw [fl (by simp_all [itemAt])]
        exact ⟨rfl, rfl⟩
      have c1 : itemOk (Ty.ix .item xs' i.toNat) = true := by simpa using c1
      refine ifB_of (fun c3 => ?_) (fun c3 => ?_)
      · have c3 : i > 0 := of_decide_eq_true c3
        have hne : ¬ i.toNat = 0 := by omega
        refine ⟨⟨by omega, by omega⟩, ifB_of (fun c4 => ?_) (fun c4 => ?_)⟩
        · have c4 := of_decide_eq_true c4
          rw [fl (by simp only [itemAt]; simp [hne]; intro _; omega)]
          exact ⟨rfl, rfl⟩
        · have c4 := of_decide_eq_false c4
          refine ⟨⟨rfl, rfl, by omega, by omega, nx ?_, by omega⟩, by omega⟩
          simp only [itemAt, c1]
          simp [hne]
          omega
      · have c3 : ¬ i > 0 := of_decide_eq_false c3
        have hz : i.toNat = 0 := by omega
        refine ⟨⟨rfl, rfl, by omega, by omega, nx ?_, by omega⟩, by omega⟩
        simp only [itemAt, c1]
        simp [hz]
    · have hi : ¬ i < xs'.length := of_decide_eq_false c
      have e1 : i.toNat = xs'.length := by omega
      rw [e1] at h3
      rw [fin_items, h3]
      exact ⟨rfl, rfl⟩)

def fs_lawExactBroadOk : Fs := ⟨[], fun args H => match args, H with
  | [.agg [.vec 0]], [(false, .vec .item xs)] => some ((some (LOk .item xs)), .bool (true), [(false, .vec .item xs)])
  | _, _ => none⟩

theorem vc_lawExactBroadOk (xs : List Item) (Q : SV → List Ent → Prop) :
    fnVC tt (look [(15, fs_szBroad), (17, fs_lawsToBroad), (16, fs_specBroadOk), (18, fs_implBroadOk), (19, fs_lawsEqBroad)]) L0 Try.f3 [.agg [.vec 0]] [(false, .vec .item xs)] Q =
    (ifB (decide (szLeft (1048576 : Int) (↑(List.length xs) : Int) < (0 : Int))) (Q (SV.bool true) [(false, Blk.vec Ty.item xs)]) (List.length xs ≤ (1048576 : Nat) ∧ List.length xs ≤ (1048576 : Nat) ∧ List.length xs ≤ (1048576 : Nat) ∧ List.length xs ≤ (1048576 : Nat) ∧ ifB (!itemsOk xs == itemsOk xs) (Q (SV.bool false) [(false, Blk.vec Ty.item xs)]) (List.length xs ≤ (1048576 : Nat) ∧ List.length xs ≤ (1048576 : Nat) ∧ ifB (!eqItems xs xs) (Q (SV.bool false) [(false, Blk.vec Ty.item xs)]) (Q (SV.bool true) [(false, Blk.vec Ty.item xs)])))) := by kernel_rfl

theorem ok_lawExactBroadOk : FsOk Try.prog 3 fs_lawExactBroadOk := fsOk_of tt_ok (tabFs_cons ok_szBroad (tabFs_cons ok_lawsToBroad (tabFs_cons ok_specBroadOk (tabFs_cons ok_implBroadOk (tabFs_cons ok_lawsEqBroad tabFs_nil))))) mixed Try.func3 (by kernel_rfl) (by kernel_rfl) (by
    intro args LL p r HH h hp
    unfold fs_lawExactBroadOk at h
    dsimp only at h
    split at h
    case h_2 => cases h
    rename_i xs
    simp only [Option.some.injEq, Prod.mk.injEq] at h
    obtain ⟨rfl, rfl, rfl⟩ := h
    refine ⟨by simp [Form, stays], L0, ?_⟩
    rw [vc_lawExactBroadOk]
    try dsimp only
    have hb := (hp _ rfl).1
    refine ifB_of (fun c => ?_) (fun c => ?_)
    · exact ⟨rfl, rfl⟩
    have hl : xs.length ≤ 1048576 := by
      have c := of_decide_eq_false c
      have hw : W (1048576 - (xs.length : Int)) = 1048576 - (xs.length : Int) := wrap_small (by omega) (by omega)
      simp only [szLeft, hw] at c
      split at c <;> omega
    simp [ifB, hl, eqItems_self])


end Go.Proofs.Yteeelenokjahnaa.Sym
