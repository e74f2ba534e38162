/-
  Boxes put and taken away.
  No condition.
-/
import Derived.Test.YtgdpaijphaeimaaG3
import Derived.Test.YtgdpaijphaeimaaSymY
namespace Go.Proofs.Ytgdpaijphaeimaa.Sym
open Go
set_option linter.unusedVariables false
set_option linter.unusedSimpArgs false
set_option maxRecDepth 100000

/-- How many at the beginning of a list have something. -/
def pref {α : Type} (p : α → Bool) (xs : List α) : Nat := (xs.takeWhile p).length
theorem pref_eq {T : Ty} {p : T.El → Bool} : ∀ {xs : List T.El} {k : Nat}, k ≤ xs.length → (∀ e, e < k → p (T.ix xs e) = true) → (k < xs.length → p (T.ix xs k) = false) → pref p xs = k
  | [], k, h, _, _ => by simp at h; subst h; rfl
  | x :: r, 0, _, _, h2 => by
    have h3 : p x = false := h2 (by simp)
    simp [pref, List.takeWhile, h3]
  | x :: r, k + 1, h, h1, h2 => by
    have hx : p x = true := h1 0 (by omega)
    have h3 := pref_eq (xs := r) (k := k) (by simpa using h) (fun e he => h1 (e + 1) (by omega)) (fun hk => h2 (by simpa using hk))
    simp only [pref] at h3
    simp [pref, List.takeWhile, hx, h3]
theorem pref_spec {T : Ty} {p : T.El → Bool} : ∀ (xs : List T.El), pref p xs ≤ xs.length ∧ (∀ e, e < pref p xs → p (T.ix xs e) = true) ∧ (pref p xs < xs.length → p (T.ix xs (pref p xs)) = false)
  | [] => ⟨by simp [pref], fun e h => by simp [pref] at h, fun h => by simp at h⟩
  | x :: r => by
    cases hx : p x with
    | false =>
      have e : pref p (x :: r) = 0 := by simp [pref, List.takeWhile, hx]
      rw [e]
      exact ⟨by simp, fun e h => by omega, fun _ => hx⟩
    | true =>
      obtain ⟨h1, h2, h3⟩ := pref_spec r
      have e : pref p (x :: r) = pref p r + 1 := by simp [pref, List.takeWhile, hx]
      rw [e]
      refine ⟨by simpa using h1, fun e h => ?_, fun h => h3 (by simpa using h)⟩
      cases e with
      | zero => exact hx
      | succ e => exact h2 e (by omega)

def atI (xs : List Item) (id : Int) : Nat := pref (fun y => decide (y.Id < id)) xs
def hasI (xs : List Item) (id : Int) : Bool := decide (atI xs id < xs.length) && (Ty.ix .item xs (atI xs id)).Id == id
def insI (xs : List Item) (k : Nat) (x : Item) : List Item := xs.take k ++ x :: xs.drop k
def delI (xs : List Item) (k : Nat) : List Item := xs.take k ++ xs.drop (k + 1)
def putF (xs : List Item) (x : Item) : List Item × Bool :=
  bif itemsOk xs then bif itemOk x then bif hasI xs x.Id then (xs.set (atI xs x.Id) x, true) else bif decide (xs.length ≥ 24) then (xs, false) else (insI xs (atI xs x.Id) x, true) else (xs, false) else ([], false)
def goneF (xs : List Item) (id : Int) : List Item × Bool :=
  bif itemsOk xs then bif hasI xs id then (delI xs (atI xs id), true) else (xs, false) else ([], false)
theorem atI_le (xs : List Item) (id : Int) : atI xs id ≤ xs.length := (pref_spec (T := .item) xs).1

def LSl4At  : LS where
  S := List Item × Int × Unit × Int
  live := [(1, [none]), (2, [none]), (6, [none])]
  shape := fun s => ([.int .i64 s.2.1, .ptr 1 0 0, .int .i64 s.2.2.2], [(false, .vec .item s.1), (true, .box [.vec 0])])
  get := fun v h => match v, h with
    | [.int .i64 id, .ptr 1 0 0, .int .i64 k], [(false, .vec .item xs), (true, .box [.vec 0])] => some (xs, id, (), k)
    | _, _ => none
  inv := fun s0 s => Holds (s.1 = s0.1 ∧ s.2.1 = s0.2.1 ∧ 0 ≤ s.2.2.2 ∧ s.2.2.2 ≤ s0.1.length ∧ (∀ e, e < s.2.2.2.toNat → decide ((Ty.ix .item s0.1 e).Id < s0.2.1) = true))
  mu := fun s => ((s.1.length : Int) - s.2.2.2).toNat
  ok := by
    intro v h s hg
    try dsimp only at hg
    split at hg <;> cases hg
    rfl

def L_l4At : Loops := fun n => match n with
  | 2 => some LSl4At
  | _ => none
noncomputable def fs_l4At : Fs := ⟨[], fun args H => match args, H with
  | [.agg [.vec 0], .int .i64 id], [(false, .vec .item xs)] => some ((some (xs.length ≤ 4611686018427387904)), .tup [.int .i64 (atI xs id), .bool (hasI xs id)], [(false, .vec .item xs)])
  | _, _ => none⟩

theorem vc_l4At (id : Int) (xs : List Item) (Q : SV → List Ent → Prop) :
    fnVC tt (look []) (L_l4At) Try.f121 [.agg [.vec 0], .int .i64 id] [(false, .vec .item xs)] Q =
    (Holds (xs = xs ∧ id = id ∧ (0 : Int) ≤ (0 : Int) ∧ (0 : Int) ≤ (↑(List.length xs) : Int) ∧ ∀ (e : Nat), e < Int.toNat (0 : Int) → decide (Item.Id (Ty.ix Ty.item xs e) < id) = true) ∧ ∀ (x : List Item × Int × Unit × Int), Holds (Prod.fst x = xs ∧ Prod.fst (Prod.snd x) = id ∧ (0 : Int) ≤ Prod.snd (Prod.snd (Prod.snd x)) ∧ Prod.snd (Prod.snd (Prod.snd x)) ≤ (↑(List.length xs) : Int) ∧ ∀ (e : Nat), e < Int.toNat (Prod.snd (Prod.snd (Prod.snd x))) → decide (Item.Id (Ty.ix Ty.item xs e) < id) = true) → ifB (decide (Prod.snd (Prod.snd (Prod.snd x)) < (↑(List.length (Prod.fst x)) : Int))) (((0 : Int) ≤ Prod.snd (Prod.snd (Prod.snd x)) ∧ Prod.snd (Prod.snd (Prod.snd x)) < (↑(List.length (Prod.fst x)) : Int)) ∧ ifB (decide (Item.Id (Ty.ix Ty.item (Prod.fst x) (Int.toNat (Prod.snd (Prod.snd (Prod.snd x))))) < Prod.fst (Prod.snd x))) (Holds (Prod.fst x = xs ∧ Prod.fst (Prod.snd x) = id ∧ (0 : Int) ≤ IntKind.wrap IntKind.i64 (Prod.snd (Prod.snd (Prod.snd x)) + (1 : Int)) ∧ IntKind.wrap IntKind.i64 (Prod.snd (Prod.snd (Prod.snd x)) + (1 : Int)) ≤ (↑(List.length xs) : Int) ∧ ∀ (e : Nat), e < Int.toNat (IntKind.wrap IntKind.i64 (Prod.snd (Prod.snd (Prod.snd x)) + (1 : Int))) → decide (Item.Id (Ty.ix Ty.item xs e) < id) = true) ∧ Int.toNat ((↑(List.length (Prod.fst x)) : Int) - IntKind.wrap IntKind.i64 (Prod.snd (Prod.snd (Prod.snd x)) + (1 : Int))) < Int.toNat ((↑(List.length (Prod.fst x)) : Int) - Prod.snd (Prod.snd (Prod.snd x)))) (ifB (decide (Prod.snd (Prod.snd (Prod.snd x)) < (↑(List.length (Prod.fst x)) : Int))) (((0 : Int) ≤ Prod.snd (Prod.snd (Prod.snd x)) ∧ Prod.snd (Prod.snd (Prod.snd x)) < (↑(List.length (Prod.fst x)) : Int)) ∧ Q (SV.tup [SV.int IntKind.i64 (Prod.snd (Prod.snd (Prod.snd x))), SV.bool (Item.Id (Ty.ix Ty.item (Prod.fst x) (Int.toNat (Prod.snd (Prod.snd (Prod.snd x))))) == Prod.fst (Prod.snd x))]) [(false, Blk.vec Ty.item (Prod.fst x))]) (Q (SV.tup [SV.int IntKind.i64 (Prod.snd (Prod.snd (Prod.snd x))), SV.bool false]) [(false, Blk.vec Ty.item (Prod.fst x))]))) (ifB (decide (Prod.snd (Prod.snd (Prod.snd x)) < (↑(List.length (Prod.fst x)) : Int))) (((0 : Int) ≤ Prod.snd (Prod.snd (Prod.snd x)) ∧ Prod.snd (Prod.snd (Prod.snd x)) < (↑(List.length (Prod.fst x)) : Int)) ∧ Q (SV.tup [SV.int IntKind.i64 (Prod.snd (Prod.snd (Prod.snd x))), SV.bool (Item.Id (Ty.ix Ty.item (Prod.fst x) (Int.toNat (Prod.snd (Prod.snd (Prod.snd x))))) == Prod.fst (Prod.snd x))]) [(false, Blk.vec Ty.item (Prod.fst x))]) (Q (SV.tup [SV.int IntKind.i64 (Prod.snd (Prod.snd (Prod.snd x))), SV.bool false]) [(false, Blk.vec Ty.item (Prod.fst x))]))) := by kernel_rfl

theorem ok_l4At : FsOk Try.prog 121 fs_l4At := fsOk_of tt_ok tabFs_nil mixed Try.func121 (by kernel_rfl) (by kernel_rfl) (by
    intro args LL p r HH h hp
    unfold fs_l4At at h
    dsimp only at h
    split at h
    case h_2 => cases h
    rename_i id xs
    simp only [Option.some.injEq, Prod.mk.injEq] at h
    obtain ⟨rfl, rfl, rfl⟩ := h
    refine ⟨by simp [Form, stays], (L_l4At), ?_⟩
    rw [vc_l4At]
    try dsimp only
    have hb := hp _ rfl
    refine ⟨⟨(by trivial), (by trivial), by omega, by omega, fun e he => absurd he (by simp)⟩, ?_⟩
    rintro ⟨xs', id', u, k⟩ ⟨h⟩
    dsimp only at h ⊢
    obtain ⟨rfl, rfl, h0, h1, h2⟩ := h
    have fin : (k.toNat < xs'.length → decide ((Ty.ix .item xs' k.toNat).Id < id') = false) → atI xs' id' = k.toNat := fun h => pref_eq (T := .item) (by omega) h2 h
    refine ifB_of (fun c => ?_) (fun c => ?_)
    · have hi := of_decide_eq_true c
      refine ⟨⟨h0, hi⟩, ifB_of (fun c2 => ?_) (fun c2 => ?_)⟩
      · have e1 : (k + 1).toNat = k.toNat + 1 := by omega
        simp (disch := omega) only [wrap_small, e1]
        refine ⟨⟨(by trivial), (by trivial), by omega, by omega, fun e he => ?_⟩, by omega⟩
        by_cases q : e = k.toNat
        · rw [q]; exact c2
        · exact h2 e (by omega)
      · have hk := fin fun _ => c2
        refine ifB_of (fun _ => ⟨⟨h0, hi⟩, ?_⟩) (fun c3 => ?_)
        · unfold hasI
          rw [hk]
          have : ((k.toNat : Nat) : Int) = k := by omega
          simp [this, show k.toNat < xs'.length by omega]
        · have := of_decide_eq_false c3
          omega
    · have hi := of_decide_eq_false c
      have hk := fin fun h => by omega
      refine ifB_of (fun c3 => ?_) (fun c3 => ?_)
      · have := of_decide_eq_true c3
        omega
      · unfold hasI
        rw [hk]
        have : ((k.toNat : Nat) : Int) = k := by omega
        simp [this, show ¬ k.toNat < xs'.length by omega])

noncomputable def fs_l4Copy : Fs := ⟨[], fun args H => match args, H with
  | [.agg [.vec 0]], [(false, .vec .item xs)] => some ((some (xs.length ≤ 1048576)), .agg [.vec 1], [(false, .vec .item xs), (true, .vec .item xs)])
  | _, _ => none⟩

theorem vc_l4Copy (xs : List Item) (Q : SV → List Ent → Prop) :
    fnVC tt (look []) L0 Try.f74 [.agg [.vec 0]] [(false, .vec .item xs)] Q =
    (((0 : Nat) + List.length xs) * (40 : Nat) ≤ room ∧ Q (SV.agg [SV.vec (1 : Nat)]) [(false, Blk.vec Ty.item xs), (true, Blk.vec Ty.item ([] ++ xs))]) := by kernel_rfl

theorem ok_l4Copy : FsOk Try.prog 74 fs_l4Copy := fsOk_of tt_ok tabFs_nil mixed Try.func74 (by kernel_rfl) (by kernel_rfl) (by
    intro args LL p r HH h hp
    unfold fs_l4Copy at h
    dsimp only at h
    split at h
    case h_2 => cases h
    rename_i xs
    simp only [Option.some.injEq, Prod.mk.injEq] at h
    obtain ⟨rfl, rfl, rfl⟩ := h
    refine ⟨by simp [Form, stays], L0, ?_⟩
    rw [vc_l4Copy]
    try dsimp only
    have hb := hp _ rfl
    refine ⟨by simp only [room, List.length_nil]; omega, ?_⟩
    simp)

theorem hasI_lt {xs : List Item} {id : Int} (h : hasI xs id = true) : atI xs id < xs.length := by
  simp only [hasI, Bool.and_eq_true, decide_eq_true_eq] at h
  exact h.1
theorem take_rest {α : Type} (xs : List α) (k : Nat) : List.take (xs.length - k) (List.drop k xs) = xs.drop k := List.take_of_length_le (by simp)
noncomputable def fs_specBroadPut : Fs := ⟨[], fun args H => match args, H with
  | [.agg [.vec 0], .agg [.int .i64 i, .int .i64 a, .int .i64 b, .int .i64 c, .int .i64 d]], [(false, .vec .item xs)] => some ((some (xs.length ≤ 1048576)), .tup [.agg [.vec 1], .bool (putF xs ⟨i, ⟨⟨a, b⟩, ⟨c, d⟩⟩⟩).2], [(false, .vec .item xs), (true, .vec .item (putF xs ⟨i, ⟨⟨a, b⟩, ⟨c, d⟩⟩⟩).1)])
  | _, _ => none⟩

theorem vc_specBroadPut (i : Int) (a : Int) (b : Int) (c : Int) (d : Int) (xs : List Item) (Q : SV → List Ent → Prop) :
    fnVC tt (look [(19, fs_specBroadOk), (80, fs_l1In), (81, fs_specBoxOk), (74, fs_l4Copy), (121, fs_l4At)]) L0 Try.f46 [.agg [.vec 0], .agg [.int .i64 i, .int .i64 a, .int .i64 b, .int .i64 c, .int .i64 d]] [(false, .vec .item xs)] Q =
    (List.length xs ≤ (1048576 : Nat) ∧ ifB (!itemsOk xs) (Q (SV.tup [SV.agg [SV.vec (1 : Nat)], SV.bool false]) [(false, Blk.vec Ty.item xs), (true, Blk.vec Ty.item [])]) (ifB (!isIn i (0 : Int) (1000000000 : Int)) (List.length xs ≤ (1048576 : Nat) ∧ Q (SV.tup [SV.agg [SV.vec (1 : Nat)], SV.bool false]) [(false, Blk.vec Ty.item xs), (true, Blk.vec Ty.item xs)]) (ifB (!boxOk (Box.mk (Vec.mk a b) (Vec.mk c d))) (List.length xs ≤ (1048576 : Nat) ∧ Q (SV.tup [SV.agg [SV.vec (1 : Nat)], SV.bool false]) [(false, Blk.vec Ty.item xs), (true, Blk.vec Ty.item xs)]) (List.length xs ≤ (4611686018427387904 : Nat) ∧ List.length xs ≤ (1048576 : Nat) ∧ ifB (hasI xs i) (((0 : Int) ≤ (↑(atI xs i) : Int) ∧ (↑(atI xs i) : Int) < (↑(List.length xs) : Int)) ∧ Q (SV.tup [SV.agg [SV.vec (1 : Nat)], SV.bool true]) [(false, Blk.vec Ty.item xs), (true, Blk.vec Ty.item (List.set xs (Int.toNat (↑(atI xs i) : Int)) (Item.mk i (Box.mk (Vec.mk a b) (Vec.mk c d)))))]) (ifB (decide ((↑(List.length xs) : Int) ≥ (24 : Int))) (Q (SV.tup [SV.agg [SV.vec (1 : Nat)], SV.bool false]) [(false, Blk.vec Ty.item xs), (true, Blk.vec Ty.item xs)]) (((0 : Int) ≤ (↑(atI xs i) : Int) ∧ (↑(atI xs i) : Int) ≤ (↑(List.length xs) : Int)) ∧ ((0 : Nat) + List.length (List.take (Int.toNat (↑(atI xs i) : Int)) (List.drop (0 : Nat) xs))) * (40 : Nat) ≤ room ∧ (List.length ([] ++ List.take (Int.toNat (↑(atI xs i) : Int)) (List.drop (0 : Nat) xs)) + List.length [Item.mk i (Box.mk (Vec.mk a b) (Vec.mk c d))]) * (40 : Nat) ≤ room ∧ ((0 : Int) ≤ (↑(atI xs i) : Int) ∧ (↑(atI xs i) : Int) ≤ (↑(List.length xs) : Int)) ∧ (List.length ([] ++ List.take (Int.toNat (↑(atI xs i) : Int)) (List.drop (0 : Nat) xs) ++ [Item.mk i (Box.mk (Vec.mk a b) (Vec.mk c d))]) + List.length (List.take (List.length xs - Int.toNat (↑(atI xs i) : Int)) (List.drop (Int.toNat (↑(atI xs i) : Int)) xs))) * (40 : Nat) ≤ room ∧ Q (SV.tup [SV.agg [SV.vec (1 : Nat)], SV.bool true]) [(false, Blk.vec Ty.item xs), (true, Blk.vec Ty.item ([] ++ List.take (Int.toNat (↑(atI xs i) : Int)) (List.drop (0 : Nat) xs) ++ [Item.mk i (Box.mk (Vec.mk a b) (Vec.mk c d))] ++ List.take (List.length xs - Int.toNat (↑(atI xs i) : Int)) (List.drop (Int.toNat (↑(atI xs i) : Int)) xs)))])))))) := by kernel_rfl

theorem ok_specBroadPut : FsOk Try.prog 46 fs_specBroadPut := fsOk_of tt_ok (tabFs_cons ok_specBroadOk (tabFs_cons ok_l1In (tabFs_cons ok_specBoxOk (tabFs_cons ok_l4Copy (tabFs_cons ok_l4At tabFs_nil))))) mixed Try.func46 (by kernel_rfl) (by kernel_rfl) (by
    intro args LL p r HH h hp
    unfold fs_specBroadPut at h
    dsimp only at h
    split at h
    case h_2 => cases h
    rename_i i a b c d xs
    simp only [Option.some.injEq, Prod.mk.injEq] at h
    obtain ⟨rfl, rfl, rfl⟩ := h
    refine ⟨by simp [Form, stays], L0, ?_⟩
    rw [vc_specBroadPut]
    try dsimp only
    have hb := hp _ rfl
    have hk := atI_le xs i
    refine ⟨hb, ifB_of (fun c1 => ?_) (fun c1 => ifB_of (fun c2 => ⟨hb, ?_⟩) (fun c2 => ifB_of (fun c3 => ⟨hb, ?_⟩) (fun c3 => ⟨by omega, hb, ifB_of (fun c4 => ⟨⟨by omega, ?_⟩, ?_⟩) (fun c4 => ifB_of (fun c5 => ?_) (fun c5 => ?_))⟩)))⟩
    · simp [putF, not_true c1]
    · simp [putF, itemOk, not_false c1, not_true c2]
    · simp [putF, itemOk, not_false c1, not_false c2, not_true c3]
    · have := hasI_lt c4
      omega
    · simp [putF, itemOk, not_false c1, not_false c2, not_false c3, c4]
    · have c5 := of_decide_eq_true c5
      simp [putF, itemOk, not_false c1, not_false c2, not_false c3, c4, show xs.length ≥ 24 by omega]
    · have c5 := of_decide_eq_false c5
      simp only [Int.toNat_natCast, List.drop_zero, take_rest, List.length_take, List.length_drop, List.length_append, List.length_nil, List.length_cons, room]
      refine ⟨⟨by omega, by omega⟩, by omega, by omega, ⟨by omega, by omega⟩, by omega, ?_⟩
      simp [putF, itemOk, insI, not_false c1, not_false c2, not_false c3, c4, show ¬ xs.length ≥ 24 by omega])


/-! ### The program's own way -/
noncomputable def fs_cloneItems : Fs := ⟨[], fun args H => match args, H with
  | [.vec 0], [(false, .vec .item xs)] => some ((some (xs.length ≤ 1048576)), .vec 1, [(false, .vec .item xs), (true, .vec .item xs)])
  | _, _ => none⟩

theorem vc_cloneItems (xs : List Item) (Q : SV → List Ent → Prop) :
    fnVC tt (look []) L0 Try.f117 [.vec 0] [(false, .vec .item xs)] Q =
    (∀ (b : Bool), (b = true → List.length xs = (0 : Nat)) → ifB b (Q (SV.vec (1 : Nat)) [(false, Blk.vec Ty.item xs), (true, Blk.vec Ty.item [])]) (((0 : Nat) + List.length xs) * (40 : Nat) ≤ room ∧ Q (SV.vec (1 : Nat)) [(false, Blk.vec Ty.item xs), (true, Blk.vec Ty.item ([] ++ xs))])) := by kernel_rfl

theorem ok_cloneItems : FsOk Try.prog 117 fs_cloneItems := fsOk_of tt_ok tabFs_nil mixed Try.func117 (by kernel_rfl) (by kernel_rfl) (by
    intro args LL p r HH h hp
    unfold fs_cloneItems at h
    dsimp only at h
    split at h
    case h_2 => cases h
    rename_i xs
    simp only [Option.some.injEq, Prod.mk.injEq] at h
    obtain ⟨rfl, rfl, rfl⟩ := h
    refine ⟨by simp [Form, stays], L0, ?_⟩
    rw [vc_cloneItems]
    try dsimp only
    have hb := hp _ rfl
    intro z hz
    refine ifB_of (fun c => ?_) (fun c => ⟨by simp only [room]; omega, ?_⟩)
    · have := List.length_eq_zero_iff.1 (hz c)
      subst this
      exact ⟨rfl, rfl⟩
    · simp)

noncomputable def fs_isId : Fs := ⟨[], fun args H => match args, H with
  | [.agg [.int .i64 i, .int .i64 a, .int .i64 b, .int .i64 c, .int .i64 d], .ptr 0 0 0], [(true, .box [.int .i64 id])] => some (none, .bool (i == id), [(true, .box [.int .i64 id])])
  | _, _ => none⟩

theorem vc_isId (i : Int) (a : Int) (b : Int) (c : Int) (d : Int) (id : Int) (Q : SV → List Ent → Prop) :
    fnVC tt (look []) L0 Try.f132 [.agg [.int .i64 i, .int .i64 a, .int .i64 b, .int .i64 c, .int .i64 d], .ptr 0 0 0] [(true, .box [.int .i64 id])] Q =
    (Q (SV.bool (i == id)) [(true, Blk.box [SV.int IntKind.i64 id])]) := by kernel_rfl

theorem ok_isId : FsOk Try.prog 132 fs_isId := fsOk_of tt_ok tabFs_nil mixed Try.func132 (by kernel_rfl) (by kernel_rfl) (by
    intro args LL p r HH h hp
    unfold fs_isId at h
    dsimp only at h
    split at h
    case h_2 => cases h
    rename_i i a b c d id
    simp only [Option.some.injEq, Prod.mk.injEq] at h
    obtain ⟨rfl, rfl, rfl⟩ := h
    refine ⟨by simp [Form, stays], L0, ?_⟩
    rw [vc_isId]
    try dsimp only
    exact ⟨rfl, rfl⟩)

def LSidxId  : LS where
  S := List Item × Int × Unit × Unit × Int × Int
  live := [(0, [none]), (1, [none]), (7, [none]), (8, [none])]
  shape := fun s => ([.vec 0, .fn 132 (some 1), .int .i64 s.2.2.2.2.1, .int .i64 s.2.2.2.2.2], [(false, .vec .item s.1), (true, .box [.int .i64 s.2.1])])
  get := fun v h => match v, h with
    | [.vec 0, .fn 132 (some 1), .int .i64 n, .int .i64 i], [(false, .vec .item xs), (true, .box [.int .i64 id])] => some (xs, id, (), (), n, i)
    | _, _ => none
  inv := fun s0 s => Holds (s.1 = s0.1 ∧ s.2.1 = s0.2.1 ∧ s.2.2.2.2.1 = s0.1.length ∧ 0 ≤ s.2.2.2.2.2 ∧ s.2.2.2.2.2 ≤ s0.1.length ∧ (∀ k, k < s.2.2.2.2.2.toNat → ((Ty.ix .item s0.1 k).Id == s0.2.1) = false))
  mu := fun s => ((s.1.length : Int) - s.2.2.2.2.2).toNat
  ok := by
    intro v h s hg
    try dsimp only at hg
    split at hg <;> cases hg
    rfl

def L_idxId : Loops := fun n => match n with
  | 2 => some LSidxId
  | _ => none
noncomputable def fs_idxId : Fs := ⟨[], fun args H => match args, H with
  | [.vec 0, .fn 132 (some 1)], [(false, .vec .item xs), (true, .box [.int .i64 id])] => some ((some (xs.length ≤ 4611686018427387904)), .int .i64 (firstI (fun y : Item => y.Id == id) xs), [(false, .vec .item xs), (true, .box [.int .i64 id])])
  | _, _ => none⟩

theorem vc_idxId (xs : List Item) (id : Int) (Q : SV → List Ent → Prop) :
    fnVC tt (look [(132, fs_isId)]) (L_idxId) Try.f131 [.vec 0, .fn 132 (some 1)] [(false, .vec .item xs), (true, .box [.int .i64 id])] Q =
    (Holds (xs = xs ∧ id = id ∧ (↑(List.length xs) : Int) = (↑(List.length xs) : Int) ∧ (0 : Int) ≤ (0 : Int) ∧ (0 : Int) ≤ (↑(List.length xs) : Int) ∧ ∀ (k : Nat), k < Int.toNat (0 : Int) → (Item.Id (Ty.ix Ty.item xs k) == id) = false) ∧ ∀ (x : List Item × Int × Unit × Unit × Int × Int), Holds (Prod.fst x = xs ∧ Prod.fst (Prod.snd x) = id ∧ Prod.fst (Prod.snd (Prod.snd (Prod.snd (Prod.snd x)))) = (↑(List.length xs) : Int) ∧ (0 : Int) ≤ Prod.snd (Prod.snd (Prod.snd (Prod.snd (Prod.snd x)))) ∧ Prod.snd (Prod.snd (Prod.snd (Prod.snd (Prod.snd x)))) ≤ (↑(List.length xs) : Int) ∧ ∀ (k : Nat), k < Int.toNat (Prod.snd (Prod.snd (Prod.snd (Prod.snd (Prod.snd x))))) → (Item.Id (Ty.ix Ty.item xs k) == id) = false) → ifB (decide (Prod.snd (Prod.snd (Prod.snd (Prod.snd (Prod.snd x)))) < Prod.fst (Prod.snd (Prod.snd (Prod.snd (Prod.snd x)))))) (((0 : Int) ≤ Prod.snd (Prod.snd (Prod.snd (Prod.snd (Prod.snd x)))) ∧ Prod.snd (Prod.snd (Prod.snd (Prod.snd (Prod.snd x)))) < (↑(List.length (Prod.fst x)) : Int)) ∧ ifB (Item.Id (Ty.ix Ty.item (Prod.fst x) (Int.toNat (Prod.snd (Prod.snd (Prod.snd (Prod.snd (Prod.snd x))))))) == Prod.fst (Prod.snd x)) (Q (SV.int IntKind.i64 (Prod.snd (Prod.snd (Prod.snd (Prod.snd (Prod.snd x)))))) [(false, Blk.vec Ty.item (Prod.fst x)), (true, Blk.box [SV.int IntKind.i64 (Prod.fst (Prod.snd x))])]) (Holds (Prod.fst x = xs ∧ Prod.fst (Prod.snd x) = id ∧ Prod.fst (Prod.snd (Prod.snd (Prod.snd (Prod.snd x)))) = (↑(List.length xs) : Int) ∧ (0 : Int) ≤ IntKind.wrap IntKind.i64 (Prod.snd (Prod.snd (Prod.snd (Prod.snd (Prod.snd x)))) + (1 : Int)) ∧ IntKind.wrap IntKind.i64 (Prod.snd (Prod.snd (Prod.snd (Prod.snd (Prod.snd x)))) + (1 : Int)) ≤ (↑(List.length xs) : Int) ∧ ∀ (k : Nat), k < Int.toNat (IntKind.wrap IntKind.i64 (Prod.snd (Prod.snd (Prod.snd (Prod.snd (Prod.snd x)))) + (1 : Int))) → (Item.Id (Ty.ix Ty.item xs k) == id) = false) ∧ Int.toNat ((↑(List.length (Prod.fst x)) : Int) - IntKind.wrap IntKind.i64 (Prod.snd (Prod.snd (Prod.snd (Prod.snd (Prod.snd x)))) + (1 : Int))) < Int.toNat ((↑(List.length (Prod.fst x)) : Int) - Prod.snd (Prod.snd (Prod.snd (Prod.snd (Prod.snd x))))))) (Q (SV.int IntKind.i64 (-1 : Int)) [(false, Blk.vec Ty.item (Prod.fst x)), (true, Blk.box [SV.int IntKind.i64 (Prod.fst (Prod.snd x))])])) := by kernel_rfl

theorem ok_idxId : FsOk Try.prog 131 fs_idxId := fsOk_of tt_ok (tabFs_cons ok_isId tabFs_nil) mixed Try.func131 (by kernel_rfl) (by kernel_rfl) (by
    intro args LL p r HH h hp
    unfold fs_idxId at h
    dsimp only at h
    split at h
    case h_2 => cases h
    rename_i xs id
    simp only [Option.some.injEq, Prod.mk.injEq] at h
    obtain ⟨rfl, rfl, rfl⟩ := h
    refine ⟨by simp [Form, stays], (L_idxId), ?_⟩
    rw [vc_idxId]
    try dsimp only
    have hb := hp _ rfl
    refine ⟨⟨(by trivial), (by trivial), (by trivial), by omega, by omega, fun k hk => absurd hk (by simp)⟩, ?_⟩
    rintro ⟨xs', id', u, f, n, i⟩ ⟨h⟩
    dsimp only at h ⊢
    obtain ⟨rfl, rfl, rfl, h0, h1, h3⟩ := h
    refine ifB_of (fun c => ?_) (fun c => ?_)
    · have hi : i < xs'.length := of_decide_eq_true c
      have e1 : (i + 1).toNat = i.toNat + 1 := by omega
      refine ⟨⟨h0, hi⟩, ifB_of (fun c1 => ?_) (fun c1 => ?_)⟩
      · rw [firstI_at (T := .item) (p := fun y : Item => y.Id == id') (i := i.toNat) (by omega) c1 h3]
        refine ⟨?_, (by trivial)⟩
        congr 1
        omega
      · simp (disch := omega) only [wrap_small, e1]
        refine ⟨⟨(by trivial), (by trivial), (by trivial), by omega, by omega, fun k hk => ?_⟩, by omega⟩
        by_cases e : k = i.toNat
        · rw [e]; exact c1
        · exact h3 k (by omega)
    · have hi : ¬ i < xs'.length := of_decide_eq_false c
      rw [firstI_no (T := .item) (p := fun y : Item => y.Id == id') fun k hk => h3 k (by omega)]
      exact ⟨rfl, rfl⟩)

def delRaw (xs : List Item) (i : Nat) : List Item := spl (spl xs i (xs.drop (i + 1))) (xs.length - 1) [⟨0, ⟨⟨0, 0⟩, ⟨0, 0⟩⟩⟩]
theorem length_delRaw {xs : List Item} {i : Nat} (h : i < xs.length) : (delRaw xs i).length = xs.length := by
  have h1 : (spl xs i (xs.drop (i + 1))).length = xs.length := length_spl (by simp; omega)
  unfold delRaw
  rw [length_spl (by rw [h1]; simp; omega), h1]
theorem delRaw_take {xs : List Item} {i : Nat} (h : i < xs.length) : (delRaw xs i).take (xs.length - 1) = delI xs i := by
  have h1 : (spl xs i (xs.drop (i + 1))).length = xs.length := length_spl (by simp; omega)
  unfold delRaw
  have e : spl (spl xs i (xs.drop (i + 1))) (xs.length - 1) [⟨0, ⟨⟨0, 0⟩, ⟨0, 0⟩⟩⟩] = (spl xs i (xs.drop (i + 1))).take (xs.length - 1) ++ ([⟨0, ⟨⟨0, 0⟩, ⟨0, 0⟩⟩⟩] ++ (spl xs i (xs.drop (i + 1))).drop (xs.length - 1 + 1)) := by
    simp [spl]
  rw [e, List.take_left' (by simp [h1])]
  unfold spl delI
  rw [List.take_left' (by simp; omega)]
noncomputable def fs_delItems0 : Fs := ⟨[true], fun args H => match args, H with
  | [.vec 0, .int .i64 i, .int .i64 j], [(true, .vec .item xs)] => some ((some (xs.length ≤ 1048576 ∧ 0 ≤ i ∧ i < xs.length ∧ j = i + 1)), .sl 0 0 (xs.length - 1), [(true, .vec .item (delRaw xs i.toNat))])
  | _, _ => none⟩

theorem vc_delItems0 (i : Int) (j : Int) (xs : List Item) (Q : SV → List Ent → Prop) :
    fnVC tt (look []) L0 Try.f133 [.vec 0, .int .i64 i, .int .i64 j] [(true, .vec .item xs)] Q =
    (((0 : Int) ≤ i ∧ i ≤ j ∧ j ≤ (↑(List.length xs) : Int) ∧ (↑(List.length xs) : Int) ≤ (↑(List.length xs) : Int)) ∧ ifB (i == j) (Q (SV.sl (0 : Nat) (0 : Nat) (List.length xs)) [(true, Blk.vec Ty.item xs)]) (((0 : Int) ≤ i ∧ i ≤ (↑(List.length xs) : Int)) ∧ ((0 : Int) ≤ j ∧ j ≤ (↑(List.length xs) : Int)) ∧ (0 : Nat) + Int.toNat i + List.length (List.take (List.length xs - Int.toNat j) (List.drop (Int.toNat j) xs)) ≤ List.length xs ∧ ((0 : Int) ≤ (↑(Int.toNat i + List.length (List.take (List.length xs - Int.toNat j) (List.drop (Int.toNat j) xs))) : Int) ∧ (↑(Int.toNat i + List.length (List.take (List.length xs - Int.toNat j) (List.drop (Int.toNat j) xs))) : Int) ≤ (↑(List.length xs) : Int) ∧ (↑(0 : Nat) : Int) + (↑(List.length xs) : Int) ≤ (↑(List.length (spl xs ((0 : Nat) + Int.toNat i) (List.take (List.length xs - Int.toNat j) (List.drop (Int.toNat j) xs)))) : Int)) ∧ Q (SV.sl (0 : Nat) (0 : Nat) (Int.toNat i + List.length (List.take (List.length xs - Int.toNat j) (List.drop (Int.toNat j) xs)))) [(true, Blk.vec Ty.item (spl (spl xs ((0 : Nat) + Int.toNat i) (List.take (List.length xs - Int.toNat j) (List.drop (Int.toNat j) xs))) ((0 : Nat) + Int.toNat (↑(Int.toNat i + List.length (List.take (List.length xs - Int.toNat j) (List.drop (Int.toNat j) xs))) : Int)) (List.replicate (Int.toNat (↑(List.length xs) : Int) - Int.toNat (↑(Int.toNat i + List.length (List.take (List.length xs - Int.toNat j) (List.drop (Int.toNat j) xs))) : Int)) (Item.mk (0 : Int) (Box.mk (Vec.mk (0 : Int) (0 : Int)) (Vec.mk (0 : Int) (0 : Int)))))))])) := by kernel_rfl

theorem ok_delItems0 : FsOk Try.prog 133 fs_delItems0 := fsOk_of tt_ok tabFs_nil mixed Try.func133 (by kernel_rfl) (by kernel_rfl) (by
    intro args LL p r HH h hp
    unfold fs_delItems0 at h
    dsimp only at h
    split at h
    case h_2 => cases h
    rename_i i j xs
    simp only [Option.some.injEq, Prod.mk.injEq] at h
    obtain ⟨rfl, rfl, rfl⟩ := h
    refine ⟨by obtain ⟨hb, h0, h1, _⟩ := hp _ rfl; simp [Form, stays, length_delRaw (show i.toNat < xs.length by omega)], L0, ?_⟩
    rw [vc_delItems0]
    try dsimp only
    obtain ⟨hb, h0, h1, rfl⟩ := hp _ rfl
    have e1 : (i + 1).toNat = i.toNat + 1 := by omega
    have e2 : i.toNat + (xs.length - (i.toNat + 1)) = xs.length - 1 := by omega
    have e3 : xs.length - (xs.length - 1) = 1 := by omega
    have h2 : (spl xs i.toNat (xs.drop (i.toNat + 1))).length = xs.length := length_spl (by simp; omega)
    simp only [e1, take_rest, List.length_drop, e2, Int.toNat_natCast, e3, Nat.zero_add, h2]
    refine ⟨⟨h0, by omega, by omega, by omega⟩, ifB_of (fun c => ?_) (fun c => ⟨⟨h0, by omega⟩, ⟨by omega, by omega⟩, by omega, ⟨by omega, by omega, by omega⟩, (by trivial), (by trivial)⟩)⟩
    simp at c
    omega)

def fs_delItems : Fs := ⟨[true], fun args H => match args, H with
  | [.vec 0, .int .i64 i, .int .i64 j], [(true, .vec .item xs)] => some (some (xs.length ≤ 1048576 ∧ 0 ≤ i ∧ i < xs.length ∧ j = i + 1), .vec 1, [(true, .dead), (true, .vec .item ((delRaw xs i.toNat).take (xs.length - 1)))])
  | _, _ => none⟩
theorem ok_delItems : FsOk Try.prog 133 fs_delItems := by
  refine fsOk_retake ok_delItems0 ?_
  intro args L p r L' h
  unfold fs_delItems at h
  dsimp only at h
  split at h
  case h_2 => cases h
  rename_i i j xs
  simp only [Option.some.injEq, Prod.mk.injEq] at h
  obtain ⟨rfl, rfl, rfl⟩ := h
  exact ⟨.item, delRaw xs i.toNat, [], xs.length - 1, rfl, rfl, rfl⟩
theorem itemsOk_iff {xs : List Item} : itemsOk xs = true ↔ xs.length ≤ 24 ∧ (∀ k, k < xs.length → itemOk (Ty.ix .item xs k) = true) ∧ ∀ k, k + 1 < xs.length → (Ty.ix .item xs k).Id < (Ty.ix .item xs (k + 1)).Id := by
  simp only [itemsOk, Bool.and_eq_true, decide_eq_true_eq, allTo_iff, itemAt, Bool.or_eq_true, beq_iff_eq]
  constructor
  · rintro ⟨h1, h2⟩
    refine ⟨h2, fun k hk => (h1 k hk).1, fun k hk => ?_⟩
    rcases (h1 (k + 1) hk).2 with h | h
    · omega
    · simpa using h
  · rintro ⟨h1, h2, h3⟩
    refine ⟨fun k hk => ⟨h2 k hk, ?_⟩, h1⟩
    cases k with
    | zero => left; rfl
    | succ k => right; simpa using h3 k hk
theorem items_lt {xs : List Item} (h : itemsOk xs = true) : ∀ {b a : Nat}, a < b → b < xs.length → (Ty.ix .item xs a).Id < (Ty.ix .item xs b).Id
  | 0, a, h1, _ => by omega
  | b + 1, a, h1, h2 => by
    have h3 := (itemsOk_iff.1 h).2.2 b h2
    by_cases e : a = b
    · subst e; exact h3
    · exact Int.lt_trans (items_lt h (b := b) (a := a) (by omega) (by omega)) h3
theorem firstI_id {xs : List Item} {id : Int} (h : itemsOk xs = true) : firstI (fun y : Item => y.Id == id) xs = bif hasI xs id then (atI xs id : Int) else -1 := by
  obtain ⟨k1, k2, k3⟩ := pref_spec (T := .item) (p := fun y : Item => decide (y.Id < id)) xs
  change atI xs id ≤ xs.length at k1
  change ∀ e, e < atI xs id → decide ((Ty.ix .item xs e).Id < id) = true at k2
  change atI xs id < xs.length → decide ((Ty.ix .item xs (atI xs id)).Id < id) = false at k3
  cases hh : hasI xs id with
  | true =>
    have hlt := hasI_lt hh
    simp only [hasI, Bool.and_eq_true] at hh
    simp only [cond_true]
    refine firstI_at (T := .item) (p := fun y : Item => y.Id == id) hlt hh.2 fun e he => ?_
    have := of_decide_eq_true (k2 e he)
    simp
    omega
  | false =>
    simp only [cond_false]
    refine firstI_no (T := .item) (p := fun y : Item => y.Id == id) fun e he => ?_
    simp only [beq_eq_false_iff_ne]
    intro q
    rcases Nat.lt_trichotomy e (atI xs id) with c | c | c
    · have := of_decide_eq_true (k2 e c)
      omega
    · subst c
      simp [hasI, he, q] at hh
    · have hk := of_decide_eq_false (k3 (by omega))
      have := items_lt h c he
      omega
noncomputable def fs_implBroadGone : Fs := ⟨[], fun args H => match args, H with
  | [.agg [.vec 0], .int .i64 id], [(false, .vec .item xs)] => some ((some (xs.length ≤ 1048576)), .tup [.agg [.vec 1], .bool (goneF xs id).2], [(false, .vec .item xs), (true, .vec .item (goneF xs id).1)])
  | _, _ => none⟩

theorem vc_implBroadGone (id : Int) (xs : List Item) (Q : SV → List Ent → Prop) :
    fnVC tt (look [(53, fs_implBroadOk), (117, fs_cloneItems), (131, fs_idxId), (132, fs_isId), (133, fs_delItems)]) L0 Try.f54 [.agg [.vec 0], .int .i64 id] [(false, .vec .item xs)] Q =
    (List.length xs ≤ (1048576 : Nat) ∧ ifB (!itemsOk xs) (Q (SV.tup [SV.agg [SV.vec (1 : Nat)], SV.bool false]) [(false, Blk.vec Ty.item xs), (true, Blk.vec Ty.item [])]) (List.length xs ≤ (1048576 : Nat) ∧ List.length xs ≤ (4611686018427387904 : Nat) ∧ ifB (decide (firstI (fun y => Item.Id y == id) xs < (0 : Int))) (Q (SV.tup [SV.agg [SV.vec (1 : Nat)], SV.bool false]) [(false, Blk.vec Ty.item xs), (true, Blk.vec Ty.item xs)]) ((List.length xs ≤ (1048576 : Nat) ∧ (0 : Int) ≤ firstI (fun y => Item.Id y == id) xs ∧ firstI (fun y => Item.Id y == id) xs < (↑(List.length xs) : Int) ∧ IntKind.wrap IntKind.i64 (firstI (fun y => Item.Id y == id) xs + (1 : Int)) = firstI (fun y => Item.Id y == id) xs + (1 : Int)) ∧ Q (SV.tup [SV.agg [SV.vec (1 : Nat)], SV.bool true]) [(false, Blk.vec Ty.item xs), (true, Blk.vec Ty.item (List.take (List.length xs - (1 : Nat)) (delRaw xs (Int.toNat (firstI (fun y => Item.Id y == id) xs)))))]))) := by kernel_rfl

theorem ok_implBroadGone : FsOk Try.prog 54 fs_implBroadGone := fsOk_of tt_ok (tabFs_cons ok_implBroadOk (tabFs_cons ok_cloneItems (tabFs_cons ok_idxId (tabFs_cons ok_isId (tabFs_cons ok_delItems tabFs_nil))))) mixed Try.func54 (by kernel_rfl) (by kernel_rfl) (by
    intro args LL p r HH h hp
    unfold fs_implBroadGone at h
    dsimp only at h
    split at h
    case h_2 => cases h
    rename_i id xs
    simp only [Option.some.injEq, Prod.mk.injEq] at h
    obtain ⟨rfl, rfl, rfl⟩ := h
    refine ⟨by simp [Form, stays], L0, ?_⟩
    rw [vc_implBroadGone]
    try dsimp only
    have hb := hp _ rfl
    refine ⟨hb, ifB_of (fun c1 => ?_) (fun c1 => ⟨hb, by omega, ?_⟩)⟩
    · simp [goneF, not_true c1]
    rw [firstI_id (not_false c1)]
    cases hh : hasI xs id with
    | false => simp [goneF, not_false c1, hh, ifB]
    | true =>
      have hlt := hasI_lt hh
      simp only [cond_true, Int.toNat_natCast, delRaw_take hlt]
      refine ifB_of (fun c => ?_) (fun c => ⟨⟨hb, by omega, by omega, wrap_small (by omega) (by omega)⟩, ?_⟩)
      · have := of_decide_eq_true c
        omega
      · simp [goneF, not_false c1, hh])

theorem length_goneF {xs : List Item} {id : Int} : (goneF xs id).1.length ≤ xs.length := by
  unfold goneF
  cases itemsOk xs <;> cases hasI xs id <;> simp [delI]
  omega
theorem length_putF {xs : List Item} {x : Item} : (putF xs x).1.length ≤ xs.length + 1 := by
  unfold putF
  have := atI_le xs x.Id
  cases itemsOk xs <;> cases itemOk x <;> cases hasI xs x.Id <;> cases decide (xs.length ≥ 24) <;> simp [insI]
  omega
end Go.Proofs.Ytgdpaijphaeimaa.Sym
