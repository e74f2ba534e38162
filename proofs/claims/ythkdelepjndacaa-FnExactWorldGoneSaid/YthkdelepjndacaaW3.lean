/-
  Worlds: a body taken away.
  No condition.
-/
import Derived.Test.YthkdelepjndacaaW2
import Derived.Test.YthkdelepjndacaaT2
import Derived.Test.YthkdelepjndacaaSymY
namespace Go.Proofs.Ythkdelepjndacaa.Sym
open Go
set_option linter.unusedVariables false
set_option linter.unusedSimpArgs false
set_option maxRecDepth 100000

/-! ### A body deleted -/
def zeroB : Body := ⟨0, ⟨0, 0, 0⟩, ⟨0, 0⟩, ⟨0, 0⟩, 0, 0, 0, 0⟩
def delB (xs : List Body) (k : Nat) : List Body := xs.take k ++ xs.drop (k + 1)
def delRawB (xs : List Body) (i : Nat) : List Body := spl (spl xs i (xs.drop (i + 1))) (xs.length - 1) [zeroB]
theorem length_delRawB {xs : List Body} {i : Nat} (h : i < xs.length) : (delRawB xs i).length = xs.length := by
  have h1 : (spl xs i (xs.drop (i + 1))).length = xs.length := length_spl (by simp; omega)
  unfold delRawB
  rw [length_spl (by rw [h1]; simp; omega), h1]
theorem delRawB_take {xs : List Body} {i : Nat} (h : i < xs.length) : (delRawB xs i).take (xs.length - 1) = delB xs i := by
  have h1 : (spl xs i (xs.drop (i + 1))).length = xs.length := length_spl (by simp; omega)
  unfold delRawB
  have e : spl (spl xs i (xs.drop (i + 1))) (xs.length - 1) [zeroB] = (spl xs i (xs.drop (i + 1))).take (xs.length - 1) ++ ([zeroB] ++ (spl xs i (xs.drop (i + 1))).drop (xs.length - 1 + 1)) := by
    simp [spl]
  rw [e, List.take_left' (by simp [h1])]
  unfold spl delB
  rw [List.take_left' (by simp; omega)]
theorem length_delB {xs : List Body} {k : Nat} (h : k < xs.length) : (delB xs k).length = xs.length - 1 := by
  simp only [delB, List.length_append, List.length_take, List.length_drop]
  omega
noncomputable def fs_delBodies0 : Fs := ⟨[true], fun args H => match args, H with
  | [.vec 0, .int .i64 i, .int .i64 j], [(true, .vec .body xs)] => some ((some (xs.length ≤ 1048576 ∧ 0 ≤ i ∧ i < xs.length ∧ j = i + 1)), .sl 0 0 (xs.length - 1), [(true, .vec .body (delRawB xs i.toNat))])
  | _, _ => none⟩

theorem vc_delBodies0 (i : Int) (j : Int) (xs : List Body) (Q : SV → List Ent → Prop) :
    fnVC tt (look []) L0 Try.f84 [.vec 0, .int .i64 i, .int .i64 j] [(true, .vec .body xs)] Q =
    (((0 : Int) ≤ i ∧ i ≤ j ∧ j ≤ (↑(List.length xs) : Int) ∧ (↑(List.length xs) : Int) ≤ (↑(List.length xs) : Int)) ∧ ifB (i == j) (Q (SV.sl (0 : Nat) (0 : Nat) (List.length xs)) [(true, Blk.vec Ty.body xs)]) (((0 : Int) ≤ i ∧ i ≤ (↑(List.length xs) : Int)) ∧ ((0 : Int) ≤ j ∧ j ≤ (↑(List.length xs) : Int)) ∧ (0 : Nat) + Int.toNat i + List.length (List.take (List.length xs - Int.toNat j) (List.drop (Int.toNat j) xs)) ≤ List.length xs ∧ ((0 : Int) ≤ (↑(Int.toNat i + List.length (List.take (List.length xs - Int.toNat j) (List.drop (Int.toNat j) xs))) : Int) ∧ (↑(Int.toNat i + List.length (List.take (List.length xs - Int.toNat j) (List.drop (Int.toNat j) xs))) : Int) ≤ (↑(List.length xs) : Int) ∧ (↑(0 : Nat) : Int) + (↑(List.length xs) : Int) ≤ (↑(List.length (spl xs ((0 : Nat) + Int.toNat i) (List.take (List.length xs - Int.toNat j) (List.drop (Int.toNat j) xs)))) : Int)) ∧ Q (SV.sl (0 : Nat) (0 : Nat) (Int.toNat i + List.length (List.take (List.length xs - Int.toNat j) (List.drop (Int.toNat j) xs)))) [(true, Blk.vec Ty.body (spl (spl xs ((0 : Nat) + Int.toNat i) (List.take (List.length xs - Int.toNat j) (List.drop (Int.toNat j) xs))) ((0 : Nat) + Int.toNat (↑(Int.toNat i + List.length (List.take (List.length xs - Int.toNat j) (List.drop (Int.toNat j) xs))) : Int)) (List.replicate (Int.toNat (↑(List.length xs) : Int) - Int.toNat (↑(Int.toNat i + List.length (List.take (List.length xs - Int.toNat j) (List.drop (Int.toNat j) xs))) : Int)) (Body.mk (0 : Int) (Shape.mk (0 : Int) (0 : Int) (0 : Int)) (Vec.mk (0 : Int) (0 : Int)) (Vec.mk (0 : Int) (0 : Int)) (0 : Int) (0 : Int) (0 : Int) (0 : Int)))))])) := by kernel_rfl

theorem ok_delBodies0 : FsOk Try.prog 84 fs_delBodies0 := fsOk_of tt_ok tabFs_nil mixed Try.func84 (by kernel_rfl) (by kernel_rfl) (by
    intro args LL p r HH h hp
    unfold fs_delBodies0 at h
    dsimp only at h
    split at h
    case h_2 => cases h
    rename_i i j xs
    simp only [Option.some.injEq, Prod.mk.injEq] at h
    obtain ⟨rfl, rfl, rfl⟩ := h
    refine ⟨by obtain ⟨hb, h0, h1, _⟩ := hp _ rfl; simp [Form, stays, length_delRawB (show i.toNat < xs.length by omega)], L0, ?_⟩
    rw [vc_delBodies0]
    try dsimp only
    obtain ⟨hb, h0, h1, rfl⟩ := hp _ rfl
    have e1 : (i + 1).toNat = i.toNat + 1 := by omega
    have e2 : i.toNat + (xs.length - (i.toNat + 1)) = xs.length - 1 := by omega
    have e3 : xs.length - (xs.length - 1) = 1 := by omega
    have h2 : (spl xs i.toNat (xs.drop (i.toNat + 1))).length = xs.length := length_spl (by simp; omega)
    simp only [e1, take_restB, List.length_drop, e2, Int.toNat_natCast, e3, Nat.zero_add, h2]
    refine ⟨⟨h0, by omega, by omega, by omega⟩, ifB_of (fun c => ?_) (fun c => ⟨⟨h0, by omega⟩, ⟨by omega, by omega⟩, by omega, ⟨by omega, by omega, by omega⟩, (by trivial), (by trivial)⟩)⟩
    simp at c
    omega)

def fs_delBodies : Fs := ⟨[true], fun args H => match args, H with
  | [.vec 0, .int .i64 i, .int .i64 j], [(true, .vec .body xs)] => some (some (xs.length ≤ 1048576 ∧ 0 ≤ i ∧ i < xs.length ∧ j = i + 1), .vec 1, [(true, .dead), (true, .vec .body ((delRawB xs i.toNat).take (xs.length - 1)))])
  | _, _ => none⟩
theorem ok_delBodies : FsOk Try.prog 84 fs_delBodies := by
  refine fsOk_retake ok_delBodies0 ?_
  intro args L p r L' h
  unfold fs_delBodies at h
  dsimp only at h
  split at h
  case h_2 => cases h
  rename_i i j xs
  simp only [Option.some.injEq, Prod.mk.injEq] at h
  obtain ⟨rfl, rfl, rfl⟩ := h
  exact ⟨.body, delRawB xs i.toNat, [], xs.length - 1, rfl, rfl, rfl⟩
/-! ### Pairs deleted -/
def keepP (id : Int) (q : Pair) : Bool := !(q.A == id) && !(q.B == id)
def dropP (id : Int) (q : Pair) : Bool := !keepP id q
noncomputable def fs_ofBody : Fs := ⟨[], fun args H => match args, H with
  | [.agg [.int .i64 a, .int .i64 b], .ptr 0 0 0], [(true, .box [.int .i64 id])] => some (none, .bool (dropP id ⟨a, b⟩), [(true, .box [.int .i64 id])])
  | _, _ => none⟩

theorem vc_ofBody (a : Int) (b : Int) (id : Int) (Q : SV → List Ent → Prop) :
    fnVC tt (look []) L0 Try.f86 [.agg [.int .i64 a, .int .i64 b], .ptr 0 0 0] [(true, .box [.int .i64 id])] Q =
    (ifB (a == id) (Q (SV.bool true) [(true, Blk.box [SV.int IntKind.i64 id])]) (Q (SV.bool (b == id)) [(true, Blk.box [SV.int IntKind.i64 id])])) := by kernel_rfl

theorem ok_ofBody : FsOk Try.prog 86 fs_ofBody := fsOk_of tt_ok tabFs_nil mixed Try.func86 (by kernel_rfl) (by kernel_rfl) (by
    intro args LL p r HH h hp
    unfold fs_ofBody at h
    dsimp only at h
    split at h
    case h_2 => cases h
    rename_i a b id
    simp only [Option.some.injEq, Prod.mk.injEq] at h
    obtain ⟨rfl, rfl, rfl⟩ := h
    refine ⟨by simp [Form, stays], L0, ?_⟩
    rw [vc_ofBody]
    try dsimp only
    unfold dropP keepP
    refine ifB_of (fun c => ?_) (fun c => ?_)
    · simp only [c, Bool.not_true, Bool.false_and, Bool.not_false]; exact ⟨(by trivial), (by trivial)⟩
    · simp only [c, Bool.not_false, Bool.true_and, Bool.not_not]; exact ⟨(by trivial), (by trivial)⟩)

def LSidxGone  : LS where
  S := List Pair × Int × Unit × Unit × Int × Int
  live := [(0, [none]), (1, [none]), (7, [none]), (8, [none])]
  shape := fun s => ([.vec 0, .fn 86 (some 1), .int .i64 s.2.2.2.2.1, .int .i64 s.2.2.2.2.2], [(false, .vec .pair s.1), (true, .box [.int .i64 s.2.1])])
  get := fun v h => match v, h with
    | [.vec 0, .fn 86 (some 1), .int .i64 n, .int .i64 i], [(false, .vec .pair xs), (true, .box [.int .i64 id])] => some (xs, id, (), (), n, i)
    | _, _ => none
  inv := fun s0 s => Holds (s.1 = s0.1 ∧ s.2.1 = s0.2.1 ∧ s.2.2.2.2.1 = s0.1.length ∧ 0 ≤ s.2.2.2.2.2 ∧ s.2.2.2.2.2 ≤ s0.1.length ∧ (∀ k, k < s.2.2.2.2.2.toNat → dropP s0.2.1 (Ty.ix .pair s0.1 k) = false))
  mu := fun s => ((s.1.length : Int) - s.2.2.2.2.2).toNat
  ok := by
    intro v h s hg
    try dsimp only at hg
    split at hg <;> cases hg
    rfl

def L_idxGone : Loops := fun n => match n with
  | 2 => some LSidxGone
  | _ => none
def LSdelGone (zs : List Pair) : LS where
  S := List Pair × Int × Unit × Unit × Int × Int
  live := [(0, [none]), (1, [none]), (5, [none]), (6, [none])]
  shape := fun s => ([.vec 0, .fn 86 (some 1), .int .i64 s.2.2.2.2.1, .int .i64 s.2.2.2.2.2], [(true, .vec .pair s.1), (true, .box [.int .i64 s.2.1])])
  get := fun v h => match v, h with
    | [.vec 0, .fn 86 (some 1), .int .i64 i, .int .i64 j], [(true, .vec .pair ys), (true, .box [.int .i64 id])] => some (ys, id, (), (), i, j)
    | _, _ => none
  inv := fun s0 s => Holds (s.2.1 = s0.2.1 ∧ 0 ≤ s.2.2.2.2.1 ∧ s.2.2.2.2.1 < s.2.2.2.2.2 ∧ s.2.2.2.2.2 ≤ zs.length ∧ s.1.length = zs.length ∧ s.1.take s.2.2.2.2.1.toNat = (zs.take s.2.2.2.2.2.toNat).filter (keepP s0.2.1) ∧ s.1.drop s.2.2.2.2.2.toNat = zs.drop s.2.2.2.2.2.toNat)
  mu := fun s => ((zs.length : Int) - s.2.2.2.2.2).toNat
  ok := by
    intro v h s hg
    try dsimp only at hg
    split at hg <;> cases hg
    rfl

def L_delGone (zs : List Pair) : Loops := fun n => match n with
  | 5 => some (LSdelGone zs)
  | _ => none
noncomputable def fs_idxGone : Fs := ⟨[], fun args H => match args, H with
  | [.vec 0, .fn 86 (some 1)], [(false, .vec .pair xs), (true, .box [.int .i64 id])] => some ((some (xs.length ≤ 4611686018427387904)), .int .i64 (firstI (dropP id) xs), [(false, .vec .pair xs), (true, .box [.int .i64 id])])
  | _, _ => none⟩

theorem vc_idxGone (xs : List Pair) (id : Int) (Q : SV → List Ent → Prop) :
    fnVC tt (look [(86, fs_ofBody)]) (L_idxGone) Try.f139 [.vec 0, .fn 86 (some 1)] [(false, .vec .pair xs), (true, .box [.int .i64 id])] Q =
    (Holds (xs = xs ∧ id = id ∧ (↑(List.length xs) : Int) = (↑(List.length xs) : Int) ∧ (0 : Int) ≤ (0 : Int) ∧ (0 : Int) ≤ (↑(List.length xs) : Int) ∧ ∀ (k : Nat), k < Int.toNat (0 : Int) → dropP id (Ty.ix Ty.pair xs k) = false) ∧ ∀ (x : List Pair × Int × Unit × Unit × Int × Int), Holds (Prod.fst x = xs ∧ Prod.fst (Prod.snd x) = id ∧ Prod.fst (Prod.snd (Prod.snd (Prod.snd (Prod.snd x)))) = (↑(List.length xs) : Int) ∧ (0 : Int) ≤ Prod.snd (Prod.snd (Prod.snd (Prod.snd (Prod.snd x)))) ∧ Prod.snd (Prod.snd (Prod.snd (Prod.snd (Prod.snd x)))) ≤ (↑(List.length xs) : Int) ∧ ∀ (k : Nat), k < Int.toNat (Prod.snd (Prod.snd (Prod.snd (Prod.snd (Prod.snd x))))) → dropP id (Ty.ix Ty.pair xs k) = false) → ifB (decide (Prod.snd (Prod.snd (Prod.snd (Prod.snd (Prod.snd x)))) < Prod.fst (Prod.snd (Prod.snd (Prod.snd (Prod.snd x)))))) (((0 : Int) ≤ Prod.snd (Prod.snd (Prod.snd (Prod.snd (Prod.snd x)))) ∧ Prod.snd (Prod.snd (Prod.snd (Prod.snd (Prod.snd x)))) < (↑(List.length (Prod.fst x)) : Int)) ∧ ifB (dropP (Prod.fst (Prod.snd x)) (Ty.ix Ty.pair (Prod.fst x) (Int.toNat (Prod.snd (Prod.snd (Prod.snd (Prod.snd (Prod.snd x)))))))) (Q (SV.int IntKind.i64 (Prod.snd (Prod.snd (Prod.snd (Prod.snd (Prod.snd x)))))) [(false, Blk.vec Ty.pair (Prod.fst x)), (true, Blk.box [SV.int IntKind.i64 (Prod.fst (Prod.snd x))])]) (Holds (Prod.fst x = xs ∧ Prod.fst (Prod.snd x) = id ∧ Prod.fst (Prod.snd (Prod.snd (Prod.snd (Prod.snd x)))) = (↑(List.length xs) : Int) ∧ (0 : Int) ≤ IntKind.wrap IntKind.i64 (Prod.snd (Prod.snd (Prod.snd (Prod.snd (Prod.snd x)))) + (1 : Int)) ∧ IntKind.wrap IntKind.i64 (Prod.snd (Prod.snd (Prod.snd (Prod.snd (Prod.snd x)))) + (1 : Int)) ≤ (↑(List.length xs) : Int) ∧ ∀ (k : Nat), k < Int.toNat (IntKind.wrap IntKind.i64 (Prod.snd (Prod.snd (Prod.snd (Prod.snd (Prod.snd x)))) + (1 : Int))) → dropP id (Ty.ix Ty.pair xs k) = false) ∧ Int.toNat ((↑(List.length (Prod.fst x)) : Int) - IntKind.wrap IntKind.i64 (Prod.snd (Prod.snd (Prod.snd (Prod.snd (Prod.snd x)))) + (1 : Int))) < Int.toNat ((↑(List.length (Prod.fst x)) : Int) - Prod.snd (Prod.snd (Prod.snd (Prod.snd (Prod.snd x))))))) (Q (SV.int IntKind.i64 (-1 : Int)) [(false, Blk.vec Ty.pair (Prod.fst x)), (true, Blk.box [SV.int IntKind.i64 (Prod.fst (Prod.snd x))])])) := by kernel_rfl

theorem ok_idxGone : FsOk Try.prog 139 fs_idxGone := fsOk_of tt_ok (tabFs_cons ok_ofBody tabFs_nil) mixed Try.func139 (by kernel_rfl) (by kernel_rfl) (by
    intro args LL p r HH h hp
    unfold fs_idxGone at h
    dsimp only at h
    split at h
    case h_2 => cases h
    rename_i xs id
    simp only [Option.some.injEq, Prod.mk.injEq] at h
    obtain ⟨rfl, rfl, rfl⟩ := h
    refine ⟨by simp [Form, stays], (L_idxGone), ?_⟩
    rw [vc_idxGone]
    try dsimp only
    have hb := hp _ rfl
    refine ⟨⟨(by trivial), (by trivial), (by trivial), by omega, by omega, fun k hk => absurd hk (by simp)⟩, ?_⟩
    rintro ⟨xs', id', u, f, n, i⟩ ⟨h⟩
    dsimp only at h ⊢
    obtain ⟨rfl, rfl, rfl, h0, h1, h3⟩ := h
    refine ifB_of (fun c => ?_) (fun c => ?_)
    · have hi : i < xs'.length := of_decide_eq_true c
      have e1 : (i + 1).toNat = i.toNat + 1 := by omega
      refine ⟨⟨h0, hi⟩, ifB_of (fun c1 => ?_) (fun c1 => ?_)⟩
      · rw [firstI_at (T := .pair) (p := dropP id') (i := i.toNat) (by omega) c1 h3]
        refine ⟨?_, (by trivial)⟩
        congr 1
        omega
      · simp (disch := omega) only [wrap_small, e1]
        refine ⟨⟨(by trivial), (by trivial), (by trivial), by omega, by omega, fun k hk => ?_⟩, by omega⟩
        by_cases e : k = i.toNat
        · rw [e]; exact c1
        · exact h3 k (by omega)
    · have hi : ¬ i < xs'.length := of_decide_eq_false c
      rw [firstI_no (T := .pair) (p := dropP id') fun k hk => h3 k (by omega)]
      exact ⟨rfl, rfl⟩)

theorem firstI_m1 {α : Type} {p : α → Bool} {xs : List α} : (firstI p xs == -1) = !xs.any p := by
  cases h : xs.any p with
  | true =>
    have : ((xs.findIdx p : Nat) : Int) ≠ -1 := by omega
    simp [firstI, h, this]
  | false => simp [firstI, h]
theorem firstI_spec {T : Ty} {p : T.El → Bool} {xs : List T.El} (h : xs.any p = true) : ∃ i : Nat, firstI p xs = i ∧ i < xs.length ∧ p (T.ix xs i) = true ∧ ∀ k, k < i → p (T.ix xs k) = false := by
  obtain ⟨x, hx, hpx⟩ := List.any_eq_true.1 h
  have hlt : xs.findIdx p < xs.length := List.findIdx_lt_length_of_exists ⟨x, hx, hpx⟩
  refine ⟨xs.findIdx p, by simp [firstI, h], hlt, ?_, fun k hk => ?_⟩
  · have e : T.ix xs (xs.findIdx p) = xs[xs.findIdx p] := ix_eq (T := T) (List.getElem?_eq_getElem hlt)
    rw [e]
    exact List.findIdx_getElem
  · have hk2 : k < xs.length := by omega
    have e : T.ix xs k = xs[k] := ix_eq (T := T) (List.getElem?_eq_getElem hk2)
    rw [e]
    simpa using List.not_of_lt_findIdx hk
theorem take_ix {T : Ty} {xs : List T.El} {j : Nat} (h : j < xs.length) : xs.take (j + 1) = xs.take j ++ [T.ix xs j] := by
  rw [List.take_add_one, ix_get (T := T) h]
  rfl
theorem take_set_same {α : Type} (xs : List α) (i : Nat) (v : α) : (xs.set i v).take i = xs.take i := by
  apply List.ext_getElem?
  intro j
  simp only [List.getElem?_take]
  by_cases h : j < i
  · rw [if_pos h, if_pos h, List.getElem?_set_ne (by omega)]
  · rw [if_neg h, if_neg h]
theorem drop_set_lt {α : Type} (xs : List α) {i m : Nat} (v : α) (h : i < m) : (xs.set i v).drop m = xs.drop m := by
  apply List.ext_getElem?
  intro j
  simp only [List.getElem?_drop]
  rw [List.getElem?_set_ne (by omega)]
theorem ix_drop_eq {T : Ty} {xs ys : List T.El} {j : Nat} (h : ys.drop j = xs.drop j) (hj : j < xs.length) : T.ix ys j = T.ix xs j := by
  have := congrArg (fun l => l[0]?) h
  simp only [List.getElem?_drop, Nat.add_zero] at this
  exact ix_eq (T := T) (by rw [this, ix_get (T := T) hj])
theorem drop_succ_eq {α : Type} {xs ys : List α} {j : Nat} (h : ys.drop j = xs.drop j) : ys.drop (j + 1) = xs.drop (j + 1) := by
  rw [← List.drop_drop, ← List.drop_drop, h]
def keepRaw (id : Int) (xs : List Pair) : List Pair := bif xs.any (dropP id) then xs.filter (keepP id) ++ List.replicate (xs.length - (xs.filter (keepP id)).length) ⟨0, 0⟩ else xs
theorem keep_all {id : Int} {xs : List Pair} (h : xs.any (dropP id) = false) : xs.filter (keepP id) = xs := List.filter_eq_self.2 fun y hy => by simpa [dropP] using List.any_eq_false.1 h y hy
theorem length_keepRaw (id : Int) (xs : List Pair) : (keepRaw id xs).length = xs.length := by
  have := List.length_filter_le (keepP id) xs
  unfold keepRaw
  cases xs.any (dropP id) with
  | true => simp only [cond_true, List.length_append, List.length_replicate]; omega
  | false => rfl
noncomputable def fs_delGone0 : Fs := ⟨[true, false], fun args H => match args, H with
  | [.vec 0, .fn 86 (some 1)], [(true, .vec .pair xs), (true, .box [.int .i64 id])] => some ((some (xs.length ≤ 1048576)), .sl 0 0 (xs.filter (keepP id)).length, [(true, .vec .pair (keepRaw id xs)), (true, .box [.int .i64 id])])
  | _, _ => none⟩

theorem vc_delGone0 (xs : List Pair) (id : Int) (Q : SV → List Ent → Prop) :
    fnVC tt (look [(139, fs_idxGone), (86, fs_ofBody)]) (L_delGone xs) Try.f85 [.vec 0, .fn 86 (some 1)] [(true, .vec .pair xs), (true, .box [.int .i64 id])] Q =
    (List.length xs ≤ (4611686018427387904 : Nat) ∧ ifB (firstI (dropP id) xs == (-1 : Int)) (Q (SV.sl (0 : Nat) (0 : Nat) (List.length xs)) [(true, Blk.vec Ty.pair xs), (true, Blk.box [SV.int IntKind.i64 id])]) (Holds (id = id ∧ (0 : Int) ≤ firstI (dropP id) xs ∧ firstI (dropP id) xs < IntKind.wrap IntKind.i64 (firstI (dropP id) xs + (1 : Int)) ∧ IntKind.wrap IntKind.i64 (firstI (dropP id) xs + (1 : Int)) ≤ (↑(List.length xs) : Int) ∧ List.length xs = List.length xs ∧ List.take (Int.toNat (firstI (dropP id) xs)) xs = List.filter (keepP id) (List.take (Int.toNat (IntKind.wrap IntKind.i64 (firstI (dropP id) xs + (1 : Int)))) xs) ∧ List.drop (Int.toNat (IntKind.wrap IntKind.i64 (firstI (dropP id) xs + (1 : Int)))) xs = List.drop (Int.toNat (IntKind.wrap IntKind.i64 (firstI (dropP id) xs + (1 : Int)))) xs) ∧ ∀ (x : List Pair × Int × Unit × Unit × Int × Int), Holds (Prod.fst (Prod.snd x) = id ∧ (0 : Int) ≤ Prod.fst (Prod.snd (Prod.snd (Prod.snd (Prod.snd x)))) ∧ Prod.fst (Prod.snd (Prod.snd (Prod.snd (Prod.snd x)))) < Prod.snd (Prod.snd (Prod.snd (Prod.snd (Prod.snd x)))) ∧ Prod.snd (Prod.snd (Prod.snd (Prod.snd (Prod.snd x)))) ≤ (↑(List.length xs) : Int) ∧ List.length (Prod.fst x) = List.length xs ∧ List.take (Int.toNat (Prod.fst (Prod.snd (Prod.snd (Prod.snd (Prod.snd x)))))) (Prod.fst x) = List.filter (keepP id) (List.take (Int.toNat (Prod.snd (Prod.snd (Prod.snd (Prod.snd (Prod.snd x)))))) xs) ∧ List.drop (Int.toNat (Prod.snd (Prod.snd (Prod.snd (Prod.snd (Prod.snd x)))))) (Prod.fst x) = List.drop (Int.toNat (Prod.snd (Prod.snd (Prod.snd (Prod.snd (Prod.snd x)))))) xs) → ifB (decide (Prod.snd (Prod.snd (Prod.snd (Prod.snd (Prod.snd x)))) < (↑(List.length (Prod.fst x)) : Int))) (((0 : Int) ≤ Prod.snd (Prod.snd (Prod.snd (Prod.snd (Prod.snd x)))) ∧ Prod.snd (Prod.snd (Prod.snd (Prod.snd (Prod.snd x)))) < (↑(List.length (Prod.fst x)) : Int)) ∧ ifB (!dropP (Prod.fst (Prod.snd x)) (Ty.ix Ty.pair (Prod.fst x) (Int.toNat (Prod.snd (Prod.snd (Prod.snd (Prod.snd (Prod.snd x)))))))) (((0 : Int) ≤ Prod.fst (Prod.snd (Prod.snd (Prod.snd (Prod.snd x)))) ∧ Prod.fst (Prod.snd (Prod.snd (Prod.snd (Prod.snd x)))) < (↑(List.length (Prod.fst x)) : Int)) ∧ Holds (Prod.fst (Prod.snd x) = id ∧ (0 : Int) ≤ IntKind.wrap IntKind.i64 (Prod.fst (Prod.snd (Prod.snd (Prod.snd (Prod.snd x)))) + (1 : Int)) ∧ IntKind.wrap IntKind.i64 (Prod.fst (Prod.snd (Prod.snd (Prod.snd (Prod.snd x)))) + (1 : Int)) < IntKind.wrap IntKind.i64 (Prod.snd (Prod.snd (Prod.snd (Prod.snd (Prod.snd x)))) + (1 : Int)) ∧ IntKind.wrap IntKind.i64 (Prod.snd (Prod.snd (Prod.snd (Prod.snd (Prod.snd x)))) + (1 : Int)) ≤ (↑(List.length xs) : Int) ∧ List.length (List.set (Prod.fst x) (Int.toNat (Prod.fst (Prod.snd (Prod.snd (Prod.snd (Prod.snd x)))))) (Ty.ix Ty.pair (Prod.fst x) (Int.toNat (Prod.snd (Prod.snd (Prod.snd (Prod.snd (Prod.snd x)))))))) = List.length xs ∧ List.take (Int.toNat (IntKind.wrap IntKind.i64 (Prod.fst (Prod.snd (Prod.snd (Prod.snd (Prod.snd x)))) + (1 : Int)))) (List.set (Prod.fst x) (Int.toNat (Prod.fst (Prod.snd (Prod.snd (Prod.snd (Prod.snd x)))))) (Ty.ix Ty.pair (Prod.fst x) (Int.toNat (Prod.snd (Prod.snd (Prod.snd (Prod.snd (Prod.snd x)))))))) = List.filter (keepP id) (List.take (Int.toNat (IntKind.wrap IntKind.i64 (Prod.snd (Prod.snd (Prod.snd (Prod.snd (Prod.snd x)))) + (1 : Int)))) xs) ∧ List.drop (Int.toNat (IntKind.wrap IntKind.i64 (Prod.snd (Prod.snd (Prod.snd (Prod.snd (Prod.snd x)))) + (1 : Int)))) (List.set (Prod.fst x) (Int.toNat (Prod.fst (Prod.snd (Prod.snd (Prod.snd (Prod.snd x)))))) (Ty.ix Ty.pair (Prod.fst x) (Int.toNat (Prod.snd (Prod.snd (Prod.snd (Prod.snd (Prod.snd x)))))))) = List.drop (Int.toNat (IntKind.wrap IntKind.i64 (Prod.snd (Prod.snd (Prod.snd (Prod.snd (Prod.snd x)))) + (1 : Int)))) xs) ∧ Int.toNat ((↑(List.length xs) : Int) - IntKind.wrap IntKind.i64 (Prod.snd (Prod.snd (Prod.snd (Prod.snd (Prod.snd x)))) + (1 : Int))) < Int.toNat ((↑(List.length xs) : Int) - Prod.snd (Prod.snd (Prod.snd (Prod.snd (Prod.snd x)))))) (Holds (Prod.fst (Prod.snd x) = id ∧ (0 : Int) ≤ Prod.fst (Prod.snd (Prod.snd (Prod.snd (Prod.snd x)))) ∧ Prod.fst (Prod.snd (Prod.snd (Prod.snd (Prod.snd x)))) < IntKind.wrap IntKind.i64 (Prod.snd (Prod.snd (Prod.snd (Prod.snd (Prod.snd x)))) + (1 : Int)) ∧ IntKind.wrap IntKind.i64 (Prod.snd (Prod.snd (Prod.snd (Prod.snd (Prod.snd x)))) + (1 : Int)) ≤ (↑(List.length xs) : Int) ∧ List.length (Prod.fst x) = List.length xs ∧ List.take (Int.toNat (Prod.fst (Prod.snd (Prod.snd (Prod.snd (Prod.snd x)))))) (Prod.fst x) = List.filter (keepP id) (List.take (Int.toNat (IntKind.wrap IntKind.i64 (Prod.snd (Prod.snd (Prod.snd (Prod.snd (Prod.snd x)))) + (1 : Int)))) xs) ∧ List.drop (Int.toNat (IntKind.wrap IntKind.i64 (Prod.snd (Prod.snd (Prod.snd (Prod.snd (Prod.snd x)))) + (1 : Int)))) (Prod.fst x) = List.drop (Int.toNat (IntKind.wrap IntKind.i64 (Prod.snd (Prod.snd (Prod.snd (Prod.snd (Prod.snd x)))) + (1 : Int)))) xs) ∧ Int.toNat ((↑(List.length xs) : Int) - IntKind.wrap IntKind.i64 (Prod.snd (Prod.snd (Prod.snd (Prod.snd (Prod.snd x)))) + (1 : Int))) < Int.toNat ((↑(List.length xs) : Int) - Prod.snd (Prod.snd (Prod.snd (Prod.snd (Prod.snd x))))))) (((0 : Int) ≤ Prod.fst (Prod.snd (Prod.snd (Prod.snd (Prod.snd x)))) ∧ Prod.fst (Prod.snd (Prod.snd (Prod.snd (Prod.snd x)))) ≤ (↑(List.length (Prod.fst x)) : Int)) ∧ ((0 : Int) ≤ Prod.fst (Prod.snd (Prod.snd (Prod.snd (Prod.snd x)))) ∧ Prod.fst (Prod.snd (Prod.snd (Prod.snd (Prod.snd x)))) ≤ (↑(List.length (spl (Prod.fst x) (Int.toNat (Prod.fst (Prod.snd (Prod.snd (Prod.snd (Prod.snd x)))))) (List.replicate (List.length (Prod.fst x) - Int.toNat (Prod.fst (Prod.snd (Prod.snd (Prod.snd (Prod.snd x)))))) (Pair.mk (0 : Int) (0 : Int))))) : Int)) ∧ Q (SV.sl (0 : Nat) (0 : Nat) (Int.toNat (Prod.fst (Prod.snd (Prod.snd (Prod.snd (Prod.snd x))))))) [(true, Blk.vec Ty.pair (spl (Prod.fst x) (Int.toNat (Prod.fst (Prod.snd (Prod.snd (Prod.snd (Prod.snd x)))))) (List.replicate (List.length (Prod.fst x) - Int.toNat (Prod.fst (Prod.snd (Prod.snd (Prod.snd (Prod.snd x)))))) (Pair.mk (0 : Int) (0 : Int))))), (true, Blk.box [SV.int IntKind.i64 (Prod.fst (Prod.snd x))])]))) := by kernel_rfl

theorem ok_delGone0 : FsOk Try.prog 85 fs_delGone0 := fsOk_of tt_ok (tabFs_cons ok_idxGone (tabFs_cons ok_ofBody tabFs_nil)) mixed Try.func85 (by kernel_rfl) (by kernel_rfl) (by
    intro args LL p r HH h hp
    unfold fs_delGone0 at h
    dsimp only at h
    split at h
    case h_2 => cases h
    rename_i xs id
    simp only [Option.some.injEq, Prod.mk.injEq] at h
    obtain ⟨rfl, rfl, rfl⟩ := h
    refine ⟨by simp [Form, stays, length_keepRaw], (L_delGone xs), ?_⟩
    rw [vc_delGone0]
    try dsimp only
    have hb := hp _ rfl
    refine ⟨by omega, ?_⟩
    rw [firstI_m1]
    unfold keepRaw
    refine ifB_of (fun c => ?_) (fun c => ?_)
    · have c := not_true c
      rw [c, keep_all c]
      exact ⟨(by trivial), (by trivial)⟩
    have c := not_false c
    obtain ⟨i0, q0, q1, q2, q3⟩ := firstI_spec (T := .pair) c
    rw [c]
    simp only [cond_true]
    rw [q0]
    have w0 : IntKind.i64.wrap ((i0 : Int) + 1) = (i0 : Int) + 1 := wrap_small (by omega) (by omega)
    rw [w0]
    have hini : xs.take i0 = (xs.take (i0 + 1)).filter (keepP id) := by
      rw [take_ix (T := .pair) q1, List.filter_append]
      have e1 : List.filter (keepP id) [Ty.ix .pair xs i0] = [] := by
        have : keepP id (Ty.ix .pair xs i0) = false := by simpa [dropP] using q2
        simp [this]
      have e2 : List.filter (keepP id) (xs.take i0) = xs.take i0 := by
        refine List.filter_eq_self.2 fun y hy => ?_
        obtain ⟨k, hk, e⟩ := List.getElem_of_mem hy
        simp only [List.length_take] at hk
        have hk2 : k < xs.length := by omega
        have e3 : Ty.ix .pair xs k = y := ix_eq (T := .pair) (by rw [← e, List.getElem_take]; exact List.getElem?_eq_getElem hk2)
        have := q3 k (by omega)
        rw [e3] at this
        simpa [dropP] using this
      rw [e1, e2, List.append_nil]
    have hs0 : (xs.filter (keepP id)).length ≤ xs.length := List.length_filter_le _ _
    refine ⟨⟨(by trivial), by omega, by omega, by omega, (by trivial), ?_, (by trivial)⟩, ?_⟩
    · rw [show ((i0 : Nat) : Int).toNat = i0 by omega, show (((i0 : Nat) : Int) + 1).toNat = i0 + 1 by omega]
      exact hini
    clear hini
    rintro ⟨ys, id', u, f, i, j⟩ ⟨h⟩
    dsimp only at h ⊢
    obtain ⟨rfl, g0, g1, g2, g3, g4, g5⟩ := h
    refine ifB_of (fun c1 => ?_) (fun c1 => ?_)
    · have c1 := of_decide_eq_true c1
      have w1 : IntKind.i64.wrap (j + 1) = j + 1 := wrap_small (by omega) (by omega)
      have w2 : IntKind.i64.wrap (i + 1) = i + 1 := wrap_small (by omega) (by omega)
      have ej : (j + 1).toNat = j.toNat + 1 := by omega
      have ei : (i + 1).toNat = i.toNat + 1 := by omega
      have hx : Ty.ix .pair ys j.toNat = Ty.ix .pair xs j.toNat := ix_drop_eq (T := .pair) g5 (by omega)
      have g6 := drop_succ_eq g5
      rw [w1, w2, ej, ei, hx]
      refine ⟨⟨by omega, by omega⟩, ifB_of (fun c2 => ⟨⟨by omega, by omega⟩, ⟨(by trivial), by omega, by omega, by omega, by rw [List.length_set]; exact g3, ?_, ?_⟩, by omega⟩) (fun c2 => ⟨⟨(by trivial), by omega, by omega, by omega, g3, ?_, g6⟩, by omega⟩)⟩
      · have c2 : keepP id' (Ty.ix .pair xs j.toNat) = true := by simpa [dropP] using c2
        rw [take_ix (T := .pair) (xs := ys.set i.toNat (Ty.ix .pair xs j.toNat)) (by rw [List.length_set]; omega), take_set_same, ix_set_self (T := .pair) (by omega), g4, take_ix (T := .pair) (xs := xs) (show j.toNat < xs.length by omega), List.filter_append]
        simp [c2]
      · rw [drop_set_lt _ _ (by omega)]
        exact g6
      · have c2 : keepP id' (Ty.ix .pair xs j.toNat) = false := by simpa [dropP] using c2
        rw [take_ix (T := .pair) (xs := xs) (show j.toNat < xs.length by omega), List.filter_append, g4]
        simp [c2]
    · have c1 := of_decide_eq_false c1
      have ej : j.toNat = xs.length := by omega
      rw [ej, List.take_length] at g4
      have gl := congrArg List.length g4
      rw [List.length_take] at gl
      have ei : i.toNat = (xs.filter (keepP id')).length := by omega
      refine ⟨⟨g0, by omega⟩, ⟨g0, ?_⟩, ?_, ?_⟩
      · rw [length_spl (by simp; omega)]
        omega
      · rw [ei]
      · unfold spl
        rw [g4, List.drop_eq_nil_of_le (by simp; omega), List.append_nil, g3, ei])

def fs_delGone : Fs := ⟨[true, false], fun args H => match args, H with
  | [.vec 0, .fn 86 (some 1)], [(true, .vec .pair xs), (true, .box [.int .i64 id])] => some (some (xs.length ≤ 1048576), .vec 2, [(true, .dead), (true, .box [.int .i64 id]), (true, .vec .pair ((keepRaw id xs).take (xs.filter (keepP id)).length))])
  | _, _ => none⟩
theorem ok_delGone : FsOk Try.prog 85 fs_delGone := by
  refine fsOk_retake ok_delGone0 ?_
  intro args L p r L' h
  unfold fs_delGone at h
  dsimp only at h
  split at h
  case h_2 => cases h
  rename_i xs id
  simp only [Option.some.injEq, Prod.mk.injEq] at h
  obtain ⟨rfl, rfl, rfl⟩ := h
  exact ⟨.pair, keepRaw id xs, [(true, .box [.int .i64 id])], (xs.filter (keepP id)).length, rfl, rfl, rfl⟩
theorem keepRaw_take (id : Int) (xs : List Pair) : (keepRaw id xs).take (xs.filter (keepP id)).length = xs.filter (keepP id) := by
  unfold keepRaw
  cases q : xs.any (dropP id) with
  | true => exact List.take_left' rfl
  | false =>
    have e : xs.filter (keepP id) = xs := List.filter_eq_self.2 fun y hy => by simpa [dropP] using List.any_eq_false.1 q y hy
    rw [e]
    exact List.take_length
/-! ### Woken -/
noncomputable def wake (b y : Body) : Body := bif (touchB b y).2 && y.Quiet == 8 then { y with Quiet := 0 } else y
noncomputable def wokeAt (xs : List Body) (k e : Nat) : Body := bif e == k then Ty.ix .body xs e else wake (Ty.ix .body xs k) (Ty.ix .body xs e)
theorem ix_fill {T : Ty} (f : Nat → T.El) (xs : List T.El) {i : Nat} (h : i < xs.length) : T.ix (fill f xs i) i = T.ix xs i := by
  apply ix_eq
  unfold fill
  rw [List.getElem?_append_right (by simp)]
  simp [ix_get (T := T) h]
theorem quiet_ok {xs : List Body} (h : bodiesOk xs = true) {k : Nat} (hk : k < xs.length) : decide ((Ty.ix .body xs k).Quiet ≥ 8) = ((Ty.ix .body xs k).Quiet == 8) := by
  have h1 := bodiesOk_each h hk
  simp only [bodyOk, isIn, Bool.and_eq_true, decide_eq_true_eq] at h1
  rw [Bool.eq_iff_iff, decide_eq_true_eq, beq_iff_eq]
  omega
theorem take_gen_map {f : Nat → Body} {g : Body → Body} {xs : List Body} {k : Nat} (h : ∀ e, e < k → e < xs.length → f e = g (Ty.ix .body xs e)) : (gen f xs.length).take k = (xs.take k).map g := by
  apply List.ext_getElem?
  intro j
  simp only [gen, List.getElem?_take, List.getElem?_map]
  by_cases hj : j < k
  · simp only [if_pos hj]
    by_cases hl : j < xs.length
    · rw [List.getElem?_range hl, ix_get (T := .body) hl]
      simp [h j hj hl]
    · rw [List.getElem?_eq_none (l := List.range _) (by simpa using hl), List.getElem?_eq_none (l := xs) (by omega)]
      rfl
  · simp only [if_neg hj]
    rfl
theorem drop_gen_map {f : Nat → Body} {g : Body → Body} {xs : List Body} {m : Nat} (h : ∀ e, m ≤ e → e < xs.length → f e = g (Ty.ix .body xs e)) : (gen f xs.length).drop m = (xs.drop m).map g := by
  apply List.ext_getElem?
  intro j
  simp only [gen, List.getElem?_drop, List.getElem?_map]
  by_cases hl : m + j < xs.length
  · rw [List.getElem?_range hl, ix_get (T := .body) hl]
    simp [h (m + j) (by omega) hl]
  · rw [List.getElem?_eq_none (l := List.range _) (by simpa using hl), List.getElem?_eq_none (l := xs) (by omega)]
    rfl
theorem gen_map (g : Body → Body) (xs : List Body) : gen (fun e => g (Ty.ix .body xs e)) xs.length = xs.map g := by
  have := drop_gen_map (f := fun e => g (Ty.ix .body xs e)) (g := g) (xs := xs) (m := 0) fun _ _ _ => rfl
  simpa using this
theorem del_woken {xs : List Body} {k : Nat} (h : k < xs.length) : delB (gen (wokeAt xs k) xs.length) k = (delB xs k).map (wake (Ty.ix .body xs k)) := by
  unfold delB
  rw [List.map_append, take_gen_map (g := wake (Ty.ix .body xs k)) fun e he _ => ?_, drop_gen_map (g := wake (Ty.ix .body xs k)) fun e he _ => ?_]
  · have : (e == k) = false := beq_eq_false_iff_ne.2 (by omega)
    simp only [wokeAt, this, cond_false]
  · have : (e == k) = false := beq_eq_false_iff_ne.2 (by omega)
    simp only [wokeAt, this, cond_false]
def LSwoken  : LS where
  S := List Body × Unit × Int × List Body × Int
  live := [(0, [none]), (1, [none]), (5, [some .body]), (6, [none])]
  shape := fun s => ([.vec 0, .int .i64 s.2.2.1, .vec 1, .int .i64 s.2.2.2.2], [(false, .vec .body s.1), (true, .vec .body s.2.2.2.1)])
  get := fun v h => match v, h with
    | [.vec 0, .int .i64 k, .vec 1, .int .i64 j], [(false, .vec .body xs), (true, .vec .body ys)] => some (xs, (), k, ys, j)
    | _, _ => none
  inv := fun s0 s => Holds (s.1 = s0.1 ∧ s.2.2.1 = s0.2.2.1 ∧ 0 ≤ s.2.2.2.2 ∧ s.2.2.2.2 ≤ s0.1.length ∧ s.2.2.2.1 = fill (wokeAt s0.1 s0.2.2.1.toNat) s0.1 s.2.2.2.2.toNat)
  mu := fun s => ((s.1.length : Int) - s.2.2.2.2).toNat
  ok := by
    intro v h s hg
    try dsimp only at hg
    split at hg <;> cases hg
    rfl

def L_woken : Loops := fun n => match n with
  | 3 => some LSwoken
  | _ => none
noncomputable def fs_specWoken : Fs := ⟨[], fun args H => match args, H with
  | [.vec 0, .int .i64 k], [(false, .vec .body xs)] => some ((some (bodiesOk xs = true ∧ 0 ≤ k ∧ k < xs.length)), .vec 1, [(false, .vec .body xs), (true, .vec .body (gen (wokeAt xs k.toNat) xs.length))])
  | _, _ => none⟩

theorem vc_specWoken (xs : List Body) (k : Int) (Q : SV → List Ent → Prop) :
    fnVC tt (look [(99, fs_specCopyB), (137, fs_l5Touch), (138, fs_l6Sleeps)]) (L_woken) Try.f83 [.vec 0, .int .i64 k] [(false, .vec .body xs)] Q =
    (List.length xs ≤ (1048576 : Nat) ∧ Holds (xs = xs ∧ k = k ∧ (0 : Int) ≤ (0 : Int) ∧ (0 : Int) ≤ (↑(List.length xs) : Int) ∧ xs = fill (wokeAt xs (Int.toNat k)) xs (Int.toNat (0 : Int))) ∧ ∀ (x : List Body × Unit × Int × List Body × Int), Holds (Prod.fst x = xs ∧ Prod.fst (Prod.snd (Prod.snd x)) = k ∧ (0 : Int) ≤ Prod.snd (Prod.snd (Prod.snd (Prod.snd x))) ∧ Prod.snd (Prod.snd (Prod.snd (Prod.snd x))) ≤ (↑(List.length xs) : Int) ∧ Prod.fst (Prod.snd (Prod.snd (Prod.snd x))) = fill (wokeAt xs (Int.toNat k)) xs (Int.toNat (Prod.snd (Prod.snd (Prod.snd (Prod.snd x)))))) → ifB (decide (Prod.snd (Prod.snd (Prod.snd (Prod.snd x))) < (↑(List.length (Prod.fst (Prod.snd (Prod.snd (Prod.snd x))))) : Int))) (((0 : Int) ≤ Prod.fst (Prod.snd (Prod.snd x)) ∧ Prod.fst (Prod.snd (Prod.snd x)) < (↑(List.length (Prod.fst x)) : Int)) ∧ ((0 : Int) ≤ Prod.fst (Prod.snd (Prod.snd x)) ∧ Prod.fst (Prod.snd (Prod.snd x)) < (↑(List.length (Prod.fst x)) : Int)) ∧ ((0 : Int) ≤ Prod.snd (Prod.snd (Prod.snd (Prod.snd x))) ∧ Prod.snd (Prod.snd (Prod.snd (Prod.snd x))) < (↑(List.length (Prod.fst x)) : Int)) ∧ ((0 : Int) ≤ Prod.snd (Prod.snd (Prod.snd (Prod.snd x))) ∧ Prod.snd (Prod.snd (Prod.snd (Prod.snd x))) < (↑(List.length (Prod.fst x)) : Int)) ∧ (shapeOk (Body.Shape (Ty.ix Ty.body (Prod.fst x) (Int.toNat (Prod.fst (Prod.snd (Prod.snd x)))))) = true ∧ placeOk (Body.At (Ty.ix Ty.body (Prod.fst x) (Int.toNat (Prod.fst (Prod.snd (Prod.snd x)))))) = true ∧ shapeOk (Body.Shape (Ty.ix Ty.body (Prod.fst x) (Int.toNat (Prod.snd (Prod.snd (Prod.snd (Prod.snd x))))))) = true ∧ placeOk (Body.At (Ty.ix Ty.body (Prod.fst x) (Int.toNat (Prod.snd (Prod.snd (Prod.snd (Prod.snd x))))))) = true) ∧ ifB (Prod.snd (Prod.snd (Prod.snd (Prod.snd x))) != Prod.fst (Prod.snd (Prod.snd x))) (ifB (Prod.snd (touchF (Body.Shape (Ty.ix Ty.body (Prod.fst x) (Int.toNat (Prod.fst (Prod.snd (Prod.snd x)))))) (Body.At (Ty.ix Ty.body (Prod.fst x) (Int.toNat (Prod.fst (Prod.snd (Prod.snd x)))))) (Body.Shape (Ty.ix Ty.body (Prod.fst x) (Int.toNat (Prod.snd (Prod.snd (Prod.snd (Prod.snd x))))))) (Body.At (Ty.ix Ty.body (Prod.fst x) (Int.toNat (Prod.snd (Prod.snd (Prod.snd (Prod.snd x))))))))) (((0 : Int) ≤ Prod.snd (Prod.snd (Prod.snd (Prod.snd x))) ∧ Prod.snd (Prod.snd (Prod.snd (Prod.snd x))) < (↑(List.length (Prod.fst (Prod.snd (Prod.snd (Prod.snd x))))) : Int)) ∧ ifB (decide (Body.Quiet (Ty.ix Ty.body (Prod.fst (Prod.snd (Prod.snd (Prod.snd x)))) (Int.toNat (Prod.snd (Prod.snd (Prod.snd (Prod.snd x)))))) ≥ (8 : Int))) (((0 : Int) ≤ Prod.snd (Prod.snd (Prod.snd (Prod.snd x))) ∧ Prod.snd (Prod.snd (Prod.snd (Prod.snd x))) < (↑(List.length (Prod.fst (Prod.snd (Prod.snd (Prod.snd x))))) : Int)) ∧ Holds (Prod.fst x = xs ∧ Prod.fst (Prod.snd (Prod.snd x)) = k ∧ (0 : Int) ≤ IntKind.wrap IntKind.i64 (Prod.snd (Prod.snd (Prod.snd (Prod.snd x))) + (1 : Int)) ∧ IntKind.wrap IntKind.i64 (Prod.snd (Prod.snd (Prod.snd (Prod.snd x))) + (1 : Int)) ≤ (↑(List.length xs) : Int) ∧ setC Ty.body (Prod.fst (Prod.snd (Prod.snd (Prod.snd x)))) (Int.toNat (Prod.snd (Prod.snd (Prod.snd (Prod.snd x))))) ((0 : Nat) + (11 : Nat)) [SV.int IntKind.i64 (0 : Int)] = fill (wokeAt xs (Int.toNat k)) xs (Int.toNat (IntKind.wrap IntKind.i64 (Prod.snd (Prod.snd (Prod.snd (Prod.snd x))) + (1 : Int))))) ∧ Int.toNat ((↑(List.length (Prod.fst x)) : Int) - IntKind.wrap IntKind.i64 (Prod.snd (Prod.snd (Prod.snd (Prod.snd x))) + (1 : Int))) < Int.toNat ((↑(List.length (Prod.fst x)) : Int) - Prod.snd (Prod.snd (Prod.snd (Prod.snd x))))) (Holds (Prod.fst x = xs ∧ Prod.fst (Prod.snd (Prod.snd x)) = k ∧ (0 : Int) ≤ IntKind.wrap IntKind.i64 (Prod.snd (Prod.snd (Prod.snd (Prod.snd x))) + (1 : Int)) ∧ IntKind.wrap IntKind.i64 (Prod.snd (Prod.snd (Prod.snd (Prod.snd x))) + (1 : Int)) ≤ (↑(List.length xs) : Int) ∧ Prod.fst (Prod.snd (Prod.snd (Prod.snd x))) = fill (wokeAt xs (Int.toNat k)) xs (Int.toNat (IntKind.wrap IntKind.i64 (Prod.snd (Prod.snd (Prod.snd (Prod.snd x))) + (1 : Int))))) ∧ Int.toNat ((↑(List.length (Prod.fst x)) : Int) - IntKind.wrap IntKind.i64 (Prod.snd (Prod.snd (Prod.snd (Prod.snd x))) + (1 : Int))) < Int.toNat ((↑(List.length (Prod.fst x)) : Int) - Prod.snd (Prod.snd (Prod.snd (Prod.snd x)))))) (Holds (Prod.fst x = xs ∧ Prod.fst (Prod.snd (Prod.snd x)) = k ∧ (0 : Int) ≤ IntKind.wrap IntKind.i64 (Prod.snd (Prod.snd (Prod.snd (Prod.snd x))) + (1 : Int)) ∧ IntKind.wrap IntKind.i64 (Prod.snd (Prod.snd (Prod.snd (Prod.snd x))) + (1 : Int)) ≤ (↑(List.length xs) : Int) ∧ Prod.fst (Prod.snd (Prod.snd (Prod.snd x))) = fill (wokeAt xs (Int.toNat k)) xs (Int.toNat (IntKind.wrap IntKind.i64 (Prod.snd (Prod.snd (Prod.snd (Prod.snd x))) + (1 : Int))))) ∧ Int.toNat ((↑(List.length (Prod.fst x)) : Int) - IntKind.wrap IntKind.i64 (Prod.snd (Prod.snd (Prod.snd (Prod.snd x))) + (1 : Int))) < Int.toNat ((↑(List.length (Prod.fst x)) : Int) - Prod.snd (Prod.snd (Prod.snd (Prod.snd x)))))) (Holds (Prod.fst x = xs ∧ Prod.fst (Prod.snd (Prod.snd x)) = k ∧ (0 : Int) ≤ IntKind.wrap IntKind.i64 (Prod.snd (Prod.snd (Prod.snd (Prod.snd x))) + (1 : Int)) ∧ IntKind.wrap IntKind.i64 (Prod.snd (Prod.snd (Prod.snd (Prod.snd x))) + (1 : Int)) ≤ (↑(List.length xs) : Int) ∧ Prod.fst (Prod.snd (Prod.snd (Prod.snd x))) = fill (wokeAt xs (Int.toNat k)) xs (Int.toNat (IntKind.wrap IntKind.i64 (Prod.snd (Prod.snd (Prod.snd (Prod.snd x))) + (1 : Int))))) ∧ Int.toNat ((↑(List.length (Prod.fst x)) : Int) - IntKind.wrap IntKind.i64 (Prod.snd (Prod.snd (Prod.snd (Prod.snd x))) + (1 : Int))) < Int.toNat ((↑(List.length (Prod.fst x)) : Int) - Prod.snd (Prod.snd (Prod.snd (Prod.snd x)))))) (Q (SV.vec (1 : Nat)) [(false, Blk.vec Ty.body (Prod.fst x)), (true, Blk.vec Ty.body (Prod.fst (Prod.snd (Prod.snd (Prod.snd x)))))])) := by kernel_rfl

theorem ok_specWoken : FsOk Try.prog 83 fs_specWoken := fsOk_of tt_ok (tabFs_cons ok_specCopyB (tabFs_cons ok_l5Touch (tabFs_cons ok_l6Sleeps tabFs_nil))) mixed Try.func83 (by kernel_rfl) (by kernel_rfl) (by
    intro args LL p r HH h hp
    unfold fs_specWoken at h
    dsimp only at h
    split at h
    case h_2 => cases h
    rename_i k xs
    simp only [Option.some.injEq, Prod.mk.injEq] at h
    obtain ⟨rfl, rfl, rfl⟩ := h
    refine ⟨by simp [Form, stays], (L_woken), ?_⟩
    rw [vc_specWoken]
    try dsimp only
    obtain ⟨hok, k0, k1⟩ := hp _ rfl
    have hl := bodiesOk_len hok
    refine ⟨by omega, ⟨(by trivial), (by trivial), by omega, by omega, (fill_zero _ _).symm⟩, ?_⟩
    rintro ⟨xs', u, k', ys, j⟩ ⟨h⟩
    dsimp only at h ⊢
    obtain ⟨rfl, rfl, j0, j1, h2⟩ := h
    have hf : ys.length = xs'.length := by rw [h2]; exact length_fill _ _ (by omega)
    rw [hf]
    refine ifB_of (fun c1 => ?_) (fun c1 => ?_)
    · have c1 := of_decide_eq_true c1
      have e1 : (j + 1).toNat = j.toNat + 1 := by omega
      have w : IntKind.i64.wrap (j + 1) = j + 1 := wrap_small (by omega) (by omega)
      have ht := touch_ok hok (i := k'.toNat) (k := j.toNat) (by omega) (by omega)
      have hq := quiet_ok hok (k := j.toNat) (by omega)
      have hy : Ty.ix .body ys j.toNat = Ty.ix .body xs' j.toNat := by rw [h2]; exact ix_fill (T := .body) _ _ (by omega)
      have hstep := fill_step (wokeAt xs' k'.toNat) xs' (i := j.toNat) (by omega)
      rw [← h2] at hstep
      have stay : wokeAt xs' k'.toNat j.toNat = Ty.ix .body xs' j.toNat → ys = fill (wokeAt xs' k'.toNat) xs' (j.toNat + 1) := by
        intro q
        rw [← hstep, q, ← hy]
        exact (set_ix (T := .body) ys (by omega)).symm
      rw [w, e1, ← ht.1, hy, hq]
      refine ⟨⟨k0, k1⟩, ⟨k0, k1⟩, ⟨j0, c1⟩, ⟨j0, c1⟩, ht.2, ifB_of (fun d1 => ifB_of (fun d2 => ⟨⟨j0, c1⟩, ifB_of (fun d3 => ⟨⟨j0, c1⟩, ⟨(by trivial), (by trivial), by omega, by omega, ?_⟩, by omega⟩) (fun d3 => ⟨⟨(by trivial), (by trivial), by omega, by omega, stay ?_⟩, by omega⟩)⟩) (fun d2 => ⟨⟨(by trivial), (by trivial), by omega, by omega, stay ?_⟩, by omega⟩)) (fun d1 => ⟨⟨(by trivial), (by trivial), by omega, by omega, stay ?_⟩, by omega⟩)⟩
      · have e0 : (j.toNat == k'.toNat) = false := by
          simp only [bne_iff_ne] at d1
          exact beq_eq_false_iff_ne.2 (by omega)
        rw [setC_quiet, ← hstep, hy]
        unfold wokeAt wake
        rw [e0, d2, d3]
        rfl
      · have e0 : (j.toNat == k'.toNat) = false := by
          simp only [bne_iff_ne] at d1
          exact beq_eq_false_iff_ne.2 (by omega)
        unfold wokeAt wake
        rw [e0, d2, d3]
        rfl
      · have e0 : (j.toNat == k'.toNat) = false := by
          simp only [bne_iff_ne] at d1
          exact beq_eq_false_iff_ne.2 (by omega)
        unfold wokeAt wake
        rw [e0, d2]
        rfl
      · have e0 : (j.toNat == k'.toNat) = true := by
          simp only [bne_eq_false_iff_eq] at d1
          rw [d1]
          exact beq_self_eq_true _
        unfold wokeAt
        rw [e0]
        rfl
    · have c1 := of_decide_eq_false c1
      rw [h2, fill_end _ _ (by omega)]
      exact ⟨rfl, rfl⟩)

/-! ### Gone -/
def goneCode (ok : Bool) (xs : List Body) (id : Int) : Int := bif ok then bif hasB xs id then 0 else 4 else 1
noncomputable def goneBodies (xs : List Body) (id : Int) : List Body := bif hasB xs id then (delB xs (atB xs id)).map (wake (Ty.ix .body xs (atB xs id))) else xs
def gonePairs (xs : List Body) (ps : List Pair) (id : Int) : List Pair := bif hasB xs id then ps.filter (keepP id) else ps
theorem gone_bodies {xs : List Body} {id : Int} (h : hasB xs id = true) : (gen (wokeAt xs (atB xs id)) xs.length).take (atB xs id) ++ (gen (wokeAt xs (atB xs id)) xs.length).drop (atB xs id + 1) = goneBodies xs id := by
  have := del_woken (hasB_lt h)
  unfold delB at this
  rw [this]
  unfold goneBodies
  rw [h]
  rfl
theorem filterP_drop {ps : List Pair} {i : Nat} {p : Pair → Bool} (h : i < ps.length) : (ps.drop i).filter p = (bif p (Ty.ix .pair ps i) then [Ty.ix .pair ps i] else []) ++ (ps.drop (i + 1)).filter p := by
  rw [drop_ix (T := .pair) h, List.filter_cons]
  cases p (Ty.ix .pair ps i) <;> simp
def LSsgone  : LS where
  S := List Body × List Pair × Int × (Int × Int) × (Int × Int) × (Int × Int × List Body × List Pair) × Int
  live := [(1, [none]), (2, [none]), (4, [none]), (8, [none]), (10, [none])]
  shape := fun s => ([.int .i64 s.2.2.1, .ptr 2 0 0, .ptr 3 0 0, .ptr 6 0 0, .int .i64 s.2.2.2.2.2.2], [(false, .vec .body s.1), (false, .vec .pair s.2.1), (true, .box [.int .i64 s.2.2.2.1.1, .int .i64 s.2.2.2.1.2, .vec 0, .vec 1]), (true, .box [.int .i64 s.2.2.2.2.1.1, .int .i64 s.2.2.2.2.1.2, .nilsl, .nilsl]), (true, .vec .body s.2.2.2.2.2.1.2.2.1), (true, .vec .pair s.2.2.2.2.2.1.2.2.2), (true, .box [.int .i64 s.2.2.2.2.2.1.1, .int .i64 s.2.2.2.2.2.1.2.1, .vec 4, .vec 5])])
  get := fun v h => match v, h with
    | [.int .i64 id, .ptr 2 0 0, .ptr 3 0 0, .ptr 6 0 0, .int .i64 i], [(false, .vec .body xs), (false, .vec .pair ps), (true, .box [.int .i64 w_0, .int .i64 w_1, .vec 0, .vec 1]), (true, .box [.int .i64 r_0, .int .i64 r_1, .nilsl, .nilsl]), (true, .vec .body v_2), (true, .vec .pair v_3), (true, .box [.int .i64 v_0, .int .i64 v_1, .vec 4, .vec 5])] => some (xs, ps, id, (w_0, w_1), (r_0, r_1), (v_0, v_1, v_2, v_3), i)
    | _, _ => none
  inv := fun s0 s => Holds (s.1 = s0.1 ∧ s.2.1 = s0.2.1 ∧ s.2.2.1 = s0.2.2.1 ∧ s.2.2.2.1 = s0.2.2.2.1 ∧ s.2.2.2.2.1 = s0.2.2.2.2.1 ∧ 0 ≤ s.2.2.2.2.2.2 ∧ s.2.2.2.2.2.2 ≤ s0.2.1.length ∧ s.2.2.2.2.2.1.1 = s0.2.2.2.2.2.1.1 ∧ s.2.2.2.2.2.1.2.1 = s0.2.2.2.2.2.1.2.1 ∧ s.2.2.2.2.2.1.2.2.1 = s0.2.2.2.2.2.1.2.2.1 ∧ s.2.2.2.2.2.1.2.2.2 ++ (s0.2.1.drop s.2.2.2.2.2.2.toNat).filter (keepP s0.2.2.1) = s0.2.1.filter (keepP s0.2.2.1))
  mu := fun s => ((s.2.1.length : Int) - s.2.2.2.2.2.2).toNat
  ok := by
    intro v h s hg
    try dsimp only at hg
    split at hg <;> cases hg
    rfl

def L_sgone : Loops := fun n => match n with
  | 11 => some LSsgone
  | _ => none
noncomputable def fs_specWorldGone : Fs := ⟨[], fun args H => match args, H with
  | [.agg [.int .i64 t, .int .i64 p, .vec 0, .vec 1], .int .i64 id], [(false, .vec .body xs), (false, .vec .pair ps)] => some ((some (xs.length ≤ 1048576 ∧ ps.length ≤ 1048576)), .tup [.agg [.int .i64 (orI (worldOk t p xs ps) t), .int .i64 (orI (worldOk t p xs ps) p), .vec 2, .vec 3], .int .i64 (goneCode (worldOk t p xs ps) xs id)], [(false, .vec .body xs), (false, .vec .pair ps), (true, .vec .body (orL (worldOk t p xs ps) (goneBodies xs id))), (true, .vec .pair (orL (worldOk t p xs ps) (gonePairs xs ps id)))])
  | _, _ => none⟩

theorem vc_specWorldGone (t : Int) (p : Int) (xs : List Body) (ps : List Pair) (id : Int) (Q : SV → List Ent → Prop) :
    fnVC tt (look [(61, fs_specWorldOk), (66, fs_l10At), (68, fs_specCopyW), (83, fs_specWoken)]) (L_sgone) Try.f43 [.agg [.int .i64 t, .int .i64 p, .vec 0, .vec 1], .int .i64 id] [(false, .vec .body xs), (false, .vec .pair ps)] Q =
    (let A3_ := (Int.toNat (↑(atB xs id) : Int)); let A2_ := (IntKind.wrap IntKind.i64 ((↑(atB xs id) : Int) + (1 : Int))); let A1_ := (gen (wokeAt xs A3_) (List.length xs)); let A4_ := (List.length A1_ - Int.toNat A2_); (List.length xs ≤ (1048576 : Nat) ∧ List.length ps ≤ (1048576 : Nat)) ∧ ifB (!worldOk t p xs ps) (Q (SV.tup [SV.agg [SV.int IntKind.i64 (0 : Int), SV.int IntKind.i64 (0 : Int), SV.vec (2 : Nat), SV.vec (3 : Nat)], SV.int IntKind.i64 (1 : Int)]) [(false, Blk.vec Ty.body xs), (false, Blk.vec Ty.pair ps), (true, Blk.vec Ty.body []), (true, Blk.vec Ty.pair [])]) (List.length xs ≤ (4611686018427387904 : Nat) ∧ ifB (!hasB xs id) ((List.length xs ≤ (1048576 : Nat) ∧ List.length ps ≤ (1048576 : Nat)) ∧ Q (SV.tup [SV.agg [SV.int IntKind.i64 t, SV.int IntKind.i64 p, SV.vec (2 : Nat), SV.vec (3 : Nat)], SV.int IntKind.i64 (4 : Int)]) [(false, Blk.vec Ty.body xs), (false, Blk.vec Ty.pair ps), (true, Blk.vec Ty.body xs), (true, Blk.vec Ty.pair ps)]) ((List.length xs ≤ (1048576 : Nat) ∧ List.length ps ≤ (1048576 : Nat)) ∧ (bodiesOk xs = true ∧ (0 : Int) ≤ (↑(atB xs id) : Int) ∧ (↑(atB xs id) : Int) < (↑(List.length xs) : Int)) ∧ ((0 : Int) ≤ (↑(atB xs id) : Int) ∧ (↑(atB xs id) : Int) ≤ (↑(List.length A1_) : Int)) ∧ ((0 : Nat) + List.length (List.take A3_ (List.drop (0 : Nat) A1_))) * (96 : Nat) ≤ room ∧ ((0 : Int) ≤ IntKind.wrap IntKind.i64 ((↑(atB xs id) : Int) + (1 : Int)) ∧ IntKind.wrap IntKind.i64 ((↑(atB xs id) : Int) + (1 : Int)) ≤ (↑(List.length A1_) : Int)) ∧ (List.length ([] ++ List.take A3_ (List.drop (0 : Nat) A1_)) + List.length (List.take A4_ (List.drop (Int.toNat A2_) A1_))) * (96 : Nat) ≤ room ∧ Holds (xs = xs ∧ ps = ps ∧ id = id ∧ (t, p) = (t, p) ∧ ((0 : Int), (0 : Int)) = ((0 : Int), (0 : Int)) ∧ (0 : Int) ≤ (0 : Int) ∧ (0 : Int) ≤ (↑(List.length ps) : Int) ∧ t = t ∧ p = p ∧ [] ++ List.take A3_ (List.drop (0 : Nat) A1_) ++ List.take A4_ (List.drop (Int.toNat A2_) A1_) = [] ++ List.take A3_ (List.drop (0 : Nat) A1_) ++ List.take A4_ (List.drop (Int.toNat A2_) A1_) ∧ [] ++ List.filter (keepP id) (List.drop (Int.toNat (0 : Int)) ps) = List.filter (keepP id) ps) ∧ ∀ (x : List Body × List Pair × Int × (Int × Int) × (Int × Int) × (Int × Int × List Body × List Pair) × Int), Holds (Prod.fst x = xs ∧ Prod.fst (Prod.snd x) = ps ∧ Prod.fst (Prod.snd (Prod.snd x)) = id ∧ Prod.fst (Prod.snd (Prod.snd (Prod.snd x))) = (t, p) ∧ Prod.fst (Prod.snd (Prod.snd (Prod.snd (Prod.snd x)))) = ((0 : Int), (0 : Int)) ∧ (0 : Int) ≤ Prod.snd (Prod.snd (Prod.snd (Prod.snd (Prod.snd (Prod.snd x))))) ∧ Prod.snd (Prod.snd (Prod.snd (Prod.snd (Prod.snd (Prod.snd x))))) ≤ (↑(List.length ps) : Int) ∧ Prod.fst (Prod.fst (Prod.snd (Prod.snd (Prod.snd (Prod.snd (Prod.snd x)))))) = t ∧ Prod.fst (Prod.snd (Prod.fst (Prod.snd (Prod.snd (Prod.snd (Prod.snd (Prod.snd x))))))) = p ∧ Prod.fst (Prod.snd (Prod.snd (Prod.fst (Prod.snd (Prod.snd (Prod.snd (Prod.snd (Prod.snd x)))))))) = [] ++ List.take A3_ (List.drop (0 : Nat) A1_) ++ List.take A4_ (List.drop (Int.toNat A2_) A1_) ∧ Prod.snd (Prod.snd (Prod.snd (Prod.fst (Prod.snd (Prod.snd (Prod.snd (Prod.snd (Prod.snd x)))))))) ++ List.filter (keepP id) (List.drop (Int.toNat (Prod.snd (Prod.snd (Prod.snd (Prod.snd (Prod.snd (Prod.snd x))))))) ps) = List.filter (keepP id) ps) → ifB (decide (Prod.snd (Prod.snd (Prod.snd (Prod.snd (Prod.snd (Prod.snd x))))) < (↑(List.length (Prod.fst (Prod.snd x))) : Int))) (((0 : Int) ≤ Prod.snd (Prod.snd (Prod.snd (Prod.snd (Prod.snd (Prod.snd x))))) ∧ Prod.snd (Prod.snd (Prod.snd (Prod.snd (Prod.snd (Prod.snd x))))) < (↑(List.length (Prod.fst (Prod.snd x))) : Int)) ∧ ifB (Pair.A (Ty.ix Ty.pair (Prod.fst (Prod.snd x)) (Int.toNat (Prod.snd (Prod.snd (Prod.snd (Prod.snd (Prod.snd (Prod.snd x)))))))) != Prod.fst (Prod.snd (Prod.snd x))) (((0 : Int) ≤ Prod.snd (Prod.snd (Prod.snd (Prod.snd (Prod.snd (Prod.snd x))))) ∧ Prod.snd (Prod.snd (Prod.snd (Prod.snd (Prod.snd (Prod.snd x))))) < (↑(List.length (Prod.fst (Prod.snd x))) : Int)) ∧ ifB (Pair.B (Ty.ix Ty.pair (Prod.fst (Prod.snd x)) (Int.toNat (Prod.snd (Prod.snd (Prod.snd (Prod.snd (Prod.snd (Prod.snd x)))))))) != Prod.fst (Prod.snd (Prod.snd x))) (((0 : Int) ≤ Prod.snd (Prod.snd (Prod.snd (Prod.snd (Prod.snd (Prod.snd x))))) ∧ Prod.snd (Prod.snd (Prod.snd (Prod.snd (Prod.snd (Prod.snd x))))) < (↑(List.length (Prod.fst (Prod.snd x))) : Int)) ∧ (List.length (Prod.snd (Prod.snd (Prod.snd (Prod.fst (Prod.snd (Prod.snd (Prod.snd (Prod.snd (Prod.snd x))))))))) + List.length [Ty.ix Ty.pair (Prod.fst (Prod.snd x)) (Int.toNat (Prod.snd (Prod.snd (Prod.snd (Prod.snd (Prod.snd (Prod.snd x)))))))]) * (16 : Nat) ≤ room ∧ Holds (Prod.fst x = xs ∧ Prod.fst (Prod.snd x) = ps ∧ Prod.fst (Prod.snd (Prod.snd x)) = id ∧ Prod.fst (Prod.snd (Prod.snd (Prod.snd x))) = (t, p) ∧ Prod.fst (Prod.snd (Prod.snd (Prod.snd (Prod.snd x)))) = ((0 : Int), (0 : Int)) ∧ (0 : Int) ≤ IntKind.wrap IntKind.i64 (Prod.snd (Prod.snd (Prod.snd (Prod.snd (Prod.snd (Prod.snd x))))) + (1 : Int)) ∧ IntKind.wrap IntKind.i64 (Prod.snd (Prod.snd (Prod.snd (Prod.snd (Prod.snd (Prod.snd x))))) + (1 : Int)) ≤ (↑(List.length ps) : Int) ∧ Prod.fst (Prod.fst (Prod.snd (Prod.snd (Prod.snd (Prod.snd (Prod.snd x)))))) = t ∧ Prod.fst (Prod.snd (Prod.fst (Prod.snd (Prod.snd (Prod.snd (Prod.snd (Prod.snd x))))))) = p ∧ Prod.fst (Prod.snd (Prod.snd (Prod.fst (Prod.snd (Prod.snd (Prod.snd (Prod.snd (Prod.snd x)))))))) = [] ++ List.take A3_ (List.drop (0 : Nat) A1_) ++ List.take A4_ (List.drop (Int.toNat A2_) A1_) ∧ Prod.snd (Prod.snd (Prod.snd (Prod.fst (Prod.snd (Prod.snd (Prod.snd (Prod.snd (Prod.snd x)))))))) ++ [Ty.ix Ty.pair (Prod.fst (Prod.snd x)) (Int.toNat (Prod.snd (Prod.snd (Prod.snd (Prod.snd (Prod.snd (Prod.snd x)))))))] ++ List.filter (keepP id) (List.drop (Int.toNat (IntKind.wrap IntKind.i64 (Prod.snd (Prod.snd (Prod.snd (Prod.snd (Prod.snd (Prod.snd x))))) + (1 : Int)))) ps) = List.filter (keepP id) ps) ∧ Int.toNat ((↑(List.length (Prod.fst (Prod.snd x))) : Int) - IntKind.wrap IntKind.i64 (Prod.snd (Prod.snd (Prod.snd (Prod.snd (Prod.snd (Prod.snd x))))) + (1 : Int))) < Int.toNat ((↑(List.length (Prod.fst (Prod.snd x))) : Int) - Prod.snd (Prod.snd (Prod.snd (Prod.snd (Prod.snd (Prod.snd x))))))) (Holds (Prod.fst x = xs ∧ Prod.fst (Prod.snd x) = ps ∧ Prod.fst (Prod.snd (Prod.snd x)) = id ∧ Prod.fst (Prod.snd (Prod.snd (Prod.snd x))) = (t, p) ∧ Prod.fst (Prod.snd (Prod.snd (Prod.snd (Prod.snd x)))) = ((0 : Int), (0 : Int)) ∧ (0 : Int) ≤ IntKind.wrap IntKind.i64 (Prod.snd (Prod.snd (Prod.snd (Prod.snd (Prod.snd (Prod.snd x))))) + (1 : Int)) ∧ IntKind.wrap IntKind.i64 (Prod.snd (Prod.snd (Prod.snd (Prod.snd (Prod.snd (Prod.snd x))))) + (1 : Int)) ≤ (↑(List.length ps) : Int) ∧ Prod.fst (Prod.fst (Prod.snd (Prod.snd (Prod.snd (Prod.snd (Prod.snd x)))))) = t ∧ Prod.fst (Prod.snd (Prod.fst (Prod.snd (Prod.snd (Prod.snd (Prod.snd (Prod.snd x))))))) = p ∧ Prod.fst (Prod.snd (Prod.snd (Prod.fst (Prod.snd (Prod.snd (Prod.snd (Prod.snd (Prod.snd x)))))))) = [] ++ List.take A3_ (List.drop (0 : Nat) A1_) ++ List.take A4_ (List.drop (Int.toNat A2_) A1_) ∧ Prod.snd (Prod.snd (Prod.snd (Prod.fst (Prod.snd (Prod.snd (Prod.snd (Prod.snd (Prod.snd x)))))))) ++ List.filter (keepP id) (List.drop (Int.toNat (IntKind.wrap IntKind.i64 (Prod.snd (Prod.snd (Prod.snd (Prod.snd (Prod.snd (Prod.snd x))))) + (1 : Int)))) ps) = List.filter (keepP id) ps) ∧ Int.toNat ((↑(List.length (Prod.fst (Prod.snd x))) : Int) - IntKind.wrap IntKind.i64 (Prod.snd (Prod.snd (Prod.snd (Prod.snd (Prod.snd (Prod.snd x))))) + (1 : Int))) < Int.toNat ((↑(List.length (Prod.fst (Prod.snd x))) : Int) - Prod.snd (Prod.snd (Prod.snd (Prod.snd (Prod.snd (Prod.snd x)))))))) (Holds (Prod.fst x = xs ∧ Prod.fst (Prod.snd x) = ps ∧ Prod.fst (Prod.snd (Prod.snd x)) = id ∧ Prod.fst (Prod.snd (Prod.snd (Prod.snd x))) = (t, p) ∧ Prod.fst (Prod.snd (Prod.snd (Prod.snd (Prod.snd x)))) = ((0 : Int), (0 : Int)) ∧ (0 : Int) ≤ IntKind.wrap IntKind.i64 (Prod.snd (Prod.snd (Prod.snd (Prod.snd (Prod.snd (Prod.snd x))))) + (1 : Int)) ∧ IntKind.wrap IntKind.i64 (Prod.snd (Prod.snd (Prod.snd (Prod.snd (Prod.snd (Prod.snd x))))) + (1 : Int)) ≤ (↑(List.length ps) : Int) ∧ Prod.fst (Prod.fst (Prod.snd (Prod.snd (Prod.snd (Prod.snd (Prod.snd x)))))) = t ∧ Prod.fst (Prod.snd (Prod.fst (Prod.snd (Prod.snd (Prod.snd (Prod.snd (Prod.snd x))))))) = p ∧ Prod.fst (Prod.snd (Prod.snd (Prod.fst (Prod.snd (Prod.snd (Prod.snd (Prod.snd (Prod.snd x)))))))) = [] ++ List.take A3_ (List.drop (0 : Nat) A1_) ++ List.take A4_ (List.drop (Int.toNat A2_) A1_) ∧ Prod.snd (Prod.snd (Prod.snd (Prod.fst (Prod.snd (Prod.snd (Prod.snd (Prod.snd (Prod.snd x)))))))) ++ List.filter (keepP id) (List.drop (Int.toNat (IntKind.wrap IntKind.i64 (Prod.snd (Prod.snd (Prod.snd (Prod.snd (Prod.snd (Prod.snd x))))) + (1 : Int)))) ps) = List.filter (keepP id) ps) ∧ Int.toNat ((↑(List.length (Prod.fst (Prod.snd x))) : Int) - IntKind.wrap IntKind.i64 (Prod.snd (Prod.snd (Prod.snd (Prod.snd (Prod.snd (Prod.snd x))))) + (1 : Int))) < Int.toNat ((↑(List.length (Prod.fst (Prod.snd x))) : Int) - Prod.snd (Prod.snd (Prod.snd (Prod.snd (Prod.snd (Prod.snd x)))))))) (Q (SV.tup [SV.agg [SV.int IntKind.i64 (Prod.fst (Prod.fst (Prod.snd (Prod.snd (Prod.snd (Prod.snd (Prod.snd x))))))), SV.int IntKind.i64 (Prod.fst (Prod.snd (Prod.fst (Prod.snd (Prod.snd (Prod.snd (Prod.snd (Prod.snd x)))))))), SV.vec (2 : Nat), SV.vec (3 : Nat)], SV.int IntKind.i64 (0 : Int)]) [(false, Blk.vec Ty.body (Prod.fst x)), (false, Blk.vec Ty.pair (Prod.fst (Prod.snd x))), (true, Blk.vec Ty.body (Prod.fst (Prod.snd (Prod.snd (Prod.fst (Prod.snd (Prod.snd (Prod.snd (Prod.snd (Prod.snd x)))))))))), (true, Blk.vec Ty.pair (Prod.snd (Prod.snd (Prod.snd (Prod.fst (Prod.snd (Prod.snd (Prod.snd (Prod.snd (Prod.snd x))))))))))])))) := by kernel_rfl

theorem ok_specWorldGone : FsOk Try.prog 43 fs_specWorldGone := fsOk_of tt_ok (tabFs_cons ok_specWorldOk (tabFs_cons ok_l10At (tabFs_cons ok_specCopyW (tabFs_cons ok_specWoken tabFs_nil)))) mixed Try.func43 (by kernel_rfl) (by kernel_rfl) (by
    intro args LL p r HH h hp
    unfold fs_specWorldGone at h
    dsimp only at h
    split at h
    case h_2 => cases h
    rename_i t p id xs ps
    simp only [Option.some.injEq, Prod.mk.injEq] at h
    obtain ⟨rfl, rfl, rfl⟩ := h
    refine ⟨by simp [Form, stays], (L_sgone), ?_⟩
    rw [vc_specWorldGone]
    try dsimp only
    obtain ⟨hb, hb2⟩ := hp _ rfl
    have hk := atB_le xs id
    refine ⟨⟨hb, hb2⟩, ifB_of (fun c => ?_) (fun c => ⟨by omega, ifB_of (fun c2 => ⟨⟨hb, hb2⟩, ?_⟩) (fun c2 => ?_)⟩)⟩
    · simp [orI, orL, goneCode, not_true c]
    · simp [orI, orL, goneCode, goneBodies, gonePairs, not_false c, not_true c2]
    have hok := worldOk_bodies (not_false c)
    have hl := bodiesOk_len hok
    have hlt := hasB_lt (not_false c2)
    have w0 : IntKind.i64.wrap ((atB xs id : Int) + 1) = (atB xs id : Int) + 1 := wrap_small (by omega) (by omega)
    have e0 : ((atB xs id : Int) + 1).toNat = atB xs id + 1 := by omega
    simp only [w0, e0, Int.toNat_natCast, List.drop_zero, List.nil_append, take_restB, gone_bodies (not_false c2)]
    refine ⟨⟨hb, hb2⟩, ⟨hok, by omega, by omega⟩, ⟨by omega, by rw [length_gen]; omega⟩, by simp only [room, List.length_take, length_gen]; omega, ⟨by omega, by rw [length_gen]; omega⟩, by simp only [room, List.length_take, List.length_drop, length_gen]; omega, ⟨(by trivial), (by trivial), (by trivial), (by trivial), (by trivial), by omega, by omega, (by trivial), (by trivial), (by trivial), (by trivial)⟩, ?_⟩
    rintro ⟨xs', ps', id', w, r, ⟨a, b, us, out⟩, i⟩ ⟨h⟩
    dsimp only at h ⊢
    obtain ⟨rfl, rfl, rfl, rfl, rfl, i0, i1, rfl, rfl, rfl, i2⟩ := h
    have hs2 := congrArg List.length i2
    rw [List.length_append] at hs2
    have hs := List.length_filter_le (keepP id') ps'
    refine ifB_of (fun c3 => ?_) (fun c3 => ?_)
    · have c3 := of_decide_eq_true c3
      have e1 : (i + 1).toNat = i.toNat + 1 := by omega
      have w1 : IntKind.i64.wrap (i + 1) = i + 1 := wrap_small (by omega) (by omega)
      rw [filterP_drop (show i.toNat < ps'.length by omega)] at i2
      rw [w1, e1]
      have stay : keepP id' (Ty.ix .pair ps' i.toNat) = false → out ++ (ps'.drop (i.toNat + 1)).filter (keepP id') = ps'.filter (keepP id') := by
        intro q
        rw [q] at i2
        simpa using i2
      refine ⟨⟨i0, c3⟩, ifB_of (fun d1 => ⟨⟨i0, c3⟩, ifB_of (fun d2 => ⟨⟨i0, c3⟩, by simp only [room, List.length_singleton]; omega, ⟨(by trivial), (by trivial), (by trivial), (by trivial), (by trivial), by omega, by omega, (by trivial), (by trivial), (by trivial), ?_⟩, by omega⟩) (fun d2 => ⟨⟨(by trivial), (by trivial), (by trivial), (by trivial), (by trivial), by omega, by omega, (by trivial), (by trivial), (by trivial), stay ?_⟩, by omega⟩)⟩) (fun d1 => ⟨⟨(by trivial), (by trivial), (by trivial), (by trivial), (by trivial), by omega, by omega, (by trivial), (by trivial), (by trivial), stay ?_⟩, by omega⟩)⟩
      · have d1 : (!((Ty.ix .pair ps' i.toNat).A == id')) = true := d1
        have d2 : (!((Ty.ix .pair ps' i.toNat).B == id')) = true := d2
        have q : keepP id' (Ty.ix .pair ps' i.toNat) = true := by unfold keepP; rw [d1, d2]; rfl
        rw [q] at i2
        rw [← i2, List.append_assoc]
        rfl
      · have d2 : (!((Ty.ix .pair ps' i.toNat).B == id')) = false := d2
        unfold keepP
        rw [d2, Bool.and_false]
      · have d1 : (!((Ty.ix .pair ps' i.toNat).A == id')) = false := d1
        unfold keepP
        rw [d1, Bool.false_and]
    · have c3 := of_decide_eq_false c3
      rw [drop_end (by omega)] at i2
      have i2 : out = ps'.filter (keepP id') := by simpa using i2
      rw [i2]
      simp [orI, orL, goneCode, gonePairs, not_false c, not_false c2])

def LSigone  : LS where
  S := List Body × List Pair × (Int × Int) × (Int × Int × List Body × List Pair) × Body × Int × Int
  live := [(4, [none]), (6, [none]), (9, [none]), (49, [none]), (50, [none])]
  shape := fun s => ([.ptr 2 0 0, .ptr 5 0 0, .ptr 6 0 0, .int .i64 s.2.2.2.2.2.1, .int .i64 s.2.2.2.2.2.2], [(false, .vec .body s.1), (false, .vec .pair s.2.1), (true, .box [.int .i64 s.2.2.1.1, .int .i64 s.2.2.1.2, .nilsl, .nilsl]), (true, .vec .body s.2.2.2.1.2.2.1), (true, .vec .pair s.2.2.2.1.2.2.2), (true, .box [.int .i64 s.2.2.2.1.1, .int .i64 s.2.2.2.1.2.1, .vec 3, .vec 4]), (true, .box [.int .i64 s.2.2.2.2.1.Id, .int .i64 s.2.2.2.2.1.Shape.Kind, .int .i64 s.2.2.2.2.1.Shape.Wide, .int .i64 s.2.2.2.2.1.Shape.High, .int .i64 s.2.2.2.2.1.At.X, .int .i64 s.2.2.2.2.1.At.Y, .int .i64 s.2.2.2.2.1.Drive.X, .int .i64 s.2.2.2.2.1.Drive.Y, .int .i64 s.2.2.2.2.1.Mass, .int .i64 s.2.2.2.2.1.Bounce, .int .i64 s.2.2.2.2.1.Rub, .int .i64 s.2.2.2.2.1.Quiet])])
  get := fun v h => match v, h with
    | [.ptr 2 0 0, .ptr 5 0 0, .ptr 6 0 0, .int .i64 n, .int .i64 k], [(false, .vec .body xs), (false, .vec .pair ps), (true, .box [.int .i64 r_0, .int .i64 r_1, .nilsl, .nilsl]), (true, .vec .body v_2), (true, .vec .pair v_3), (true, .box [.int .i64 v_0, .int .i64 v_1, .vec 3, .vec 4]), (true, .box [.int .i64 bI, .int .i64 bK, .int .i64 bW, .int .i64 bH, .int .i64 bX, .int .i64 bY, .int .i64 bU, .int .i64 bV, .int .i64 bM, .int .i64 bB, .int .i64 bR, .int .i64 bQ])] => some (xs, ps, (r_0, r_1), (v_0, v_1, v_2, v_3), (Body.mk bI (Shape.mk bK bW bH) (Vec.mk bX bY) (Vec.mk bU bV) bM bB bR bQ), n, k)
    | _, _ => none
  inv := fun s0 s => Holds (s.1 = s0.1 ∧ s.2.1 = s0.2.1 ∧ s.2.2.1 = s0.2.2.1 ∧ s.2.2.2.2.1 = s0.2.2.2.2.1 ∧ s.2.2.2.2.2.1 = s0.2.2.2.1.2.2.1.length ∧ s.2.2.2.1.1 = s0.2.2.2.1.1 ∧ s.2.2.2.1.2.1 = s0.2.2.2.1.2.1 ∧ s.2.2.2.1.2.2.2 = s0.2.2.2.1.2.2.2 ∧ 0 ≤ s.2.2.2.2.2.2 ∧ s.2.2.2.2.2.2 ≤ s0.2.2.2.1.2.2.1.length ∧ s.2.2.2.1.2.2.1 = fill (fun e => wake s0.2.2.2.2.1 (Ty.ix .body s0.2.2.2.1.2.2.1 e)) s0.2.2.2.1.2.2.1 s.2.2.2.2.2.2.toNat)
  mu := fun s => (s.2.2.2.2.2.1 - s.2.2.2.2.2.2).toNat
  ok := by
    intro v h s hg
    try dsimp only at hg
    split at hg <;> cases hg
    rfl

def L_igone : Loops := fun n => match n with
  | 11 => some LSigone
  | _ => none
noncomputable def fs_implWorldGone : Fs := ⟨[], fun args H => match args, H with
  | [.agg [.int .i64 t, .int .i64 p, .vec 0, .vec 1], .int .i64 id], [(false, .vec .body xs), (false, .vec .pair ps)] => some ((some (xs.length ≤ 1048576 ∧ ps.length ≤ 1048576)), .tup [.agg [.int .i64 (orI (worldOk t p xs ps) t), .int .i64 (orI (worldOk t p xs ps) p), .vec 2, .vec 3], .int .i64 (goneCode (worldOk t p xs ps) xs id)], [(false, .vec .body xs), (false, .vec .pair ps), (true, .vec .body (orL (worldOk t p xs ps) (goneBodies xs id))), (true, .vec .pair (orL (worldOk t p xs ps) (gonePairs xs ps id)))])
  | _, _ => none⟩

theorem vc_implWorldGone (t : Int) (p : Int) (xs : List Body) (ps : List Pair) (id : Int) (Q : SV → List Ent → Prop) :
    fnVC tt (look [(50, fs_implWorldOk), (70, fs_implCopyW), (71, fs_place), (84, fs_delBodies), (85, fs_delGone), (87, fs_implBodyTouch), (88, fs_bodySleeps)]) (L_igone) Try.f44 [.agg [.int .i64 t, .int .i64 p, .vec 0, .vec 1], .int .i64 id] [(false, .vec .body xs), (false, .vec .pair ps)] Q =
    (let A4_ := (List.length (List.filter (keepP id) ps)); let A2_ := (Int.toNat (↑(atB xs id) : Int)); let A1_ := (List.take (List.length xs - (1 : Nat)) (delRawB xs A2_)); let A3_ := (↑(List.length A1_) : Int); (List.length xs ≤ (1048576 : Nat) ∧ List.length ps ≤ (1048576 : Nat)) ∧ ifB (!worldOk t p xs ps) (Q (SV.tup [SV.agg [SV.int IntKind.i64 (0 : Int), SV.int IntKind.i64 (0 : Int), SV.vec (2 : Nat), SV.vec (3 : Nat)], SV.int IntKind.i64 (1 : Int)]) [(false, Blk.vec Ty.body xs), (false, Blk.vec Ty.pair ps), (true, Blk.vec Ty.body []), (true, Blk.vec Ty.pair [])]) ((List.length xs ≤ (1048576 : Nat) ∧ List.length ps ≤ (1048576 : Nat)) ∧ List.length xs ≤ (4611686018427387904 : Nat) ∧ ifB (!hasB xs id) (Q (SV.tup [SV.agg [SV.int IntKind.i64 t, SV.int IntKind.i64 p, SV.vec (2 : Nat), SV.vec (3 : Nat)], SV.int IntKind.i64 (4 : Int)]) [(false, Blk.vec Ty.body xs), (false, Blk.vec Ty.pair ps), (true, Blk.vec Ty.body xs), (true, Blk.vec Ty.pair ps)]) (((0 : Int) ≤ (↑(atB xs id) : Int) ∧ (↑(atB xs id) : Int) < (↑(List.length xs) : Int)) ∧ (List.length xs ≤ (1048576 : Nat) ∧ (0 : Int) ≤ (↑(atB xs id) : Int) ∧ (↑(atB xs id) : Int) < (↑(List.length xs) : Int) ∧ IntKind.wrap IntKind.i64 ((↑(atB xs id) : Int) + (1 : Int)) = (↑(atB xs id) : Int) + (1 : Int)) ∧ List.length ps ≤ (1048576 : Nat) ∧ Holds (xs = xs ∧ ps = ps ∧ ((0 : Int), (0 : Int)) = ((0 : Int), (0 : Int)) ∧ Ty.ix Ty.body xs A2_ = Ty.ix Ty.body xs A2_ ∧ A3_ = A3_ ∧ t = t ∧ p = p ∧ List.take A4_ (keepRaw id ps) = List.take A4_ (keepRaw id ps) ∧ (0 : Int) ≤ (0 : Int) ∧ (0 : Int) ≤ A3_ ∧ List.take (List.length xs - (1 : Nat)) (delRawB xs A2_) = fill (fun e => wake (Ty.ix Ty.body xs A2_) (Ty.ix Ty.body A1_ e)) A1_ (Int.toNat (0 : Int))) ∧ ∀ (x : List Body × List Pair × (Int × Int) × (Int × Int × List Body × List Pair) × Body × Int × Int), Holds (Prod.fst x = xs ∧ Prod.fst (Prod.snd x) = ps ∧ Prod.fst (Prod.snd (Prod.snd x)) = ((0 : Int), (0 : Int)) ∧ Prod.fst (Prod.snd (Prod.snd (Prod.snd (Prod.snd x)))) = Ty.ix Ty.body xs A2_ ∧ Prod.fst (Prod.snd (Prod.snd (Prod.snd (Prod.snd (Prod.snd x))))) = A3_ ∧ Prod.fst (Prod.fst (Prod.snd (Prod.snd (Prod.snd x)))) = t ∧ Prod.fst (Prod.snd (Prod.fst (Prod.snd (Prod.snd (Prod.snd x))))) = p ∧ Prod.snd (Prod.snd (Prod.snd (Prod.fst (Prod.snd (Prod.snd (Prod.snd x)))))) = List.take A4_ (keepRaw id ps) ∧ (0 : Int) ≤ Prod.snd (Prod.snd (Prod.snd (Prod.snd (Prod.snd (Prod.snd x))))) ∧ Prod.snd (Prod.snd (Prod.snd (Prod.snd (Prod.snd (Prod.snd x))))) ≤ A3_ ∧ Prod.fst (Prod.snd (Prod.snd (Prod.fst (Prod.snd (Prod.snd (Prod.snd x)))))) = fill (fun e => wake (Ty.ix Ty.body xs A2_) (Ty.ix Ty.body A1_ e)) A1_ (Int.toNat (Prod.snd (Prod.snd (Prod.snd (Prod.snd (Prod.snd (Prod.snd x)))))))) → ifB (decide (Prod.snd (Prod.snd (Prod.snd (Prod.snd (Prod.snd (Prod.snd x))))) < Prod.fst (Prod.snd (Prod.snd (Prod.snd (Prod.snd (Prod.snd x))))))) (((0 : Int) ≤ Prod.snd (Prod.snd (Prod.snd (Prod.snd (Prod.snd (Prod.snd x))))) ∧ Prod.snd (Prod.snd (Prod.snd (Prod.snd (Prod.snd (Prod.snd x))))) < (↑(List.length (Prod.fst (Prod.snd (Prod.snd (Prod.fst (Prod.snd (Prod.snd (Prod.snd x)))))))) : Int)) ∧ ifB (Prod.snd (touchAll (Body.Shape (Prod.fst (Prod.snd (Prod.snd (Prod.snd (Prod.snd x)))))) (Body.At (Prod.fst (Prod.snd (Prod.snd (Prod.snd (Prod.snd x)))))) (Body.Shape (Ty.ix Ty.body (Prod.fst (Prod.snd (Prod.snd (Prod.fst (Prod.snd (Prod.snd (Prod.snd x))))))) (Int.toNat (Prod.snd (Prod.snd (Prod.snd (Prod.snd (Prod.snd (Prod.snd x))))))))) (Body.At (Ty.ix Ty.body (Prod.fst (Prod.snd (Prod.snd (Prod.fst (Prod.snd (Prod.snd (Prod.snd x))))))) (Int.toNat (Prod.snd (Prod.snd (Prod.snd (Prod.snd (Prod.snd (Prod.snd x))))))))))) (ifB (Body.Quiet (Ty.ix Ty.body (Prod.fst (Prod.snd (Prod.snd (Prod.fst (Prod.snd (Prod.snd (Prod.snd x))))))) (Int.toNat (Prod.snd (Prod.snd (Prod.snd (Prod.snd (Prod.snd (Prod.snd x)))))))) == (8 : Int)) (Holds (Prod.fst x = xs ∧ Prod.fst (Prod.snd x) = ps ∧ Prod.fst (Prod.snd (Prod.snd x)) = ((0 : Int), (0 : Int)) ∧ Prod.fst (Prod.snd (Prod.snd (Prod.snd (Prod.snd x)))) = Ty.ix Ty.body xs A2_ ∧ Prod.fst (Prod.snd (Prod.snd (Prod.snd (Prod.snd (Prod.snd x))))) = A3_ ∧ Prod.fst (Prod.fst (Prod.snd (Prod.snd (Prod.snd x)))) = t ∧ Prod.fst (Prod.snd (Prod.fst (Prod.snd (Prod.snd (Prod.snd x))))) = p ∧ Prod.snd (Prod.snd (Prod.snd (Prod.fst (Prod.snd (Prod.snd (Prod.snd x)))))) = List.take A4_ (keepRaw id ps) ∧ (0 : Int) ≤ IntKind.wrap IntKind.i64 (Prod.snd (Prod.snd (Prod.snd (Prod.snd (Prod.snd (Prod.snd x))))) + (1 : Int)) ∧ IntKind.wrap IntKind.i64 (Prod.snd (Prod.snd (Prod.snd (Prod.snd (Prod.snd (Prod.snd x))))) + (1 : Int)) ≤ A3_ ∧ setC Ty.body (Prod.fst (Prod.snd (Prod.snd (Prod.fst (Prod.snd (Prod.snd (Prod.snd x))))))) (Int.toNat (Prod.snd (Prod.snd (Prod.snd (Prod.snd (Prod.snd (Prod.snd x))))))) ((0 : Nat) + (11 : Nat)) [SV.int IntKind.i64 (0 : Int)] = fill (fun e => wake (Ty.ix Ty.body xs A2_) (Ty.ix Ty.body A1_ e)) A1_ (Int.toNat (IntKind.wrap IntKind.i64 (Prod.snd (Prod.snd (Prod.snd (Prod.snd (Prod.snd (Prod.snd x))))) + (1 : Int))))) ∧ Int.toNat (Prod.fst (Prod.snd (Prod.snd (Prod.snd (Prod.snd (Prod.snd x))))) - IntKind.wrap IntKind.i64 (Prod.snd (Prod.snd (Prod.snd (Prod.snd (Prod.snd (Prod.snd x))))) + (1 : Int))) < Int.toNat (Prod.fst (Prod.snd (Prod.snd (Prod.snd (Prod.snd (Prod.snd x))))) - Prod.snd (Prod.snd (Prod.snd (Prod.snd (Prod.snd (Prod.snd x))))))) (Holds (Prod.fst x = xs ∧ Prod.fst (Prod.snd x) = ps ∧ Prod.fst (Prod.snd (Prod.snd x)) = ((0 : Int), (0 : Int)) ∧ Prod.fst (Prod.snd (Prod.snd (Prod.snd (Prod.snd x)))) = Ty.ix Ty.body xs A2_ ∧ Prod.fst (Prod.snd (Prod.snd (Prod.snd (Prod.snd (Prod.snd x))))) = A3_ ∧ Prod.fst (Prod.fst (Prod.snd (Prod.snd (Prod.snd x)))) = t ∧ Prod.fst (Prod.snd (Prod.fst (Prod.snd (Prod.snd (Prod.snd x))))) = p ∧ Prod.snd (Prod.snd (Prod.snd (Prod.fst (Prod.snd (Prod.snd (Prod.snd x)))))) = List.take A4_ (keepRaw id ps) ∧ (0 : Int) ≤ IntKind.wrap IntKind.i64 (Prod.snd (Prod.snd (Prod.snd (Prod.snd (Prod.snd (Prod.snd x))))) + (1 : Int)) ∧ IntKind.wrap IntKind.i64 (Prod.snd (Prod.snd (Prod.snd (Prod.snd (Prod.snd (Prod.snd x))))) + (1 : Int)) ≤ A3_ ∧ Prod.fst (Prod.snd (Prod.snd (Prod.fst (Prod.snd (Prod.snd (Prod.snd x)))))) = fill (fun e => wake (Ty.ix Ty.body xs A2_) (Ty.ix Ty.body A1_ e)) A1_ (Int.toNat (IntKind.wrap IntKind.i64 (Prod.snd (Prod.snd (Prod.snd (Prod.snd (Prod.snd (Prod.snd x))))) + (1 : Int))))) ∧ Int.toNat (Prod.fst (Prod.snd (Prod.snd (Prod.snd (Prod.snd (Prod.snd x))))) - IntKind.wrap IntKind.i64 (Prod.snd (Prod.snd (Prod.snd (Prod.snd (Prod.snd (Prod.snd x))))) + (1 : Int))) < Int.toNat (Prod.fst (Prod.snd (Prod.snd (Prod.snd (Prod.snd (Prod.snd x))))) - Prod.snd (Prod.snd (Prod.snd (Prod.snd (Prod.snd (Prod.snd x)))))))) (Holds (Prod.fst x = xs ∧ Prod.fst (Prod.snd x) = ps ∧ Prod.fst (Prod.snd (Prod.snd x)) = ((0 : Int), (0 : Int)) ∧ Prod.fst (Prod.snd (Prod.snd (Prod.snd (Prod.snd x)))) = Ty.ix Ty.body xs A2_ ∧ Prod.fst (Prod.snd (Prod.snd (Prod.snd (Prod.snd (Prod.snd x))))) = A3_ ∧ Prod.fst (Prod.fst (Prod.snd (Prod.snd (Prod.snd x)))) = t ∧ Prod.fst (Prod.snd (Prod.fst (Prod.snd (Prod.snd (Prod.snd x))))) = p ∧ Prod.snd (Prod.snd (Prod.snd (Prod.fst (Prod.snd (Prod.snd (Prod.snd x)))))) = List.take A4_ (keepRaw id ps) ∧ (0 : Int) ≤ IntKind.wrap IntKind.i64 (Prod.snd (Prod.snd (Prod.snd (Prod.snd (Prod.snd (Prod.snd x))))) + (1 : Int)) ∧ IntKind.wrap IntKind.i64 (Prod.snd (Prod.snd (Prod.snd (Prod.snd (Prod.snd (Prod.snd x))))) + (1 : Int)) ≤ A3_ ∧ Prod.fst (Prod.snd (Prod.snd (Prod.fst (Prod.snd (Prod.snd (Prod.snd x)))))) = fill (fun e => wake (Ty.ix Ty.body xs A2_) (Ty.ix Ty.body A1_ e)) A1_ (Int.toNat (IntKind.wrap IntKind.i64 (Prod.snd (Prod.snd (Prod.snd (Prod.snd (Prod.snd (Prod.snd x))))) + (1 : Int))))) ∧ Int.toNat (Prod.fst (Prod.snd (Prod.snd (Prod.snd (Prod.snd (Prod.snd x))))) - IntKind.wrap IntKind.i64 (Prod.snd (Prod.snd (Prod.snd (Prod.snd (Prod.snd (Prod.snd x))))) + (1 : Int))) < Int.toNat (Prod.fst (Prod.snd (Prod.snd (Prod.snd (Prod.snd (Prod.snd x))))) - Prod.snd (Prod.snd (Prod.snd (Prod.snd (Prod.snd (Prod.snd x)))))))) (Q (SV.tup [SV.agg [SV.int IntKind.i64 (Prod.fst (Prod.fst (Prod.snd (Prod.snd (Prod.snd x))))), SV.int IntKind.i64 (Prod.fst (Prod.snd (Prod.fst (Prod.snd (Prod.snd (Prod.snd x)))))), SV.vec (2 : Nat), SV.vec (3 : Nat)], SV.int IntKind.i64 (0 : Int)]) [(false, Blk.vec Ty.body (Prod.fst x)), (false, Blk.vec Ty.pair (Prod.fst (Prod.snd x))), (true, Blk.vec Ty.body (Prod.fst (Prod.snd (Prod.snd (Prod.fst (Prod.snd (Prod.snd (Prod.snd x)))))))), (true, Blk.vec Ty.pair (Prod.snd (Prod.snd (Prod.snd (Prod.fst (Prod.snd (Prod.snd (Prod.snd x))))))))])))) := by kernel_rfl

theorem ok_implWorldGone : FsOk Try.prog 44 fs_implWorldGone := fsOk_of tt_ok (tabFs_cons ok_implWorldOk (tabFs_cons ok_implCopyW (tabFs_cons ok_place (tabFs_cons ok_delBodies (tabFs_cons ok_delGone (tabFs_cons ok_implBodyTouch (tabFs_cons ok_bodySleeps tabFs_nil))))))) mixed Try.func44 (by kernel_rfl) (by kernel_rfl) (by
    intro args LL p r HH h hp
    unfold fs_implWorldGone at h
    dsimp only at h
    split at h
    case h_2 => cases h
    rename_i t p id xs ps
    simp only [Option.some.injEq, Prod.mk.injEq] at h
    obtain ⟨rfl, rfl, rfl⟩ := h
    refine ⟨by simp [Form, stays], (L_igone), ?_⟩
    rw [vc_implWorldGone]
    try dsimp only
    obtain ⟨hb, hb2⟩ := hp _ rfl
    have hk := atB_le xs id
    refine ⟨⟨hb, hb2⟩, ifB_of (fun c => ?_) (fun c => ⟨⟨hb, hb2⟩, by omega, ifB_of (fun c2 => ?_) (fun c2 => ?_)⟩)⟩
    · simp [orI, orL, goneCode, not_true c]
    · simp [orI, orL, goneCode, goneBodies, gonePairs, not_false c, not_true c2]
    have hok := worldOk_bodies (not_false c)
    have hl := bodiesOk_len hok
    have hlt := hasB_lt (not_false c2)
    have hd := length_delB hlt
    simp only [Int.toNat_natCast, delRawB_take hlt, keepRaw_take]
    refine ⟨⟨by omega, by omega⟩, ⟨hb, by omega, by omega, wrap_small (by omega) (by omega)⟩, hb2, ⟨(by trivial), (by trivial), (by trivial), (by trivial), (by trivial), (by trivial), (by trivial), (by trivial), by omega, by omega, (fill_zero _ _).symm⟩, ?_⟩
    rintro ⟨xs', ps', r, ⟨a, b, us, qs⟩, v, n, k⟩ ⟨h⟩
    dsimp only at h ⊢
    obtain ⟨rfl, rfl, rfl, rfl, rfl, rfl, rfl, rfl, k0, k1, h2⟩ := h
    have hf : us.length = (delB xs' (atB xs' id)).length := by rw [h2]; exact length_fill _ _ (by omega)
    refine ifB_of (fun c1 => ?_) (fun c1 => ?_)
    · have c1 := of_decide_eq_true c1
      have e1 : (k + 1).toNat = k.toNat + 1 := by omega
      have w : IntKind.i64.wrap (k + 1) = k + 1 := wrap_small (by omega) (by omega)
      have hy : Ty.ix .body us k.toNat = Ty.ix .body (delB xs' (atB xs' id)) k.toNat := by rw [h2]; exact ix_fill (T := .body) _ _ (by omega)
      have hstep := fill_step (fun e => wake (Ty.ix .body xs' (atB xs' id)) (Ty.ix .body (delB xs' (atB xs' id)) e)) (delB xs' (atB xs' id)) (i := k.toNat) (by omega)
      rw [← h2] at hstep
      have stay : wake (Ty.ix .body xs' (atB xs' id)) (Ty.ix .body (delB xs' (atB xs' id)) k.toNat) = Ty.ix .body (delB xs' (atB xs' id)) k.toNat → us = fill (fun e => wake (Ty.ix .body xs' (atB xs' id)) (Ty.ix .body (delB xs' (atB xs' id)) e)) (delB xs' (atB xs' id)) (k.toNat + 1) := by
        intro q
        rw [← hstep, q, ← hy]
        exact (set_ix (T := .body) us (by omega)).symm
      rw [w, e1, hy]
      refine ⟨⟨k0, by omega⟩, ifB_of (fun d2 => ifB_of (fun d3 => ⟨⟨(by trivial), (by trivial), (by trivial), (by trivial), (by trivial), (by trivial), (by trivial), (by trivial), by omega, by omega, ?_⟩, by omega⟩) (fun d3 => ⟨⟨(by trivial), (by trivial), (by trivial), (by trivial), (by trivial), (by trivial), (by trivial), (by trivial), by omega, by omega, stay ?_⟩, by omega⟩)) (fun d2 => ⟨⟨(by trivial), (by trivial), (by trivial), (by trivial), (by trivial), (by trivial), (by trivial), (by trivial), by omega, by omega, stay ?_⟩, by omega⟩)⟩
      · rw [setC_quiet, ← hstep, hy]
        unfold wake touchB
        rw [d2, d3]
        rfl
      · unfold wake touchB
        rw [d2, d3]
        rfl
      · unfold wake touchB
        rw [d2]
        rfl
    · have c1 := of_decide_eq_false c1
      rw [fill_end _ _ (by omega), gen_map] at h2
      rw [h2]
      simp [orI, orL, goneCode, goneBodies, gonePairs, not_false c, not_false c2])

theorem length_goneW (ok : Bool) (xs : List Body) (id : Int) : (orL ok (goneBodies xs id)).length ≤ xs.length := by
  refine Nat.le_trans (length_orL _ _) ?_
  unfold goneBodies delB
  cases hasB xs id
  · simp
  · simp only [cond_true, List.length_map, List.length_append, List.length_take, List.length_drop]
    omega
theorem length_goneP (ok : Bool) (xs : List Body) (ps : List Pair) (id : Int) : (orL ok (gonePairs xs ps id)).length ≤ ps.length := by
  refine Nat.le_trans (length_orL _ _) ?_
  unfold gonePairs
  cases hasB xs id
  · simp
  · exact List.length_filter_le _ _
noncomputable def fs_lawExactWorldGone : Fs := ⟨[], fun args H => match args, H with
  | [.agg [.int .i64 t, .int .i64 p, .vec 0, .vec 1], .int .i64 id], [(false, .vec .body xs), (false, .vec .pair ps)] => some ((some (LOk .body xs ∧ LOk .pair ps)), .bool true, [(false, .vec .body xs), (false, .vec .pair ps)])
  | _, _ => none⟩

theorem vc_lawExactWorldGone (t : Int) (p : Int) (xs : List Body) (ps : List Pair) (id : Int) (Q : SV → List Ent → Prop) :
    fnVC tt (look [(22, fs_szWorld), (24, fs_toWorld), (43, fs_specWorldGone), (44, fs_implWorldGone), (27, fs_lawsEqWorld), (31, fs_lawsMarkWorld), (32, fs_lawsHeldWorld)]) L0 Try.f9 [.agg [.int .i64 t, .int .i64 p, .vec 0, .vec 1], .int .i64 id] [(false, .vec .body xs), (false, .vec .pair ps)] Q =
    (let A4_ := (false, Blk.vec Ty.pair ps); let A3_ := (false, Blk.vec Ty.body xs); let A2_ := (orL (worldOk t p xs ps) (gonePairs xs ps id)); let A1_ := (orL (worldOk t p xs ps) (goneBodies xs id)); let A5_ := (!eqW4 (orI (worldOk t p xs ps) t) (orI (worldOk t p xs ps) p) A1_ A2_ (orI (worldOk t p xs ps) t) (orI (worldOk t p xs ps) p) A1_ A2_); ifB (decide (szW (1048576 : Int) (List.length xs) (List.length ps) < (0 : Int))) (Q (SV.bool true) [A3_, A4_]) ((List.length xs ≤ (1048576 : Nat) ∧ List.length ps ≤ (1048576 : Nat)) ∧ (List.length xs ≤ (1048576 : Nat) ∧ List.length ps ≤ (1048576 : Nat)) ∧ (List.length xs ≤ (1048576 : Nat) ∧ List.length ps ≤ (1048576 : Nat)) ∧ (List.length xs ≤ (1048576 : Nat) ∧ List.length ps ≤ (1048576 : Nat)) ∧ (List.length A1_ ≤ (4611686018427387904 : Nat) ∧ List.length A2_ ≤ (4611686018427387904 : Nat)) ∧ ifB A5_ (Q (SV.bool false) [A3_, A4_]) (ifB (goneCode (worldOk t p xs ps) xs id != goneCode (worldOk t p xs ps) xs id) (Q (SV.bool false) [A3_, A4_]) ((List.length xs ≤ (1048576 : Nat) ∧ List.length ps ≤ (1048576 : Nat)) ∧ (List.length xs ≤ (4611686018427387904 : Nat) ∧ List.length ps ≤ (4611686018427387904 : Nat)) ∧ ifB (!eqW4 t p xs ps t p xs ps) (Q (SV.bool false) [A3_, A4_]) ((List.length xs ≤ (1048576 : Nat) ∧ List.length ps ≤ (1048576 : Nat) ∧ (0 : Int) ≤ (1 : Int) ∧ (1 : Int) ≤ (10000000000 : Int)) ∧ (List.length A1_ ≤ (4611686018427387904 : Nat) ∧ List.length A2_ ≤ (4611686018427387904 : Nat)) ∧ ifB A5_ (Q (SV.bool false) [A3_, A4_]) (ifB (goneCode (worldOk t p xs ps) xs id != goneCode (worldOk t p xs ps) xs id) (Q (SV.bool false) [A3_, A4_]) ((List.length A1_ ≤ (1048576 : Nat) ∧ List.length A2_ ≤ (1048576 : Nat) ∧ (0 : Int) ≤ (1 : Int) ∧ (1 : Int) ≤ (10000000000 : Int)) ∧ (List.length (gen (fun e => mkBody ((1 : Int) + (12 : Int) * (↑e : Int))) (List.length A1_)) ≤ (1048576 : Nat) ∧ List.length (gen (fun e => mkPair ((1 : Int) + (12 : Int) * (↑(List.length A1_) : Int) + (2 : Int) * (↑e : Int))) (List.length A2_)) ≤ (1048576 : Nat) ∧ (0 : Int) ≤ (1 : Int) ∧ (1 : Int) ≤ (10000000000 : Int)) ∧ ifB (decide (heldW (1 : Int) (gen (fun e => mkBody ((1 : Int) + (12 : Int) * (↑e : Int))) (List.length A1_)) (gen (fun e => mkPair ((1 : Int) + (12 : Int) * (↑(List.length A1_) : Int) + (2 : Int) * (↑e : Int))) (List.length A2_)) < (0 : Int))) (Q (SV.bool false) [A3_, A4_]) (ifB (heldW (1 : Int) (gen (fun e => mkBody ((1 : Int) + (12 : Int) * (↑e : Int))) (List.length A1_)) (gen (fun e => mkPair ((1 : Int) + (12 : Int) * (↑(List.length A1_) : Int) + (2 : Int) * (↑e : Int))) (List.length A2_)) != (1 : Int) + (12 : Int) * (↑(List.length A1_) : Int) + (2 : Int) * (↑(List.length A2_) : Int)) (Q (SV.bool false) [A3_, A4_]) ((List.length xs ≤ (1048576 : Nat) ∧ List.length ps ≤ (1048576 : Nat)) ∧ (List.length xs ≤ (1048576 : Nat) ∧ List.length ps ≤ (1048576 : Nat)) ∧ (List.length A1_ ≤ (4611686018427387904 : Nat) ∧ List.length A2_ ≤ (4611686018427387904 : Nat)) ∧ ifB A5_ (Q (SV.bool false) [A3_, A4_]) (ifB (goneCode (worldOk t p xs ps) xs id != goneCode (worldOk t p xs ps) xs id) (Q (SV.bool false) [A3_, A4_]) ((List.length (gen (fun e => mkBody ((1 : Int) + (12 : Int) * (↑e : Int))) (List.length A1_)) ≤ (1048576 : Nat) ∧ List.length (gen (fun e => mkPair ((1 : Int) + (12 : Int) * (↑(List.length A1_) : Int) + (2 : Int) * (↑e : Int))) (List.length A2_)) ≤ (1048576 : Nat) ∧ (0 : Int) ≤ (1 : Int) ∧ (1 : Int) ≤ (10000000000 : Int)) ∧ ifB (decide (heldW (1 : Int) (gen (fun e => mkBody ((1 : Int) + (12 : Int) * (↑e : Int))) (List.length A1_)) (gen (fun e => mkPair ((1 : Int) + (12 : Int) * (↑(List.length A1_) : Int) + (2 : Int) * (↑e : Int))) (List.length A2_)) < (0 : Int))) (Q (SV.bool false) [A3_, A4_]) (ifB (heldW (1 : Int) (gen (fun e => mkBody ((1 : Int) + (12 : Int) * (↑e : Int))) (List.length A1_)) (gen (fun e => mkPair ((1 : Int) + (12 : Int) * (↑(List.length A1_) : Int) + (2 : Int) * (↑e : Int))) (List.length A2_)) != (1 : Int) + (12 : Int) * (↑(List.length A1_) : Int) + (2 : Int) * (↑(List.length A2_) : Int)) (Q (SV.bool false) [A3_, A4_]) (Q (SV.bool true) [A3_, A4_]))))))))))))) := by kernel_rfl

theorem ok_lawExactWorldGone : FsOk Try.prog 9 fs_lawExactWorldGone := fsOk_of tt_ok (tabFs_cons ok_szWorld (tabFs_cons ok_toWorld (tabFs_cons ok_specWorldGone (tabFs_cons ok_implWorldGone (tabFs_cons ok_lawsEqWorld (tabFs_cons ok_lawsMarkWorld (tabFs_cons ok_lawsHeldWorld tabFs_nil))))))) mixed Try.func9 (by kernel_rfl) (by kernel_rfl) (by
    intro args LL p r HH h hp
    unfold fs_lawExactWorldGone at h
    dsimp only at h
    split at h
    case h_2 => cases h
    rename_i t p id xs ps
    simp only [Option.some.injEq, Prod.mk.injEq] at h
    obtain ⟨rfl, rfl, rfl⟩ := h
    refine ⟨by simp [Form, stays], L0, ?_⟩
    rw [vc_lawExactWorldGone]
    try dsimp only
    obtain ⟨⟨hb, _⟩, hb2, _⟩ := hp _ rfl
    refine ifB_of (fun c => ⟨rfl, rfl⟩) (fun c => ?_)
    obtain ⟨k1, k2⟩ := szW_le c hb hb2
    have h1 := length_goneW (worldOk t p xs ps) xs id
    have h2 := length_goneP (worldOk t p xs ps) xs ps id
    have hh := heldW_marked (k := 1) (m := (orL (worldOk t p xs ps) (goneBodies xs id)).length) (n := (orL (worldOk t p xs ps) (gonePairs xs ps id)).length)
    simp only [eqW4_self, hh]

    simp only [same_self, length_gen, Bool.not_true, beq_self_eq_true, cond_true, bne_self_eq_false, ifB]
    repeat' (first | refine pre_of ?_ (fun _ => ?_) | refine ifB_of (fun c => ?_) (fun c => ?_) | fail)
    all_goals first
      | omega
      | trivial
      | (rename_i c; have c := of_decide_eq_true c; omega))

end Go.Proofs.Ythkdelepjndacaa.Sym
