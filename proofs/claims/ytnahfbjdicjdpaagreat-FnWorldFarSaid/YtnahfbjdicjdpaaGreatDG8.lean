/-
  What the rows of this claim stand on, part 8: the machine, the walks, the plain laws, as far as they are used.
  No condition.
-/
import Derived.Test.YtnahfbjdicjdpaaGreatDG7
namespace Go.Proofs.YtnahfbjdicjdpaaGreat.Sym
open Go
set_option linter.unusedVariables false
set_option linter.unusedSimpArgs false
set_option maxRecDepth 100000

def atB (xs : List Body) (id : Int) : Nat := pref (fun y => decide (y.Id < id)) xs
def hasB (xs : List Body) (id : Int) : Bool := decide (atB xs id < xs.length) && (Ty.ix .body xs (atB xs id)).Id == id
theorem atB_le (xs : List Body) (id : Int) : atB xs id ≤ xs.length := (pref_spec (T := .body) xs).1
def LSl10At  : LS where
  S := List Body × Unit × Int × Int
  live := [(0, [none]), (1, [none]), (6, [none])]
  shape := fun s => ([.vec 0, .int .i64 s.2.2.1, .int .i64 s.2.2.2], [(false, .vec .body s.1)])
  get := fun v h => match v, h with
    | [.vec 0, .int .i64 id, .int .i64 k], [(false, .vec .body xs)] => some (xs, (), id, k)
    | _, _ => none
  inv := fun s0 s => Holds (s.1 = s0.1 ∧ s.2.2.1 = s0.2.2.1 ∧ 0 ≤ s.2.2.2 ∧ s.2.2.2 ≤ s0.1.length ∧ (∀ e, e < s.2.2.2.toNat → decide ((Ty.ix .body s0.1 e).Id < s0.2.2.1) = true))
  mu := fun s => ((s.1.length : Int) - s.2.2.2).toNat
  ok := by
    intro v h s hg
    try dsimp only at hg
    split at hg <;> cases hg
    rfl

def L_l10At : Loops := fun n => match n with
  | 2 => some LSl10At
  | _ => none
noncomputable def fs_l10At : Fs := ⟨[], fun args H => match args, H with
  | [.vec 0, .int .i64 id], [(false, .vec .body xs)] => some ((some (xs.length ≤ 4611686018427387904)), .tup [.int .i64 (atB xs id), .bool (hasB xs id)], [(false, .vec .body xs)])
  | _, _ => none⟩

theorem vc_l10At (id : Int) (xs : List Body) (Q : SV → List Ent → Prop) :
    fnVC tt (look []) (L_l10At) Tryz.f78 [.vec 0, .int .i64 id] [(false, .vec .body xs)] Q =
    (Holds (xs = xs ∧ id = id ∧ (0 : Int) ≤ (0 : Int) ∧ (0 : Int) ≤ (↑(List.length xs) : Int) ∧ ∀ (e : Nat), e < Int.toNat (0 : Int) → decide (Body.Id (Ty.ix Ty.body xs e) < id) = true) ∧ ∀ (x : List Body × Unit × Int × Int), Holds (Prod.fst x = xs ∧ Prod.fst (Prod.snd (Prod.snd x)) = id ∧ (0 : Int) ≤ Prod.snd (Prod.snd (Prod.snd x)) ∧ Prod.snd (Prod.snd (Prod.snd x)) ≤ (↑(List.length xs) : Int) ∧ ∀ (e : Nat), e < Int.toNat (Prod.snd (Prod.snd (Prod.snd x))) → decide (Body.Id (Ty.ix Ty.body xs e) < id) = true) → ifB (decide (Prod.snd (Prod.snd (Prod.snd x)) < (↑(List.length (Prod.fst x)) : Int))) (((0 : Int) ≤ Prod.snd (Prod.snd (Prod.snd x)) ∧ Prod.snd (Prod.snd (Prod.snd x)) < (↑(List.length (Prod.fst x)) : Int)) ∧ ifB (decide (Body.Id (Ty.ix Ty.body (Prod.fst x) (Int.toNat (Prod.snd (Prod.snd (Prod.snd x))))) < Prod.fst (Prod.snd (Prod.snd x)))) (Holds (Prod.fst x = xs ∧ Prod.fst (Prod.snd (Prod.snd x)) = id ∧ (0 : Int) ≤ IntKind.wrap IntKind.i64 (Prod.snd (Prod.snd (Prod.snd x)) + (1 : Int)) ∧ IntKind.wrap IntKind.i64 (Prod.snd (Prod.snd (Prod.snd x)) + (1 : Int)) ≤ (↑(List.length xs) : Int) ∧ ∀ (e : Nat), e < Int.toNat (IntKind.wrap IntKind.i64 (Prod.snd (Prod.snd (Prod.snd x)) + (1 : Int))) → decide (Body.Id (Ty.ix Ty.body xs e) < id) = true) ∧ Int.toNat ((↑(List.length (Prod.fst x)) : Int) - IntKind.wrap IntKind.i64 (Prod.snd (Prod.snd (Prod.snd x)) + (1 : Int))) < Int.toNat ((↑(List.length (Prod.fst x)) : Int) - Prod.snd (Prod.snd (Prod.snd x)))) (ifB (decide (Prod.snd (Prod.snd (Prod.snd x)) < (↑(List.length (Prod.fst x)) : Int))) (((0 : Int) ≤ Prod.snd (Prod.snd (Prod.snd x)) ∧ Prod.snd (Prod.snd (Prod.snd x)) < (↑(List.length (Prod.fst x)) : Int)) ∧ Q (SV.tup [SV.int IntKind.i64 (Prod.snd (Prod.snd (Prod.snd x))), SV.bool (Body.Id (Ty.ix Ty.body (Prod.fst x) (Int.toNat (Prod.snd (Prod.snd (Prod.snd x))))) == Prod.fst (Prod.snd (Prod.snd x)))]) [(false, Blk.vec Ty.body (Prod.fst x))]) (Q (SV.tup [SV.int IntKind.i64 (Prod.snd (Prod.snd (Prod.snd x))), SV.bool false]) [(false, Blk.vec Ty.body (Prod.fst x))]))) (ifB (decide (Prod.snd (Prod.snd (Prod.snd x)) < (↑(List.length (Prod.fst x)) : Int))) (((0 : Int) ≤ Prod.snd (Prod.snd (Prod.snd x)) ∧ Prod.snd (Prod.snd (Prod.snd x)) < (↑(List.length (Prod.fst x)) : Int)) ∧ Q (SV.tup [SV.int IntKind.i64 (Prod.snd (Prod.snd (Prod.snd x))), SV.bool (Body.Id (Ty.ix Ty.body (Prod.fst x) (Int.toNat (Prod.snd (Prod.snd (Prod.snd x))))) == Prod.fst (Prod.snd (Prod.snd x)))]) [(false, Blk.vec Ty.body (Prod.fst x))]) (Q (SV.tup [SV.int IntKind.i64 (Prod.snd (Prod.snd (Prod.snd x))), SV.bool false]) [(false, Blk.vec Ty.body (Prod.fst x))]))) := by kernel_rfl

theorem ok_l10At : FsOk Tryz.prog 78 fs_l10At := fsOk_of tt_ok tabFs_nil mixed Tryz.func78 (by kernel_rfl) (by kernel_rfl) (by
    intro args LL p r HH h hp
    unfold fs_l10At at h
    dsimp only at h
    split at h
    case h_2 => cases h
    rename_i id xs
    simp only [Option.some.injEq, Prod.mk.injEq] at h
    obtain ⟨rfl, rfl, rfl⟩ := h
    refine ⟨by simp [Form, stays], (L_l10At), ?_⟩
    rw [vc_l10At]
    try dsimp only
    have hb := hp _ rfl
    refine ⟨⟨(by trivial), (by trivial), by omega, by omega, fun e he => absurd he (by simp)⟩, ?_⟩
    rintro ⟨xs', u, id', k⟩ ⟨h⟩
    dsimp only at h ⊢
    obtain ⟨rfl, rfl, h0, h1, h2⟩ := h
    have fin : (k.toNat < xs'.length → decide ((Ty.ix .body xs' k.toNat).Id < id') = false) → atB xs' id' = k.toNat := fun h => pref_eq (T := .body) (by omega) h2 h
    refine ifB_of (fun c => ?_) (fun c => ?_)
    · have hi := of_decide_eq_true c
      refine ⟨⟨h0, hi⟩, ifB_of (fun c2 => ?_) (fun c2 => ?_)⟩
      · have e1 : (k + 1).toNat = k.toNat + 1 := by omega
        simp (disch := omega) only [wrap_small, e1]
        refine ⟨⟨(by trivial), (by trivial), by omega, by omega, fun e he => ?_⟩, by omega⟩
        by_cases q : e = k.toNat
        · rw [q]; exact c2
        · exact h2 e (by omega)
      · have hk := fin fun _ => c2
        refine ifB_of (fun _ => ⟨⟨h0, hi⟩, ?_⟩) (fun c3 => ?_)
        · unfold hasB
          rw [hk]
          have : ((k.toNat : Nat) : Int) = k := by omega
          simp [this, show k.toNat < xs'.length by omega]
        · have := of_decide_eq_false c3
          omega
    · have hi := of_decide_eq_false c
      have hk := fin fun h => by omega
      refine ifB_of (fun c3 => ?_) (fun c3 => ?_)
      · have := of_decide_eq_true c3
        omega
      · unfold hasB
        rw [hk]
        have : ((k.toNat : Nat) : Int) = k := by omega
        simp [this, show ¬ k.toNat < xs'.length by omega])

noncomputable def fs_notAhead : Fs := ⟨[], fun args H => match args, H with
  | [.agg [.int .i64 aI, .int .i64 aK, .int .i64 aW, .int .i64 aH, .int .i64 aX, .int .i64 aY, .int .i64 aU, .int .i64 aV, .int .i64 aM, .int .i64 aB, .int .i64 aR, .int .i64 aQ], .ptr 0 0 0], [(true, .box [.int .i64 id])] => some (none, .bool (decide (aI ≥ id)), [(true, .box [.int .i64 id])])
  | _, _ => none⟩

theorem vc_notAhead (aI : Int) (aK : Int) (aW : Int) (aH : Int) (aX : Int) (aY : Int) (aU : Int) (aV : Int) (aM : Int) (aB : Int) (aR : Int) (aQ : Int) (id : Int) (Q : SV → List Ent → Prop) :
    fnVC tt (look []) L0 Tryz.f119 [.agg [.int .i64 aI, .int .i64 aK, .int .i64 aW, .int .i64 aH, .int .i64 aX, .int .i64 aY, .int .i64 aU, .int .i64 aV, .int .i64 aM, .int .i64 aB, .int .i64 aR, .int .i64 aQ], .ptr 0 0 0] [(true, .box [.int .i64 id])] Q =
    (Q (SV.bool (decide (aI ≥ id))) [(true, Blk.box [SV.int IntKind.i64 id])]) := by kernel_rfl

theorem ok_notAhead : FsOk Tryz.prog 119 fs_notAhead := fsOk_of tt_ok tabFs_nil mixed Tryz.func119 (by kernel_rfl) (by kernel_rfl) (by
    intro args LL p r HH h hp
    unfold fs_notAhead at h
    dsimp only at h
    split at h
    case h_2 => cases h
    rename_i aI aK aW aH aX aY aU aV aM aB aR aQ id
    simp only [Option.some.injEq, Prod.mk.injEq] at h
    obtain ⟨rfl, rfl, rfl⟩ := h
    refine ⟨by simp [Form, stays], L0, ?_⟩
    rw [vc_notAhead]
    try dsimp only
    exact ⟨rfl, rfl⟩)

def LSidxPlace  : LS where
  S := List Body × Int × Unit × Unit × Int × Int
  live := [(0, [none]), (1, [none]), (7, [none]), (8, [none])]
  shape := fun s => ([.vec 0, .fn 119 (some 1), .int .i64 s.2.2.2.2.1, .int .i64 s.2.2.2.2.2], [(false, .vec .body s.1), (true, .box [.int .i64 s.2.1])])
  get := fun v h => match v, h with
    | [.vec 0, .fn 119 (some 1), .int .i64 n, .int .i64 i], [(false, .vec .body xs), (true, .box [.int .i64 id])] => some (xs, id, (), (), n, i)
    | _, _ => none
  inv := fun s0 s => Holds (s.1 = s0.1 ∧ s.2.1 = s0.2.1 ∧ s.2.2.2.2.1 = s0.1.length ∧ 0 ≤ s.2.2.2.2.2 ∧ s.2.2.2.2.2 ≤ s0.1.length ∧ (∀ k, k < s.2.2.2.2.2.toNat → decide ((Ty.ix .body s0.1 k).Id ≥ s0.2.1) = false))
  mu := fun s => ((s.1.length : Int) - s.2.2.2.2.2).toNat
  ok := by
    intro v h s hg
    try dsimp only at hg
    split at hg <;> cases hg
    rfl

def L_idxPlace : Loops := fun n => match n with
  | 2 => some LSidxPlace
  | _ => none
noncomputable def fs_idxPlace : Fs := ⟨[], fun args H => match args, H with
  | [.vec 0, .fn 119 (some 1)], [(false, .vec .body xs), (true, .box [.int .i64 id])] => some ((some (xs.length ≤ 4611686018427387904)), .int .i64 (firstI (fun y : Body => decide (y.Id ≥ id)) xs), [(false, .vec .body xs), (true, .box [.int .i64 id])])
  | _, _ => none⟩

theorem vc_idxPlace (xs : List Body) (id : Int) (Q : SV → List Ent → Prop) :
    fnVC tt (look [(119, fs_notAhead)]) (L_idxPlace) Tryz.f114 [.vec 0, .fn 119 (some 1)] [(false, .vec .body xs), (true, .box [.int .i64 id])] Q =
    (Holds (xs = xs ∧ id = id ∧ (↑(List.length xs) : Int) = (↑(List.length xs) : Int) ∧ (0 : Int) ≤ (0 : Int) ∧ (0 : Int) ≤ (↑(List.length xs) : Int) ∧ ∀ (k : Nat), k < Int.toNat (0 : Int) → decide (Body.Id (Ty.ix Ty.body xs k) ≥ id) = false) ∧ ∀ (x : List Body × Int × Unit × Unit × Int × Int), Holds (Prod.fst x = xs ∧ Prod.fst (Prod.snd x) = id ∧ Prod.fst (Prod.snd (Prod.snd (Prod.snd (Prod.snd x)))) = (↑(List.length xs) : Int) ∧ (0 : Int) ≤ Prod.snd (Prod.snd (Prod.snd (Prod.snd (Prod.snd x)))) ∧ Prod.snd (Prod.snd (Prod.snd (Prod.snd (Prod.snd x)))) ≤ (↑(List.length xs) : Int) ∧ ∀ (k : Nat), k < Int.toNat (Prod.snd (Prod.snd (Prod.snd (Prod.snd (Prod.snd x))))) → decide (Body.Id (Ty.ix Ty.body xs k) ≥ id) = false) → ifB (decide (Prod.snd (Prod.snd (Prod.snd (Prod.snd (Prod.snd x)))) < Prod.fst (Prod.snd (Prod.snd (Prod.snd (Prod.snd x)))))) (((0 : Int) ≤ Prod.snd (Prod.snd (Prod.snd (Prod.snd (Prod.snd x)))) ∧ Prod.snd (Prod.snd (Prod.snd (Prod.snd (Prod.snd x)))) < (↑(List.length (Prod.fst x)) : Int)) ∧ ifB (decide (Body.Id (Ty.ix Ty.body (Prod.fst x) (Int.toNat (Prod.snd (Prod.snd (Prod.snd (Prod.snd (Prod.snd x))))))) ≥ Prod.fst (Prod.snd x))) (Q (SV.int IntKind.i64 (Prod.snd (Prod.snd (Prod.snd (Prod.snd (Prod.snd x)))))) [(false, Blk.vec Ty.body (Prod.fst x)), (true, Blk.box [SV.int IntKind.i64 (Prod.fst (Prod.snd x))])]) (Holds (Prod.fst x = xs ∧ Prod.fst (Prod.snd x) = id ∧ Prod.fst (Prod.snd (Prod.snd (Prod.snd (Prod.snd x)))) = (↑(List.length xs) : Int) ∧ (0 : Int) ≤ IntKind.wrap IntKind.i64 (Prod.snd (Prod.snd (Prod.snd (Prod.snd (Prod.snd x)))) + (1 : Int)) ∧ IntKind.wrap IntKind.i64 (Prod.snd (Prod.snd (Prod.snd (Prod.snd (Prod.snd x)))) + (1 : Int)) ≤ (↑(List.length xs) : Int) ∧ ∀ (k : Nat), k < Int.toNat (IntKind.wrap IntKind.i64 (Prod.snd (Prod.snd (Prod.snd (Prod.snd (Prod.snd x)))) + (1 : Int))) → decide (Body.Id (Ty.ix Ty.body xs k) ≥ id) = false) ∧ Int.toNat ((↑(List.length (Prod.fst x)) : Int) - IntKind.wrap IntKind.i64 (Prod.snd (Prod.snd (Prod.snd (Prod.snd (Prod.snd x)))) + (1 : Int))) < Int.toNat ((↑(List.length (Prod.fst x)) : Int) - Prod.snd (Prod.snd (Prod.snd (Prod.snd (Prod.snd x))))))) (Q (SV.int IntKind.i64 (-1 : Int)) [(false, Blk.vec Ty.body (Prod.fst x)), (true, Blk.box [SV.int IntKind.i64 (Prod.fst (Prod.snd x))])])) := by kernel_rfl

theorem ok_idxPlace : FsOk Tryz.prog 114 fs_idxPlace := fsOk_of tt_ok (tabFs_cons ok_notAhead tabFs_nil) mixed Tryz.func114 (by kernel_rfl) (by kernel_rfl) (by
    intro args LL p r HH h hp
    unfold fs_idxPlace at h
    dsimp only at h
    split at h
    case h_2 => cases h
    rename_i xs id
    simp only [Option.some.injEq, Prod.mk.injEq] at h
    obtain ⟨rfl, rfl, rfl⟩ := h
    refine ⟨by simp [Form, stays], (L_idxPlace), ?_⟩
    rw [vc_idxPlace]
    try dsimp only
    have hb := hp _ rfl
    refine ⟨⟨(by trivial), (by trivial), (by trivial), by omega, by omega, fun k hk => absurd hk (by simp)⟩, ?_⟩
    rintro ⟨xs', id', u, f, n, i⟩ ⟨h⟩
    dsimp only at h ⊢
    obtain ⟨rfl, rfl, rfl, h0, h1, h3⟩ := h
    refine ifB_of (fun c => ?_) (fun c => ?_)
    · have hi : i < xs'.length := of_decide_eq_true c
      have e1 : (i + 1).toNat = i.toNat + 1 := by omega
      refine ⟨⟨h0, hi⟩, ifB_of (fun c1 => ?_) (fun c1 => ?_)⟩
      · rw [firstI_at (T := .body) (p := fun y : Body => decide (y.Id ≥ id')) (i := i.toNat) (by omega) c1 h3]
        refine ⟨?_, (by trivial)⟩
        congr 1
        omega
      · simp (disch := omega) only [wrap_small, e1]
        refine ⟨⟨(by trivial), (by trivial), (by trivial), by omega, by omega, fun k hk => ?_⟩, by omega⟩
        by_cases e : k = i.toNat
        · rw [e]; exact c1
        · exact h3 k (by omega)
    · have hi : ¬ i < xs'.length := of_decide_eq_false c
      rw [firstI_no (T := .body) (p := fun y : Body => decide (y.Id ≥ id')) fun k hk => h3 k (by omega)]
      exact ⟨rfl, rfl⟩)

theorem firstI_place (xs : List Body) (id : Int) : firstI (fun y : Body => decide (y.Id ≥ id)) xs = bif decide (atB xs id < xs.length) then (atB xs id : Int) else -1 := by
  obtain ⟨k1, k2, k3⟩ := pref_spec (T := .body) (p := fun y : Body => decide (y.Id < id)) xs
  change atB xs id ≤ xs.length at k1
  change ∀ e, e < atB xs id → decide ((Ty.ix .body xs e).Id < id) = true at k2
  change atB xs id < xs.length → decide ((Ty.ix .body xs (atB xs id)).Id < id) = false at k3
  cases hh : decide (atB xs id < xs.length) with
  | true =>
    have hlt := of_decide_eq_true hh
    have := of_decide_eq_false (k3 hlt)
    simp only [cond_true]
    refine firstI_at (T := .body) (p := fun y : Body => decide (y.Id ≥ id)) hlt (decide_eq_true (by omega)) fun e he => ?_
    have := of_decide_eq_true (k2 e he)
    exact decide_eq_false (by omega)
  | false =>
    have hlt := of_decide_eq_false hh
    simp only [cond_false]
    refine firstI_no (T := .body) (p := fun y : Body => decide (y.Id ≥ id)) fun e he => ?_
    have := of_decide_eq_true (k2 e (by omega))
    exact decide_eq_false (by omega)
noncomputable def fs_place : Fs := ⟨[], fun args H => match args, H with
  | [.vec 0, .int .i64 id], [(false, .vec .body xs)] => some ((some (xs.length ≤ 4611686018427387904)), .tup [.int .i64 (atB xs id), .bool (hasB xs id)], [(false, .vec .body xs)])
  | _, _ => none⟩

theorem vc_place (id : Int) (xs : List Body) (Q : SV → List Ent → Prop) :
    fnVC tt (look [(114, fs_idxPlace)]) L0 Tryz.f80 [.vec 0, .int .i64 id] [(false, .vec .body xs)] Q =
    (List.length xs ≤ (4611686018427387904 : Nat) ∧ ifB (decide (firstI (fun y => decide (Body.Id y ≥ id)) xs < (0 : Int))) (Q (SV.tup [SV.int IntKind.i64 (↑(List.length xs) : Int), SV.bool false]) [(false, Blk.vec Ty.body xs)]) (((0 : Int) ≤ firstI (fun y => decide (Body.Id y ≥ id)) xs ∧ firstI (fun y => decide (Body.Id y ≥ id)) xs < (↑(List.length xs) : Int)) ∧ Q (SV.tup [SV.int IntKind.i64 (firstI (fun y => decide (Body.Id y ≥ id)) xs), SV.bool (Body.Id (Ty.ix Ty.body xs (Int.toNat (firstI (fun y => decide (Body.Id y ≥ id)) xs))) == id)]) [(false, Blk.vec Ty.body xs)])) := by kernel_rfl

theorem ok_place : FsOk Tryz.prog 80 fs_place := fsOk_of tt_ok (tabFs_cons ok_idxPlace tabFs_nil) mixed Tryz.func80 (by kernel_rfl) (by kernel_rfl) (by
    intro args LL p r HH h hp
    unfold fs_place at h
    dsimp only at h
    split at h
    case h_2 => cases h
    rename_i id xs
    simp only [Option.some.injEq, Prod.mk.injEq] at h
    obtain ⟨rfl, rfl, rfl⟩ := h
    refine ⟨by simp [Form, stays], L0, ?_⟩
    rw [vc_place]
    try dsimp only
    have hb := hp _ rfl
    refine ⟨hb, ?_⟩
    rw [firstI_place]
    have hk := atB_le xs id
    unfold hasB
    cases hh : decide (atB xs id < xs.length) with
    | true =>
      have hlt := of_decide_eq_true hh
      simp only [cond_true]
      refine ifB_of (fun c => ?_) (fun c => ⟨by omega, ?_⟩)
      · have := of_decide_eq_true c
        omega
      · exact ⟨rfl, (by trivial)⟩
    | false =>
      have hlt := of_decide_eq_false hh
      simp only [cond_false]
      refine ifB_of (fun c => ?_) (fun c => ?_)
      · rw [show atB xs id = xs.length by omega]
        exact ⟨rfl, (by trivial)⟩
      · simp at c)


def ahead (a b : Pair) : Bool := decide (a.A < b.A) || a.A == b.A && decide (a.B < b.B)
noncomputable def fs_l10Ahead : Fs := ⟨[], fun args H => match args, H with
  | [.agg [.int .i64 aA, .int .i64 aB], .agg [.int .i64 bA, .int .i64 bB]], [] => some (none, .bool (ahead (Pair.mk aA aB) (Pair.mk bA bB)), [])
  | _, _ => none⟩

theorem vc_l10Ahead (aA : Int) (aB : Int) (bA : Int) (bB : Int) (Q : SV → List Ent → Prop) :
    fnVC tt (look []) L0 Tryz.f79 [.agg [.int .i64 aA, .int .i64 aB], .agg [.int .i64 bA, .int .i64 bB]] [] Q =
    (ifB (decide (aA < bA)) (Q (SV.bool true) []) (ifB (aA == bA) (Q (SV.bool (decide (aB < bB))) []) (Q (SV.bool false) []))) := by kernel_rfl

theorem ok_l10Ahead : FsOk Tryz.prog 79 fs_l10Ahead := fsOk_of tt_ok tabFs_nil mixed Tryz.func79 (by kernel_rfl) (by kernel_rfl) (by
    intro args LL p r HH h hp
    unfold fs_l10Ahead at h
    dsimp only at h
    split at h
    case h_2 => cases h
    rename_i aA aB bA bB
    simp only [Option.some.injEq, Prod.mk.injEq] at h
    obtain ⟨rfl, rfl, rfl⟩ := h
    refine ⟨by simp [Form, stays], L0, ?_⟩
    rw [vc_l10Ahead]
    try dsimp only

    repeat' (first | refine ifB_of (fun _ => ?_) (fun _ => ?_) | refine pre_of ?_ (fun _ => ?_))
    all_goals first
      | rfl
      | (simp only [W, ahead, *, cond_true, cond_false, Bool.true_and, Bool.false_and, Bool.and_true, Bool.and_false, Bool.not_true, Bool.not_false, and_self, true_and]; done)
      | (simp_all [W, ahead]; done)
      | (simp_all [W, ahead] <;> omega))

def pairAt (xs : List Body) (ps : List Pair) (i : Nat) : Bool :=
  hasB xs (Ty.ix .pair ps i).A && hasB xs (Ty.ix .pair ps i).B && decide ((Ty.ix .pair ps i).A < (Ty.ix .pair ps i).B) && (i == 0 || ahead (Ty.ix .pair ps (i - 1)) (Ty.ix .pair ps i))
def worldOk (t p : Int) (xs : List Body) (ps : List Pair) : Bool := isIn t 0 100000 && isIn p 0 2560 && bodiesOk xs && allTo (pairAt xs ps) ps.length
def LSspecWok  : LS where
  S := List Body × List Pair × (Int × Int) × Int
  live := [(1, [none]), (3, [none])]
  shape := fun s => ([.ptr 2 0 0, .int .i64 s.2.2.2], [(false, .vec .body s.1), (false, .vec .pair s.2.1), (true, .box [.int .i64 s.2.2.1.1, .int .i64 s.2.2.1.2, .vec 0, .vec 1])])
  get := fun v h => match v, h with
    | [.ptr 2 0 0, .int .i64 i], [(false, .vec .body xs), (false, .vec .pair ps), (true, .box [.int .i64 w_0, .int .i64 w_1, .vec 0, .vec 1])] => some (xs, ps, (w_0, w_1), i)
    | _, _ => none
  inv := fun s0 s => Holds (s.1 = s0.1 ∧ s.2.1 = s0.2.1 ∧ s.2.2.1 = s0.2.2.1 ∧ 0 ≤ s.2.2.2 ∧ s.2.2.2 ≤ s0.2.1.length ∧ allTo (pairAt s0.1 s0.2.1) s.2.2.2.toNat = true)
  mu := fun s => ((s.2.1.length : Int) - s.2.2.2).toNat
  ok := by
    intro v h s hg
    try dsimp only at hg
    split at hg <;> cases hg
    rfl

def L_specWok : Loops := fun n => match n with
  | 4 => some LSspecWok
  | _ => none
noncomputable def fs_specWorldOk : Fs := ⟨[], fun args H => match args, H with
  | [.agg [.int .i64 t, .int .i64 p, .vec 0, .vec 1]], [(false, .vec .body xs), (false, .vec .pair ps)] => some ((some (xs.length ≤ 1048576 ∧ ps.length ≤ 1048576)), .bool (worldOk t p xs ps), [(false, .vec .body xs), (false, .vec .pair ps)])
  | _, _ => none⟩

theorem vc_specWorldOk (t : Int) (p : Int) (xs : List Body) (ps : List Pair) (Q : SV → List Ent → Prop) :
    fnVC tt (look [(62, fs_l1In), (27, fs_specBodiesOk), (78, fs_l10At), (79, fs_l10Ahead)]) (L_specWok) Tryz.f35 [.agg [.int .i64 t, .int .i64 p, .vec 0, .vec 1]] [(false, .vec .body xs), (false, .vec .pair ps)] Q =
    (let w_ := IntKind.wrap IntKind.i64; let n_ := Int.toNat; ifB (!isIn t (0 : Int) (100000 : Int)) (Q (SV.bool false) [(false, Blk.vec Ty.body xs), (false, Blk.vec Ty.pair ps)]) (ifB (!isIn p (0 : Int) (2560 : Int)) (Q (SV.bool false) [(false, Blk.vec Ty.body xs), (false, Blk.vec Ty.pair ps)]) (List.length xs ≤ (4611686018427387904 : Nat) ∧ ifB (!bodiesOk xs) (Q (SV.bool false) [(false, Blk.vec Ty.body xs), (false, Blk.vec Ty.pair ps)]) (Holds (xs = xs ∧ ps = ps ∧ (t, p) = (t, p) ∧ (0 : Int) ≤ (0 : Int) ∧ (0 : Int) ≤ (↑(List.length ps) : Int) ∧ allTo (pairAt xs ps) (n_ (0 : Int)) = true) ∧ ∀ (y1 : List Body × List Pair × (Int × Int) × Int), let y1f0_ := Prod.fst y1; let y1s1_ := Prod.snd y1; let y1f1_ := Prod.fst (Prod.snd y1); let y1s2_ := Prod.snd (Prod.snd y1); let y1f2_ := Prod.fst (Prod.snd (Prod.snd y1)); let y1s3_ := Prod.snd (Prod.snd (Prod.snd y1)); let A6_ := (false, Blk.vec Ty.pair y1f1_); let A5_ := (false, Blk.vec Ty.body y1f0_); let A4_ := (Ty.ix Ty.pair y1f1_ (n_ y1s3_)); let A3_ := (↑(List.length y1f1_) : Int); let A2_ := (Prod.snd y1s2_ + (1 : Int)); Holds (Prod.fst y1 = xs ∧ y1f1_ = ps ∧ y1f2_ = (t, p) ∧ (0 : Int) ≤ y1s3_ ∧ y1s3_ ≤ (↑(List.length ps) : Int) ∧ allTo (pairAt xs ps) (n_ y1s3_) = true) → ifB (decide (Prod.snd y1s2_ < A3_)) (((0 : Int) ≤ y1s3_ ∧ y1s3_ < A3_) ∧ List.length y1f0_ ≤ (4611686018427387904 : Nat) ∧ List.length y1f0_ ≤ (4611686018427387904 : Nat) ∧ ifB (!hasB y1f0_ (Pair.A A4_)) (Q (SV.bool false) [A5_, A6_]) (ifB (!hasB y1f0_ (Pair.B A4_)) (Q (SV.bool false) [A5_, A6_]) (ifB (decide (Pair.A A4_ ≥ Pair.B A4_)) (Q (SV.bool false) [A5_, A6_]) (ifB (decide (Prod.snd y1s2_ > (0 : Int))) (((0 : Int) ≤ w_ (Prod.snd y1s2_ - (1 : Int)) ∧ w_ (Prod.snd y1s2_ - (1 : Int)) < A3_) ∧ ifB (!ahead (Ty.ix Ty.pair y1f1_ (n_ (w_ (Prod.snd y1s2_ - (1 : Int))))) A4_) (Q (SV.bool false) [A5_, A6_]) (Holds (Prod.fst y1 = xs ∧ y1f1_ = ps ∧ y1f2_ = (t, p) ∧ (0 : Int) ≤ w_ A2_ ∧ w_ A2_ ≤ (↑(List.length ps) : Int) ∧ allTo (pairAt xs ps) (n_ (w_ A2_)) = true) ∧ n_ (A3_ - w_ A2_) < n_ (A3_ - y1s3_))) (Holds (Prod.fst y1 = xs ∧ y1f1_ = ps ∧ y1f2_ = (t, p) ∧ (0 : Int) ≤ w_ A2_ ∧ w_ A2_ ≤ (↑(List.length ps) : Int) ∧ allTo (pairAt xs ps) (n_ (w_ A2_)) = true) ∧ n_ (A3_ - w_ A2_) < n_ (A3_ - y1s3_)))))) (Q (SV.bool true) [A5_, A6_]))))) := by kernel_rfl

theorem ok_specWorldOk : FsOk Tryz.prog 35 fs_specWorldOk := fsOk_of tt_ok (tabFs_cons ok_l1In (tabFs_cons ok_specBodiesOk (tabFs_cons ok_l10At (tabFs_cons ok_l10Ahead tabFs_nil)))) mixed Tryz.func35 (by kernel_rfl) (by kernel_rfl) (by
    intro args LL p r HH h hp
    unfold fs_specWorldOk at h
    dsimp only at h
    split at h
    case h_2 => cases h
    rename_i t p xs ps
    simp only [Option.some.injEq, Prod.mk.injEq] at h
    obtain ⟨rfl, rfl, rfl⟩ := h
    refine ⟨by simp [Form, stays], (L_specWok), ?_⟩
    rw [vc_specWorldOk]
    try dsimp only
    obtain ⟨hb, hb2⟩ := hp _ rfl
    refine ifB_of (fun c => ?_) (fun c => ifB_of (fun c2 => ?_) (fun c2 => ⟨by omega, ifB_of (fun c3 => ?_) (fun c3 => ⟨⟨(by trivial), (by trivial), (by trivial), by omega, by omega, rfl⟩, ?_⟩)⟩))
    · simp [worldOk, not_true c]
    · simp [worldOk, not_true c2]
    · simp [worldOk, not_true c3]
    rintro ⟨xs', ps', w, i⟩ ⟨h⟩
    dsimp only at h ⊢
    obtain ⟨rfl, rfl, rfl, h0, h1, h2⟩ := h
    refine ifB_of (fun c4 => ?_) (fun c4 => ?_)
    · have hi : i < ps'.length := of_decide_eq_true c4
      have hw1 : IntKind.i64.wrap (i + 1) = i + 1 := wrap_small (by omega) (by omega)
      have hw2 : IntKind.i64.wrap (i - 1) = i - 1 := wrap_small (by omega) (by omega)
      have e1 : (i + 1).toNat = i.toNat + 1 := by omega
      have e2 : (i - 1).toNat = i.toNat - 1 := by omega
      have fl : pairAt xs' ps' i.toNat = false → worldOk t p xs' ps' = false := fun h => by simp [worldOk, allTo_false h (show i.toNat < ps'.length by omega)]
      have nx : pairAt xs' ps' i.toNat = true → allTo (pairAt xs' ps') (i.toNat + 1) = true := fun h => by simp [allTo, h2, h]
      rw [hw1, hw2, e1, e2]
      refine ⟨⟨h0, hi⟩, by omega, by omega, ifB_of (fun d1 => ?_) (fun d1 => ifB_of (fun d2 => ?_) (fun d2 => ifB_of (fun d3 => ?_) (fun d3 => ifB_of (fun d4 => ?_) (fun d4 => ?_))))⟩
      · rw [fl (by simp [pairAt, not_true d1])]
        exact ⟨rfl, rfl⟩
      · rw [fl (by simp [pairAt, not_true d2])]
        exact ⟨rfl, rfl⟩
      · have d3' : decide ((Ty.ix .pair ps' i.toNat).A < (Ty.ix .pair ps' i.toNat).B) = false := decide_eq_false (by have := of_decide_eq_true d3; omega)
        rw [fl (by simp only [pairAt, d3', Bool.and_false, Bool.false_and])]
        exact ⟨rfl, rfl⟩
      · have d3' : decide ((Ty.ix .pair ps' i.toNat).A < (Ty.ix .pair ps' i.toNat).B) = true := decide_eq_true (by have := of_decide_eq_false d3; omega)
        have d4 := of_decide_eq_true d4
        have hz : (i.toNat == 0) = false := by simp; omega
        have pa : pairAt xs' ps' i.toNat = ahead (Ty.ix .pair ps' (i.toNat - 1)) (Ty.ix .pair ps' i.toNat) := by simp only [pairAt, not_false d1, not_false d2, d3', hz, Bool.true_and, Bool.false_or]
        rw [pa] at fl nx
        refine ⟨⟨by omega, by omega⟩, ifB_of (fun d5 => ?_) (fun d5 => ?_)⟩
        · rw [fl (not_true d5)]
          exact ⟨rfl, rfl⟩
        · exact ⟨⟨(by trivial), (by trivial), (by trivial), by omega, by omega, nx (not_false d5)⟩, by omega⟩
      · have d3' : decide ((Ty.ix .pair ps' i.toNat).A < (Ty.ix .pair ps' i.toNat).B) = true := decide_eq_true (by have := of_decide_eq_false d3; omega)
        have d4 := of_decide_eq_false d4
        have hz : (i.toNat == 0) = true := by simp; omega
        exact ⟨⟨(by trivial), (by trivial), (by trivial), by omega, by omega, nx (by simp only [pairAt, not_false d1, not_false d2, d3', hz, Bool.true_and, Bool.true_or])⟩, by omega⟩
    · have hi : ¬ i < ps'.length := of_decide_eq_false c4
      have e1 : i.toNat = ps'.length := by omega
      rw [e1] at h2
      simp [worldOk, not_false c, not_false c2, not_false c3, h2])

def LSimplWok  : LS where
  S := List Body × List Pair × (Int × Int) × Unit × Int × Int
  live := [(1, [none]), (26, [none]), (27, [none]), (28, [none])]
  shape := fun s => ([.ptr 2 0 0, .vec 1, .int .i64 s.2.2.2.2.1, .int .i64 s.2.2.2.2.2], [(false, .vec .body s.1), (false, .vec .pair s.2.1), (true, .box [.int .i64 s.2.2.1.1, .int .i64 s.2.2.1.2, .vec 0, .vec 1])])
  get := fun v h => match v, h with
    | [.ptr 2 0 0, .vec 1, .int .i64 n, .int .i64 i], [(false, .vec .body xs), (false, .vec .pair ps), (true, .box [.int .i64 w_0, .int .i64 w_1, .vec 0, .vec 1])] => some (xs, ps, (w_0, w_1), (), n, i)
    | _, _ => none
  inv := fun s0 s => Holds (s.1 = s0.1 ∧ s.2.1 = s0.2.1 ∧ s.2.2.1 = s0.2.2.1 ∧ s.2.2.2.2.1 = s0.2.1.length ∧ 0 ≤ s.2.2.2.2.2 ∧ s.2.2.2.2.2 ≤ s0.2.1.length ∧ allTo (pairAt s0.1 s0.2.1) s.2.2.2.2.2.toNat = true)
  mu := fun s => ((s.2.1.length : Int) - s.2.2.2.2.2).toNat
  ok := by
    intro v h s hg
    try dsimp only at hg
    split at hg <;> cases hg
    rfl

def L_implWok : Loops := fun n => match n with
  | 4 => some LSimplWok
  | _ => none
noncomputable def fs_implWorldOk : Fs := ⟨[], fun args H => match args, H with
  | [.agg [.int .i64 t, .int .i64 p, .vec 0, .vec 1]], [(false, .vec .body xs), (false, .vec .pair ps)] => some ((some (xs.length ≤ 1048576 ∧ ps.length ≤ 1048576)), .bool (worldOk t p xs ps), [(false, .vec .body xs), (false, .vec .pair ps)])
  | _, _ => none⟩

theorem vc_implWorldOk (t : Int) (p : Int) (xs : List Body) (ps : List Pair) (Q : SV → List Ent → Prop) :
    fnVC tt (look [(52, fs_in_), (47, fs_implBodiesOk), (80, fs_place)]) (L_implWok) Tryz.f36 [.agg [.int .i64 t, .int .i64 p, .vec 0, .vec 1]] [(false, .vec .body xs), (false, .vec .pair ps)] Q =
    (let w_ := IntKind.wrap IntKind.i64; let n_ := Int.toNat; ifB (!isIn t (0 : Int) (100000 : Int)) (Q (SV.bool false) [(false, Blk.vec Ty.body xs), (false, Blk.vec Ty.pair ps)]) (ifB (!isIn p (0 : Int) (2560 : Int)) (Q (SV.bool false) [(false, Blk.vec Ty.body xs), (false, Blk.vec Ty.pair ps)]) (List.length xs ≤ (4611686018427387904 : Nat) ∧ ifB (!bodiesOk xs) (Q (SV.bool false) [(false, Blk.vec Ty.body xs), (false, Blk.vec Ty.pair ps)]) (Holds (xs = xs ∧ ps = ps ∧ (t, p) = (t, p) ∧ (↑(List.length ps) : Int) = (↑(List.length ps) : Int) ∧ (0 : Int) ≤ (0 : Int) ∧ (0 : Int) ≤ (↑(List.length ps) : Int) ∧ allTo (pairAt xs ps) (n_ (0 : Int)) = true) ∧ ∀ (y1 : List Body × List Pair × (Int × Int) × Unit × Int × Int), let y1f0_ := Prod.fst y1; let y1s1_ := Prod.snd y1; let y1f1_ := Prod.fst (Prod.snd y1); let y1f2_ := Prod.fst (Prod.snd (Prod.snd y1)); let y1s4_ := Prod.snd (Prod.snd (Prod.snd (Prod.snd y1))); let y1f4_ := Prod.fst (Prod.snd (Prod.snd (Prod.snd (Prod.snd y1)))); let y1s5_ := Prod.snd (Prod.snd (Prod.snd (Prod.snd (Prod.snd y1)))); let A8_ := (false, Blk.vec Ty.pair y1f1_); let A7_ := (false, Blk.vec Ty.body y1f0_); let A6_ := (↑(List.length ps) : Int); let A5_ := (Prod.snd y1s4_ - (1 : Int)); let A9_ := (Ty.ix Ty.pair y1f1_ (n_ (w_ A5_))); let A4_ := (Ty.ix Ty.pair y1f1_ (n_ y1s5_)); let A3_ := (↑(List.length y1f1_) : Int); let A2_ := (Prod.snd y1s4_ + (1 : Int)); Holds (Prod.fst y1 = xs ∧ y1f1_ = ps ∧ y1f2_ = (t, p) ∧ y1f4_ = A6_ ∧ (0 : Int) ≤ y1s5_ ∧ y1s5_ ≤ A6_ ∧ allTo (pairAt xs ps) (n_ y1s5_) = true) → ifB (decide (Prod.snd y1s4_ < y1f4_)) (((0 : Int) ≤ y1s5_ ∧ y1s5_ < A3_) ∧ List.length y1f0_ ≤ (4611686018427387904 : Nat) ∧ List.length y1f0_ ≤ (4611686018427387904 : Nat) ∧ ifB (!hasB y1f0_ (Pair.A A4_)) (Q (SV.bool false) [A7_, A8_]) (ifB (!hasB y1f0_ (Pair.B A4_)) (Q (SV.bool false) [A7_, A8_]) (ifB (decide (Pair.A A4_ ≥ Pair.B A4_)) (Q (SV.bool false) [A7_, A8_]) (ifB (decide (Prod.snd y1s4_ > (0 : Int))) (((0 : Int) ≤ w_ A5_ ∧ w_ A5_ < A3_) ∧ ifB (decide (Pair.A A4_ < Pair.A A9_)) (Q (SV.bool false) [A7_, A8_]) (((0 : Int) ≤ w_ A5_ ∧ w_ A5_ < A3_) ∧ ifB (Pair.A A4_ == Pair.A A9_) (((0 : Int) ≤ w_ A5_ ∧ w_ A5_ < A3_) ∧ ifB (decide (Pair.B A4_ ≤ Pair.B A9_)) (Q (SV.bool false) [A7_, A8_]) (Holds (Prod.fst y1 = xs ∧ y1f1_ = ps ∧ y1f2_ = (t, p) ∧ y1f4_ = A6_ ∧ (0 : Int) ≤ w_ A2_ ∧ w_ A2_ ≤ A6_ ∧ allTo (pairAt xs ps) (n_ (w_ A2_)) = true) ∧ n_ (A3_ - w_ A2_) < n_ (A3_ - y1s5_))) (Holds (Prod.fst y1 = xs ∧ y1f1_ = ps ∧ y1f2_ = (t, p) ∧ y1f4_ = A6_ ∧ (0 : Int) ≤ w_ A2_ ∧ w_ A2_ ≤ A6_ ∧ allTo (pairAt xs ps) (n_ (w_ A2_)) = true) ∧ n_ (A3_ - w_ A2_) < n_ (A3_ - y1s5_)))) (Holds (Prod.fst y1 = xs ∧ y1f1_ = ps ∧ y1f2_ = (t, p) ∧ y1f4_ = A6_ ∧ (0 : Int) ≤ w_ A2_ ∧ w_ A2_ ≤ A6_ ∧ allTo (pairAt xs ps) (n_ (w_ A2_)) = true) ∧ n_ (A3_ - w_ A2_) < n_ (A3_ - y1s5_)))))) (Q (SV.bool true) [A7_, A8_]))))) := by kernel_rfl

theorem ok_implWorldOk : FsOk Tryz.prog 36 fs_implWorldOk := fsOk_of tt_ok (tabFs_cons ok_in_ (tabFs_cons ok_implBodiesOk (tabFs_cons ok_place tabFs_nil))) mixed Tryz.func36 (by kernel_rfl) (by kernel_rfl) (by
    intro args LL p r HH h hp
    unfold fs_implWorldOk at h
    dsimp only at h
    split at h
    case h_2 => cases h
    rename_i t p xs ps
    simp only [Option.some.injEq, Prod.mk.injEq] at h
    obtain ⟨rfl, rfl, rfl⟩ := h
    refine ⟨by simp [Form, stays], (L_implWok), ?_⟩
    rw [vc_implWorldOk]
    try dsimp only
    obtain ⟨hb, hb2⟩ := hp _ rfl
    refine ifB_of (fun c => ?_) (fun c => ifB_of (fun c2 => ?_) (fun c2 => ⟨by omega, ifB_of (fun c3 => ?_) (fun c3 => ⟨⟨(by trivial), (by trivial), (by trivial), (by trivial), by omega, by omega, rfl⟩, ?_⟩)⟩))
    · simp [worldOk, not_true c]
    · simp [worldOk, not_true c2]
    · simp [worldOk, not_true c3]
    rintro ⟨xs', ps', w, v, n, i⟩ ⟨h⟩
    dsimp only at h ⊢
    obtain ⟨rfl, rfl, rfl, rfl, h0, h1, h2⟩ := h
    refine ifB_of (fun c4 => ?_) (fun c4 => ?_)
    · have hi : i < ps'.length := of_decide_eq_true c4
      have hw1 : IntKind.i64.wrap (i + 1) = i + 1 := wrap_small (by omega) (by omega)
      have hw2 : IntKind.i64.wrap (i - 1) = i - 1 := wrap_small (by omega) (by omega)
      have e1 : (i + 1).toNat = i.toNat + 1 := by omega
      have e2 : (i - 1).toNat = i.toNat - 1 := by omega
      have fl : pairAt xs' ps' i.toNat = false → worldOk t p xs' ps' = false := fun h => by simp [worldOk, allTo_false h (show i.toNat < ps'.length by omega)]
      have nx : pairAt xs' ps' i.toNat = true → allTo (pairAt xs' ps') (i.toNat + 1) = true := fun h => by simp [allTo, h2, h]
      rw [hw1, hw2, e1, e2]
      refine ⟨⟨h0, hi⟩, by omega, by omega, ifB_of (fun d1 => ?_) (fun d1 => ifB_of (fun d2 => ?_) (fun d2 => ifB_of (fun d3 => ?_) (fun d3 => ifB_of (fun d4 => ?_) (fun d4 => ?_))))⟩
      · rw [fl (by simp [pairAt, not_true d1])]
        exact ⟨rfl, rfl⟩
      · rw [fl (by simp [pairAt, not_true d2])]
        exact ⟨rfl, rfl⟩
      · have d3' : decide ((Ty.ix .pair ps' i.toNat).A < (Ty.ix .pair ps' i.toNat).B) = false := decide_eq_false (by have := of_decide_eq_true d3; omega)
        rw [fl (by simp only [pairAt, d3', Bool.and_false, Bool.false_and])]
        exact ⟨rfl, rfl⟩
      · have d3' : decide ((Ty.ix .pair ps' i.toNat).A < (Ty.ix .pair ps' i.toNat).B) = true := decide_eq_true (by have := of_decide_eq_false d3; omega)
        have d4 := of_decide_eq_true d4
        have hz : (i.toNat == 0) = false := by simp; omega
        have pa : pairAt xs' ps' i.toNat = ahead (Ty.ix .pair ps' (i.toNat - 1)) (Ty.ix .pair ps' i.toNat) := by simp only [pairAt, not_false d1, not_false d2, d3', hz, Bool.true_and, Bool.false_or]
        rw [pa] at fl nx
        unfold ahead at fl nx
        refine ⟨⟨by omega, by omega⟩, ifB_of (fun d5 => ?_) (fun d5 => ⟨⟨by omega, by omega⟩, ifB_of (fun d6 => ⟨⟨by omega, by omega⟩, ifB_of (fun d7 => ?_) (fun d7 => ?_)⟩) (fun d6 => ?_)⟩)⟩
        · have d5 := of_decide_eq_true d5
          rw [fl (by simp; omega)]
          exact ⟨rfl, rfl⟩
        · have d5 := of_decide_eq_false d5
          have d7 := of_decide_eq_true d7
          simp only [beq_iff_eq] at d6
          rw [fl (by simp; omega)]
          exact ⟨rfl, rfl⟩
        · have d5 := of_decide_eq_false d5
          have d7 := of_decide_eq_false d7
          simp only [beq_iff_eq] at d6
          exact ⟨⟨(by trivial), (by trivial), (by trivial), (by trivial), by omega, by omega, nx (by simp; omega)⟩, by omega⟩
        · have d5 := of_decide_eq_false d5
          simp only [beq_eq_false_iff_ne] at d6
          exact ⟨⟨(by trivial), (by trivial), (by trivial), (by trivial), by omega, by omega, nx (by simp; omega)⟩, by omega⟩
      · have d3' : decide ((Ty.ix .pair ps' i.toNat).A < (Ty.ix .pair ps' i.toNat).B) = true := decide_eq_true (by have := of_decide_eq_false d3; omega)
        have d4 := of_decide_eq_false d4
        have hz : (i.toNat == 0) = true := by simp; omega
        exact ⟨⟨(by trivial), (by trivial), (by trivial), (by trivial), by omega, by omega, nx (by simp only [pairAt, not_false d1, not_false d2, d3', hz, Bool.true_and, Bool.true_or])⟩, by omega⟩
    · have hi : ¬ i < ps'.length := of_decide_eq_false c4
      have e1 : i.toNat = ps'.length := by omega
      rw [e1] at h2
      simp [worldOk, not_false c, not_false c2, not_false c3, h2])


end Go.Proofs.YtnahfbjdicjdpaaGreat.Sym

namespace Go.Proofs.YtnahfbjdicjdpaaGreat.Sym
open Go
set_option linter.unusedVariables false
set_option linter.unusedSimpArgs false
set_option maxRecDepth 100000

theorem worldOk_bodies {t p : Int} {xs : List Body} {ps : List Pair} (h : worldOk t p xs ps = true) : bodiesOk xs = true := by
  simp only [worldOk, Bool.and_eq_true] at h
  exact h.1.2
end Go.Proofs.YtnahfbjdicjdpaaGreat.Sym

namespace Go.Proofs.YtnahfbjdicjdpaaGreat.Sym
open Go
set_option linter.unusedVariables false
set_option linter.unusedSimpArgs false
set_option maxRecDepth 100000

noncomputable def fs_clonePairs : Fs := ⟨[], fun args H => match args, H with
  | [.vec 0], [(false, .vec .pair xs)] => some ((some (xs.length ≤ 1048576)), .vec 1, [(false, .vec .pair xs), (true, .vec .pair xs)])
  | _, _ => none⟩

theorem vc_clonePairs (xs : List Pair) (Q : SV → List Ent → Prop) :
    fnVC tt (look []) L0 Tryz.f116 [.vec 0] [(false, .vec .pair xs)] Q =
    (∀ (b : Bool), (b = true → List.length xs = (0 : Nat)) → ifB b (Q (SV.vec (1 : Nat)) [(false, Blk.vec Ty.pair xs), (true, Blk.vec Ty.pair [])]) (((0 : Nat) + List.length xs) * (16 : Nat) ≤ room ∧ Q (SV.vec (1 : Nat)) [(false, Blk.vec Ty.pair xs), (true, Blk.vec Ty.pair ([] ++ xs))])) := by kernel_rfl

theorem ok_clonePairs : FsOk Tryz.prog 116 fs_clonePairs := fsOk_of tt_ok tabFs_nil mixed Tryz.func116 (by kernel_rfl) (by kernel_rfl) (by
    intro args LL p r HH h hp
    unfold fs_clonePairs at h
    dsimp only at h
    split at h
    case h_2 => cases h
    rename_i xs
    simp only [Option.some.injEq, Prod.mk.injEq] at h
    obtain ⟨rfl, rfl, rfl⟩ := h
    refine ⟨by simp [Form, stays], L0, ?_⟩
    rw [vc_clonePairs]
    try dsimp only
    have hb := hp _ rfl
    intro z hz
    refine ifB_of (fun c => ?_) (fun c => ⟨by simp only [room]; omega, ?_⟩)
    · have := List.length_eq_zero_iff.1 (hz c)
      subst this
      exact ⟨rfl, rfl⟩
    · simp)

noncomputable def fs_specCopyW : Fs := ⟨[], fun args H => match args, H with
  | [.agg [.int .i64 t, .int .i64 p, .vec 0, .vec 1]], [(false, .vec .body xs), (false, .vec .pair ps)] => some ((some (xs.length ≤ 1048576 ∧ ps.length ≤ 1048576)), .agg [.int .i64 t, .int .i64 p, .vec 2, .vec 3], [(false, .vec .body xs), (false, .vec .pair ps), (true, .vec .body xs), (true, .vec .pair ps)])
  | _, _ => none⟩

theorem vc_specCopyW (t : Int) (p : Int) (xs : List Body) (ps : List Pair) (Q : SV → List Ent → Prop) :
    fnVC tt (look [(67, fs_specCopyB)]) L0 Tryz.f75 [.agg [.int .i64 t, .int .i64 p, .vec 0, .vec 1]] [(false, .vec .body xs), (false, .vec .pair ps)] Q =
    (List.length xs ≤ (1048576 : Nat) ∧ ((0 : Nat) + List.length ps) * (16 : Nat) ≤ room ∧ Q (SV.agg [SV.int IntKind.i64 t, SV.int IntKind.i64 p, SV.vec (2 : Nat), SV.vec (3 : Nat)]) [(false, Blk.vec Ty.body xs), (false, Blk.vec Ty.pair ps), (true, Blk.vec Ty.body xs), (true, Blk.vec Ty.pair ([] ++ ps))]) := by kernel_rfl

theorem ok_specCopyW : FsOk Tryz.prog 75 fs_specCopyW := fsOk_of tt_ok (tabFs_cons ok_specCopyB tabFs_nil) mixed Tryz.func75 (by kernel_rfl) (by kernel_rfl) (by
    intro args LL p r HH h hp
    unfold fs_specCopyW at h
    dsimp only at h
    split at h
    case h_2 => cases h
    rename_i t p xs ps
    simp only [Option.some.injEq, Prod.mk.injEq] at h
    obtain ⟨rfl, rfl, rfl⟩ := h
    refine ⟨by simp [Form, stays], L0, ?_⟩
    rw [vc_specCopyW]
    try dsimp only
    obtain ⟨hb, hb2⟩ := hp _ rfl
    refine ⟨hb, by simp only [room]; omega, ?_⟩
    simp)

noncomputable def fs_implCopyW : Fs := ⟨[], fun args H => match args, H with
  | [.agg [.int .i64 t, .int .i64 p, .vec 0, .vec 1]], [(false, .vec .body xs), (false, .vec .pair ps)] => some ((some (xs.length ≤ 1048576 ∧ ps.length ≤ 1048576)), .agg [.int .i64 t, .int .i64 p, .vec 2, .vec 3], [(false, .vec .body xs), (false, .vec .pair ps), (true, .vec .body xs), (true, .vec .pair ps)])
  | _, _ => none⟩

theorem vc_implCopyW (t : Int) (p : Int) (xs : List Body) (ps : List Pair) (Q : SV → List Ent → Prop) :
    fnVC tt (look [(53, fs_cloneBodies), (116, fs_clonePairs)]) L0 Tryz.f73 [.agg [.int .i64 t, .int .i64 p, .vec 0, .vec 1]] [(false, .vec .body xs), (false, .vec .pair ps)] Q =
    (List.length xs ≤ (1048576 : Nat) ∧ List.length ps ≤ (1048576 : Nat) ∧ Q (SV.agg [SV.int IntKind.i64 t, SV.int IntKind.i64 p, SV.vec (2 : Nat), SV.vec (3 : Nat)]) [(false, Blk.vec Ty.body xs), (false, Blk.vec Ty.pair ps), (true, Blk.vec Ty.body xs), (true, Blk.vec Ty.pair ps)]) := by kernel_rfl

theorem ok_implCopyW : FsOk Tryz.prog 73 fs_implCopyW := fsOk_of tt_ok (tabFs_cons ok_cloneBodies (tabFs_cons ok_clonePairs tabFs_nil)) mixed Tryz.func73 (by kernel_rfl) (by kernel_rfl) (by
    intro args LL p r HH h hp
    unfold fs_implCopyW at h
    dsimp only at h
    split at h
    case h_2 => cases h
    rename_i t p xs ps
    simp only [Option.some.injEq, Prod.mk.injEq] at h
    obtain ⟨rfl, rfl, rfl⟩ := h
    refine ⟨by simp [Form, stays], L0, ?_⟩
    rw [vc_implCopyW]
    try dsimp only
    obtain ⟨hb, hb2⟩ := hp _ rfl
    exact ⟨hb, hb2, (by trivial), (by trivial)⟩)

def orI (ok : Bool) (n : Int) : Int := bif ok then n else 0
def orL {α : Type} (ok : Bool) (xs : List α) : List α := bif ok then xs else []
end Go.Proofs.YtnahfbjdicjdpaaGreat.Sym

namespace Go.Proofs.YtnahfbjdicjdpaaGreat.Sym
open Go
set_option linter.unusedVariables false
set_option linter.unusedSimpArgs false
set_option maxRecDepth 100000
noncomputable section

def evs (b : Bool) (ps : List Pair) : List Event := ps.map fun q => ⟨b, q⟩
theorem evs_drop {b : Bool} {ps : List Pair} {i : Nat} (h : i < ps.length) : evs b (ps.drop i) = ⟨b, Ty.ix .pair ps i⟩ :: evs b (ps.drop (i + 1)) := by
  rw [drop_ix (T := .pair) h]
  rfl
theorem length_evs (b : Bool) (ps : List Pair) : (evs b ps).length = ps.length := by simp [evs]
def stepEvs (was now : List Pair) : List Event := evs false (newF now was) ++ evs true (newF was now)
def stepTick (ok : Bool) (t : Int) : Int := bif ok then bif t == 100000 then t else W (t + 1) else 0
def stepBodies (ok : Bool) (t p : Int) (xs : List Body) : List Body := bif ok then bif t == 100000 then xs else stepOf xs p else []
def stepPs (ok : Bool) (t p : Int) (xs : List Body) (ps : List Pair) : List Pair := bif ok then bif t == 100000 then ps else stepPairs (stepOf xs p) else []
def stepEs (ok : Bool) (t p : Int) (xs : List Body) (ps : List Pair) : List Event := bif ok then bif t == 100000 then [] else stepEvs ps (stepPairs (stepOf xs p)) else []
theorem length_stepOf (xs : List Body) (pull : Int) : (stepOf xs pull).length ≤ 12 := by
  unfold stepOf
  cases q : bodiesOk xs && isIn pull 0 2560 with
  | true =>
    rw [Bool.and_eq_true] at q
    have := bodiesOk_len q.1
    simp only [cond_true, stepF, length_settleF, length_mapX, length_apartF, length_pushAllF]
    exact this
  | false => simp
def LSws1  : LS where
  S := List Body × List Pair × (Int × Int) × (Int × Int) × (Int × Int × List Body × List Pair) × List Event × List Pair × Int × Int
  live := [(1, [none]), (2, [none]), (4, [none]), (5, [some .event]), (38, [some .pair]), (39, [none]), (40, [none])]
  shape := fun s => ([.ptr 2 0 0, .ptr 3 0 0, .ptr 6 0 0, .vec 7, .vec 8, .int .i64 s.2.2.2.2.2.2.2.1, .int .i64 s.2.2.2.2.2.2.2.2], [(false, .vec .body s.1), (false, .vec .pair s.2.1), (true, .box [.int .i64 s.2.2.1.1, .int .i64 s.2.2.1.2, .vec 0, .vec 1]), (true, .box [.int .i64 s.2.2.2.1.1, .int .i64 s.2.2.2.1.2, .nilsl, .nilsl]), (true, .vec .body s.2.2.2.2.1.2.2.1), (true, .vec .pair s.2.2.2.2.1.2.2.2), (true, .box [.int .i64 s.2.2.2.2.1.1, .int .i64 s.2.2.2.2.1.2.1, .vec 4, .vec 5]), (true, .vec .event s.2.2.2.2.2.1), (true, .vec .pair s.2.2.2.2.2.2.1)])
  get := fun v h => match v, h with
    | [.ptr 2 0 0, .ptr 3 0 0, .ptr 6 0 0, .vec 7, .vec 8, .int .i64 n, .int .i64 i], [(false, .vec .body xs), (false, .vec .pair ps), (true, .box [.int .i64 w_0, .int .i64 w_1, .vec 0, .vec 1]), (true, .box [.int .i64 r_0, .int .i64 r_1, .nilsl, .nilsl]), (true, .vec .body v_2), (true, .vec .pair v_3), (true, .box [.int .i64 v_0, .int .i64 v_1, .vec 4, .vec 5]), (true, .vec .event out), (true, .vec .pair os)] => some (xs, ps, (w_0, w_1), (r_0, r_1), (v_0, v_1, v_2, v_3), out, os, n, i)
    | _, _ => none
  inv := fun s0 s => Holds (s.1 = s0.1 ∧ s.2.1 = s0.2.1 ∧ s.2.2.1 = s0.2.2.1 ∧ s.2.2.2.1 = s0.2.2.2.1 ∧ s.2.2.2.2.1 = s0.2.2.2.2.1 ∧ s.2.2.2.2.2.2.1 = s0.2.2.2.2.2.2.1 ∧ s.2.2.2.2.2.2.2.1 = s0.2.2.2.2.2.2.1.length ∧ 0 ≤ s.2.2.2.2.2.2.2.2 ∧ s.2.2.2.2.2.2.2.2 ≤ s0.2.2.2.2.2.2.1.length ∧ s.2.2.2.2.2.1 ++ evs false (s0.2.2.2.2.2.2.1.drop s.2.2.2.2.2.2.2.2.toNat) = evs false s0.2.2.2.2.2.2.1)
  mu := fun s => (s.2.2.2.2.2.2.2.1 - s.2.2.2.2.2.2.2.2).toNat
  ok := by
    intro v h s hg
    try dsimp only at hg
    split at hg <;> cases hg
    rfl

def LSws2  : LS where
  S := List Body × List Pair × (Int × Int) × (Int × Int × List Body × List Pair) × List Event × List Pair × Int × Int
  live := [(2, [none]), (4, [none]), (5, [some .event]), (54, [some .pair]), (55, [none]), (56, [none])]
  shape := fun s => ([.ptr 2 0 0, .ptr 5 0 0, .vec 6, .vec 7, .int .i64 s.2.2.2.2.2.2.1, .int .i64 s.2.2.2.2.2.2.2], [(false, .vec .body s.1), (false, .vec .pair s.2.1), (true, .box [.int .i64 s.2.2.1.1, .int .i64 s.2.2.1.2, .nilsl, .nilsl]), (true, .vec .body s.2.2.2.1.2.2.1), (true, .vec .pair s.2.2.2.1.2.2.2), (true, .box [.int .i64 s.2.2.2.1.1, .int .i64 s.2.2.2.1.2.1, .vec 3, .vec 4]), (true, .vec .event s.2.2.2.2.1), (true, .vec .pair s.2.2.2.2.2.1)])
  get := fun v h => match v, h with
    | [.ptr 2 0 0, .ptr 5 0 0, .vec 6, .vec 7, .int .i64 n, .int .i64 i], [(false, .vec .body xs), (false, .vec .pair ps), (true, .box [.int .i64 r_0, .int .i64 r_1, .nilsl, .nilsl]), (true, .vec .body v_2), (true, .vec .pair v_3), (true, .box [.int .i64 v_0, .int .i64 v_1, .vec 3, .vec 4]), (true, .vec .event out), (true, .vec .pair os)] => some (xs, ps, (r_0, r_1), (v_0, v_1, v_2, v_3), out, os, n, i)
    | _, _ => none
  inv := fun s0 s => Holds (s.1 = s0.1 ∧ s.2.1 = s0.2.1 ∧ s.2.2.1 = s0.2.2.1 ∧ s.2.2.2.1 = s0.2.2.2.1 ∧ s.2.2.2.2.2.1 = s0.2.2.2.2.2.1 ∧ s.2.2.2.2.2.2.1 = s0.2.2.2.2.2.1.length ∧ 0 ≤ s.2.2.2.2.2.2.2 ∧ s.2.2.2.2.2.2.2 ≤ s0.2.2.2.2.2.1.length ∧ s.2.2.2.2.1 ++ evs true (s0.2.2.2.2.2.1.drop s.2.2.2.2.2.2.2.toNat) = s0.2.2.2.2.1 ++ evs true (s0.2.2.2.2.2.1.drop s0.2.2.2.2.2.2.2.toNat))
  mu := fun s => (s.2.2.2.2.2.2.1 - s.2.2.2.2.2.2.2).toNat
  ok := by
    intro v h s hg
    try dsimp only at hg
    split at hg <;> cases hg
    rfl

def L_wstep : Loops := fun n => match n with
  | 9 => some LSws1
  | 14 => some LSws2
  | _ => none
noncomputable def fs_implWorldStep : Fs := ⟨[], fun args H => match args, H with
  | [.agg [.int .i64 t, .int .i64 p, .vec 0, .vec 1]], [(false, .vec .body xs), (false, .vec .pair ps)] => some ((some (xs.length ≤ 1048576 ∧ ps.length ≤ 1048576)), .tup [.agg [.int .i64 (stepTick (worldOk t p xs ps) t), .int .i64 (orI (worldOk t p xs ps) p), .vec 2, .vec 3], .vec 4], [(false, .vec .body xs), (false, .vec .pair ps), (true, .vec .body (stepBodies (worldOk t p xs ps) t p xs)), (true, .vec .pair (stepPs (worldOk t p xs ps) t p xs ps)), (true, .vec .event (stepEs (worldOk t p xs ps) t p xs ps))])
  | _, _ => none⟩

theorem vc_implWorldStep (t : Int) (p : Int) (xs : List Body) (ps : List Pair) (Q : SV → List Ent → Prop) :
    fnVC tt (look [(36, fs_implWorldOk), (73, fs_implCopyW), (16, fs_implStep), (38, fs_implStepPairs), (74, fs_others)]) (L_wstep) Tryz.f32 [.agg [.int .i64 t, .int .i64 p, .vec 0, .vec 1]] [(false, .vec .body xs), (false, .vec .pair ps)] Q =
    (let w_ := IntKind.wrap IntKind.i64; let s_ := SV.int IntKind.i64; let n_ := Int.toNat; let vb_ := Blk.vec Ty.body; let vp_ := Blk.vec Ty.pair; let A8_ := (stepPairs (stepOf xs p)); let A7_ := (w_ (t + (1 : Int)), p, stepOf xs p, stepPairs (stepOf xs p)); (List.length xs ≤ (1048576 : Nat) ∧ List.length ps ≤ (1048576 : Nat)) ∧ ifB (!worldOk t p xs ps) (Q (SV.tup [SV.agg [s_ (0 : Int), s_ (0 : Int), SV.vec (2 : Nat), SV.vec (3 : Nat)], SV.vec (4 : Nat)]) [(false, vb_ xs), (false, vp_ ps), (true, vb_ []), (true, vp_ []), (true, Blk.vec Ty.event [])]) (ifB (t == (100000 : Int)) ((List.length xs ≤ (1048576 : Nat) ∧ List.length ps ≤ (1048576 : Nat)) ∧ Q (SV.tup [SV.agg [s_ t, s_ p, SV.vec (2 : Nat), SV.vec (3 : Nat)], SV.vec (4 : Nat)]) [(false, vb_ xs), (false, vp_ ps), (true, vb_ xs), (true, vp_ ps), (true, Blk.vec Ty.event [])]) (List.length xs ≤ (1048576 : Nat) ∧ List.length (stepOf xs p) ≤ (1048576 : Nat) ∧ (List.length ps ≤ (1048576 : Nat) ∧ List.length A8_ ≤ (1048576 : Nat)) ∧ Holds (xs = xs ∧ ps = ps ∧ (t, p) = (t, p) ∧ ((0 : Int), (0 : Int)) = ((0 : Int), (0 : Int)) ∧ A7_ = A7_ ∧ newF A8_ ps = newF A8_ ps ∧ (↑(List.length (newF A8_ ps)) : Int) = (↑(List.length (newF A8_ ps)) : Int) ∧ (0 : Int) ≤ (0 : Int) ∧ (0 : Int) ≤ (↑(List.length (newF A8_ ps)) : Int) ∧ [] ++ evs false (List.drop (n_ (0 : Int)) (newF A8_ ps)) = evs false (newF A8_ ps)) ∧ ∀ (y4 : List Body × List Pair × (Int × Int) × (Int × Int) × (Int × Int × List Body × List Pair) × List Event × List Pair × Int × Int), let y4f0_ := Prod.fst y4; let y4s1_ := Prod.snd y4; let y4f1_ := Prod.fst (Prod.snd y4); let y4f2_ := Prod.fst (Prod.snd (Prod.snd y4)); let y4f3_ := Prod.fst (Prod.snd (Prod.snd (Prod.snd y4))); let y4f4_ := Prod.fst (Prod.snd (Prod.snd (Prod.snd (Prod.snd y4)))); let y4f5_ := Prod.fst (Prod.snd (Prod.snd (Prod.snd (Prod.snd (Prod.snd y4))))); let y4f6_ := Prod.fst (Prod.snd (Prod.snd (Prod.snd (Prod.snd (Prod.snd (Prod.snd y4)))))); let y4s7_ := Prod.snd (Prod.snd (Prod.snd (Prod.snd (Prod.snd (Prod.snd (Prod.snd y4)))))); let y4f7_ := Prod.fst (Prod.snd (Prod.snd (Prod.snd (Prod.snd (Prod.snd (Prod.snd (Prod.snd y4))))))); let y4s8_ := Prod.snd (Prod.snd (Prod.snd (Prod.snd (Prod.snd (Prod.snd (Prod.snd (Prod.snd y4))))))); let A6_ := (newF A8_ ps); let A5_ := (Prod.snd (Prod.snd (Prod.snd y4f4_))); Holds (Prod.fst y4 = xs ∧ y4f1_ = ps ∧ y4f2_ = (t, p) ∧ y4f3_ = ((0 : Int), (0 : Int)) ∧ y4f4_ = A7_ ∧ y4f6_ = newF A8_ ps ∧ y4f7_ = (↑(List.length A6_) : Int) ∧ (0 : Int) ≤ y4s8_ ∧ y4s8_ ≤ (↑(List.length A6_) : Int) ∧ y4f5_ ++ evs false (List.drop (n_ y4s8_) A6_) = evs false A6_) → ifB (decide (Prod.snd y4s7_ < y4f7_)) (((0 : Int) ≤ y4s8_ ∧ y4s8_ < (↑(List.length y4f6_) : Int)) ∧ (List.length y4f5_ + List.length [Event.mk false (Ty.ix Ty.pair y4f6_ (n_ y4s8_))]) * (24 : Nat) ≤ room ∧ Holds (Prod.fst y4 = xs ∧ y4f1_ = ps ∧ y4f2_ = (t, p) ∧ y4f3_ = ((0 : Int), (0 : Int)) ∧ y4f4_ = A7_ ∧ y4f6_ = newF A8_ ps ∧ y4f7_ = (↑(List.length A6_) : Int) ∧ (0 : Int) ≤ w_ (Prod.snd y4s7_ + (1 : Int)) ∧ w_ (Prod.snd y4s7_ + (1 : Int)) ≤ (↑(List.length A6_) : Int) ∧ y4f5_ ++ [Event.mk false (Ty.ix Ty.pair y4f6_ (n_ y4s8_))] ++ evs false (List.drop (n_ (w_ (Prod.snd y4s7_ + (1 : Int)))) A6_) = evs false A6_) ∧ n_ (Prod.fst y4s7_ - w_ (Prod.snd y4s7_ + (1 : Int))) < n_ (Prod.fst y4s7_ - y4s8_)) ((List.length A5_ ≤ (1048576 : Nat) ∧ List.length y4f1_ ≤ (1048576 : Nat)) ∧ Holds (Prod.fst y4 = y4f0_ ∧ y4f1_ = y4f1_ ∧ y4f3_ = y4f3_ ∧ y4f4_ = y4f4_ ∧ newF y4f1_ A5_ = newF y4f1_ A5_ ∧ (↑(List.length (newF y4f1_ A5_)) : Int) = (↑(List.length (newF y4f1_ A5_)) : Int) ∧ (0 : Int) ≤ (0 : Int) ∧ (0 : Int) ≤ (↑(List.length (newF y4f1_ A5_)) : Int) ∧ y4f5_ ++ evs true (List.drop (n_ (0 : Int)) (newF y4f1_ A5_)) = y4f5_ ++ evs true (List.drop (n_ (0 : Int)) (newF y4f1_ A5_))) ∧ ∀ (y1 : List Body × List Pair × (Int × Int) × (Int × Int × List Body × List Pair) × List Event × List Pair × Int × Int), let y1f0_ := Prod.fst y1; let y1s1_ := Prod.snd y1; let y1f1_ := Prod.fst (Prod.snd y1); let y1f2_ := Prod.fst (Prod.snd (Prod.snd y1)); let y1f3_ := Prod.fst (Prod.snd (Prod.snd (Prod.snd y1))); let y1f4_ := Prod.fst (Prod.snd (Prod.snd (Prod.snd (Prod.snd y1)))); let y1f5_ := Prod.fst (Prod.snd (Prod.snd (Prod.snd (Prod.snd (Prod.snd y1))))); let y1s6_ := Prod.snd (Prod.snd (Prod.snd (Prod.snd (Prod.snd (Prod.snd y1))))); let y1f6_ := Prod.fst (Prod.snd (Prod.snd (Prod.snd (Prod.snd (Prod.snd (Prod.snd y1)))))); let y1s7_ := Prod.snd (Prod.snd (Prod.snd (Prod.snd (Prod.snd (Prod.snd (Prod.snd y1)))))); let A3_ := (Prod.snd (Prod.snd (Prod.snd y4s1_))); let A2_ := (newF y4f1_ (Prod.snd (Prod.snd (Prod.snd (Prod.fst A3_))))); Holds (Prod.fst y1 = y4f0_ ∧ y1f1_ = y4f1_ ∧ y1f2_ = y4f3_ ∧ y1f3_ = Prod.fst A3_ ∧ y1f5_ = newF y4f1_ (Prod.snd (Prod.snd (Prod.snd (Prod.fst A3_)))) ∧ y1f6_ = (↑(List.length A2_) : Int) ∧ (0 : Int) ≤ y1s7_ ∧ y1s7_ ≤ (↑(List.length A2_) : Int) ∧ y1f4_ ++ evs true (List.drop (n_ y1s7_) A2_) = Prod.fst (Prod.snd A3_) ++ evs true (List.drop (n_ (0 : Int)) A2_)) → ifB (decide (Prod.snd y1s6_ < y1f6_)) (((0 : Int) ≤ y1s7_ ∧ y1s7_ < (↑(List.length y1f5_) : Int)) ∧ (List.length y1f4_ + List.length [Event.mk true (Ty.ix Ty.pair y1f5_ (n_ y1s7_))]) * (24 : Nat) ≤ room ∧ Holds (Prod.fst y1 = y4f0_ ∧ y1f1_ = y4f1_ ∧ y1f2_ = y4f3_ ∧ y1f3_ = Prod.fst A3_ ∧ y1f5_ = newF y4f1_ (Prod.snd (Prod.snd (Prod.snd (Prod.fst A3_)))) ∧ y1f6_ = (↑(List.length A2_) : Int) ∧ (0 : Int) ≤ w_ (Prod.snd y1s6_ + (1 : Int)) ∧ w_ (Prod.snd y1s6_ + (1 : Int)) ≤ (↑(List.length A2_) : Int) ∧ y1f4_ ++ [Event.mk true (Ty.ix Ty.pair y1f5_ (n_ y1s7_))] ++ evs true (List.drop (n_ (w_ (Prod.snd y1s6_ + (1 : Int)))) A2_) = Prod.fst (Prod.snd A3_) ++ evs true (List.drop (n_ (0 : Int)) A2_)) ∧ n_ (Prod.fst y1s6_ - w_ (Prod.snd y1s6_ + (1 : Int))) < n_ (Prod.fst y1s6_ - y1s7_)) (Q (SV.tup [SV.agg [s_ (Prod.fst y1f3_), s_ (Prod.fst (Prod.snd y1f3_)), SV.vec (2 : Nat), SV.vec (3 : Nat)], SV.vec (4 : Nat)]) [(false, vb_ y1f0_), (false, vp_ y1f1_), (true, vb_ (Prod.fst (Prod.snd (Prod.snd y1f3_)))), (true, vp_ (Prod.snd (Prod.snd (Prod.snd y1f3_)))), (true, Blk.vec Ty.event y1f4_)]))))) := by kernel_rfl

theorem ok_implWorldStep : FsOk Tryz.prog 32 fs_implWorldStep := fsOk_of tt_ok (tabFs_cons ok_implWorldOk (tabFs_cons ok_implCopyW (tabFs_cons ok_implStep (tabFs_cons ok_implStepPairs (tabFs_cons ok_others tabFs_nil))))) mixed Tryz.func32 (by kernel_rfl) (by kernel_rfl) (by
    intro args LL p r HH h hp
    unfold fs_implWorldStep at h
    dsimp only at h
    split at h
    case h_2 => cases h
    rename_i t p xs ps
    simp only [Option.some.injEq, Prod.mk.injEq] at h
    obtain ⟨rfl, rfl, rfl⟩ := h
    refine ⟨by simp [Form, stays], (L_wstep), ?_⟩
    rw [vc_implWorldStep]
    try dsimp only
    obtain ⟨hb, hb2⟩ := hp _ rfl
    have hso := length_stepOf xs p
    have hsp := length_stepPairs (stepOf xs p)
    have n1 := length_newF (stepPairs (stepOf xs p)) ps
    have n2 := length_newF ps (stepPairs (stepOf xs p))
    refine ⟨⟨hb, hb2⟩, ifB_of (fun c => ?_) (fun c => ifB_of (fun c2 => ⟨⟨hb, hb2⟩, ?_⟩) (fun c2 => ⟨hb, by omega, ⟨hb2, by omega⟩, ⟨(by trivial), (by trivial), (by trivial), (by trivial), (by trivial), (by trivial), (by trivial), by omega, by omega, (by trivial)⟩, ?_⟩))⟩
    · simp [stepTick, stepBodies, stepPs, stepEs, orI, not_true c]
    · simp [stepTick, stepBodies, stepPs, stepEs, orI, not_false c, c2]
    rintro ⟨xs1, ps1, w, r, v, out, os, n, i⟩ ⟨h⟩
    dsimp only at h ⊢
    obtain ⟨rfl, rfl, rfl, rfl, rfl, rfl, rfl, i0, i1, h5⟩ := h
    have hs := congrArg List.length h5
    rw [List.length_append, length_evs, length_evs, List.length_drop] at hs
    refine ifB_of (fun d => ?_) (fun d => ?_)
    · have d := of_decide_eq_true d
      have e1 : (i + 1).toNat = i.toNat + 1 := by omega
      have w1 : IntKind.i64.wrap (i + 1) = i + 1 := wrap_small (by omega) (by omega)
      rw [evs_drop (show i.toNat < (newF (stepPairs (stepOf xs1 p)) ps1).length by omega)] at h5
      rw [w1, e1]
      refine ⟨⟨i0, by omega⟩, by simp only [room, List.length_singleton]; omega, ⟨(by trivial), (by trivial), (by trivial), (by trivial), (by trivial), (by trivial), (by trivial), by omega, by omega, ?_⟩, by omega⟩
      rw [← h5, List.append_assoc]
      rfl
    · have d := of_decide_eq_false d
      rw [drop_end (by omega)] at h5
      have h5 : out = evs false (newF (stepPairs (stepOf xs1 p)) ps1) := by simpa [evs] using h5
      have ho : out.length = (newF (stepPairs (stepOf xs1 p)) ps1).length := by rw [h5, length_evs]
      dsimp only
      refine ⟨⟨by omega, hb2⟩, ⟨(by trivial), (by trivial), (by trivial), (by trivial), (by trivial), (by trivial), by omega, by omega, (by trivial)⟩, ?_⟩
      clear d i0 i1 hs
      rintro ⟨xs2, ps2, r2, v2, out2, os2, n, i⟩ ⟨h⟩
      dsimp only at h ⊢
      obtain ⟨rfl, rfl, rfl, rfl, rfl, rfl, i0, i1, h6⟩ := h
      have hs := congrArg List.length h6
      rw [List.length_append, List.length_append, length_evs, length_evs, List.length_drop, List.length_drop] at hs
      refine ifB_of (fun d => ?_) (fun d => ?_)
      · have d := of_decide_eq_true d
        have e1 : (i + 1).toNat = i.toNat + 1 := by omega
        have w1 : IntKind.i64.wrap (i + 1) = i + 1 := wrap_small (by omega) (by omega)
        rw [evs_drop (show i.toNat < (newF ps2 (stepPairs (stepOf xs2 p))).length by omega)] at h6
        rw [w1, e1]
        refine ⟨⟨i0, by omega⟩, by simp only [room, List.length_singleton]; omega, ⟨(by trivial), (by trivial), (by trivial), (by trivial), (by trivial), (by trivial), by omega, by omega, ?_⟩, by omega⟩
        rw [← h6, List.append_assoc]
        rfl
      · have d := of_decide_eq_false d
        rw [drop_end (by omega)] at h6
        have h6 : out2 = stepEvs ps2 (stepPairs (stepOf xs2 p)) := by
          have : out2 = out ++ evs true (newF ps2 (stepPairs (stepOf xs2 p))) := by simpa [evs] using h6
          rw [this, h5]
          rfl
        dsimp only
        rw [h6]
        simp only [stepTick, stepBodies, stepPs, stepEs, orI, not_false c, c2, cond_true, cond_false, W]
        exact ⟨(by trivial), (by trivial)⟩)

end
end Go.Proofs.YtnahfbjdicjdpaaGreat.Sym

namespace Go.Proofs.YtnahfbjdicjdpaaGreat.Sym
open Go
set_option linter.unusedVariables false
set_option linter.unusedSimpArgs false
set_option maxRecDepth 100000
noncomputable section

theorem in_pull {pull : Int} : isIn pull 0 2560 = true ↔ 0 ≤ pull ∧ pull ≤ 2560 := by simp [isIn]
theorem stepOf_ok {xs : List Body} {pull : Int} (h : bodiesOk xs = true) (p0 : 0 ≤ pull) (p1 : pull ≤ 2560) : stepOf xs pull = stepF xs pull := by simp [stepOf, h, in_pull.2 ⟨p0, p1⟩]
def LSev1  : LS where
  S := List Pair × List Pair × Unit × Unit × List Event × Int
  live := [(0, [none]), (1, [none]), (5, [some .event]), (6, [none])]
  shape := fun s => ([.vec 0, .vec 1, .vec 2, .int .i64 s.2.2.2.2.2], [(false, .vec .pair s.1), (false, .vec .pair s.2.1), (true, .vec .event s.2.2.2.2.1)])
  get := fun v h => match v, h with
    | [.vec 0, .vec 1, .vec 2, .int .i64 i], [(false, .vec .pair ws), (false, .vec .pair ns), (true, .vec .event out)] => some (ws, ns, (), (), out, i)
    | _, _ => none
  inv := fun s0 s => Holds (s.1 = s0.1 ∧ s.2.1 = s0.2.1 ∧ 0 ≤ s.2.2.2.2.2 ∧ s.2.2.2.2.2 ≤ s0.1.length ∧ s.2.2.2.2.1 ++ evs false (newF s0.2.1 (s0.1.drop s.2.2.2.2.2.toNat)) = evs false (newF s0.2.1 s0.1))
  mu := fun s => ((s.1.length : Int) - s.2.2.2.2.2).toNat
  ok := by
    intro v h s hg
    try dsimp only at hg
    split at hg <;> cases hg
    rfl

def LSev2  : LS where
  S := List Pair × List Pair × Unit × Unit × List Event × Int
  live := [(0, [none]), (1, [none]), (5, [some .event]), (7, [none])]
  shape := fun s => ([.vec 0, .vec 1, .vec 2, .int .i64 s.2.2.2.2.2], [(false, .vec .pair s.1), (false, .vec .pair s.2.1), (true, .vec .event s.2.2.2.2.1)])
  get := fun v h => match v, h with
    | [.vec 0, .vec 1, .vec 2, .int .i64 i], [(false, .vec .pair ws), (false, .vec .pair ns), (true, .vec .event out)] => some (ws, ns, (), (), out, i)
    | _, _ => none
  inv := fun s0 s => Holds (s.1 = s0.1 ∧ s.2.1 = s0.2.1 ∧ 0 ≤ s.2.2.2.2.2 ∧ s.2.2.2.2.2 ≤ s0.2.1.length ∧ s.2.2.2.2.1 ++ evs true (newF s0.1 (s0.2.1.drop s.2.2.2.2.2.toNat)) = stepEvs s0.1 s0.2.1)
  mu := fun s => ((s.2.1.length : Int) - s.2.2.2.2.2).toNat
  ok := by
    intro v h s hg
    try dsimp only at hg
    split at hg <;> cases hg
    rfl

def L_ev : Loops := fun n => match n with
  | 3 => some LSev1
  | 8 => some LSev2
  | _ => none
theorem evs_new_drop {b : Bool} {was now : List Pair} {i : Nat} (h : i < now.length) : evs b (newF was (now.drop i)) = (bif !hasP was (Ty.ix .pair now i) then [⟨b, Ty.ix .pair now i⟩] else []) ++ evs b (newF was (now.drop (i + 1))) := by
  rw [newF_drop h]
  cases hasP was (Ty.ix .pair now i) <;> rfl
noncomputable def fs_l10Events : Fs := ⟨[], fun args H => match args, H with
  | [.vec 0, .vec 1], [(false, .vec .pair ws), (false, .vec .pair ns)] => some ((some (ws.length ≤ 1048576 ∧ ns.length ≤ 1048576)), .vec 2, [(false, .vec .pair ws), (false, .vec .pair ns), (true, .vec .event (stepEvs ws ns))])
  | _, _ => none⟩

theorem vc_l10Events (ws : List Pair) (ns : List Pair) (Q : SV → List Ent → Prop) :
    fnVC tt (look [(118, fs_l4In)]) (L_ev) Tryz.f77 [.vec 0, .vec 1] [(false, .vec .pair ws), (false, .vec .pair ns)] Q =
    (let w_ := IntKind.wrap IntKind.i64; let n_ := Int.toNat; let ip_ := Ty.ix Ty.pair; Holds (ws = ws ∧ ns = ns ∧ (0 : Int) ≤ (0 : Int) ∧ (0 : Int) ≤ (↑(List.length ws) : Int) ∧ [] ++ evs false (newF ns (List.drop (n_ (0 : Int)) ws)) = evs false (newF ns ws)) ∧ ∀ (y4 : List Pair × List Pair × Unit × Unit × List Event × Int), let y4f0_ := Prod.fst y4; let y4s1_ := Prod.snd y4; let y4f1_ := Prod.fst (Prod.snd y4); let y4s4_ := Prod.snd (Prod.snd (Prod.snd (Prod.snd y4))); let y4f4_ := Prod.fst (Prod.snd (Prod.snd (Prod.snd (Prod.snd y4)))); let y4s5_ := Prod.snd (Prod.snd (Prod.snd (Prod.snd (Prod.snd y4)))); let A6_ := (↑(List.length y4f0_) : Int); let A5_ := (Prod.snd y4s4_ + (1 : Int)); Holds (Prod.fst y4 = ws ∧ y4f1_ = ns ∧ (0 : Int) ≤ y4s5_ ∧ y4s5_ ≤ (↑(List.length ws) : Int) ∧ y4f4_ ++ evs false (newF ns (List.drop (n_ y4s5_) ws)) = evs false (newF ns ws)) → ifB (decide (Prod.snd y4s4_ < A6_)) (((0 : Int) ≤ y4s5_ ∧ y4s5_ < A6_) ∧ List.length y4f1_ ≤ (1048576 : Nat) ∧ ifB (!hasP y4f1_ (ip_ y4f0_ (n_ y4s5_))) (((0 : Int) ≤ y4s5_ ∧ y4s5_ < A6_) ∧ (List.length y4f4_ + List.length [Event.mk false (ip_ y4f0_ (n_ y4s5_))]) * (24 : Nat) ≤ room ∧ Holds (Prod.fst y4 = ws ∧ y4f1_ = ns ∧ (0 : Int) ≤ w_ A5_ ∧ w_ A5_ ≤ (↑(List.length ws) : Int) ∧ y4f4_ ++ [Event.mk false (ip_ y4f0_ (n_ y4s5_))] ++ evs false (newF ns (List.drop (n_ (w_ A5_)) ws)) = evs false (newF ns ws)) ∧ n_ (A6_ - w_ A5_) < n_ (A6_ - y4s5_)) (Holds (Prod.fst y4 = ws ∧ y4f1_ = ns ∧ (0 : Int) ≤ w_ A5_ ∧ w_ A5_ ≤ (↑(List.length ws) : Int) ∧ y4f4_ ++ evs false (newF ns (List.drop (n_ (w_ A5_)) ws)) = evs false (newF ns ws)) ∧ n_ (A6_ - w_ A5_) < n_ (A6_ - y4s5_))) (Holds (Prod.fst y4 = y4f0_ ∧ y4f1_ = y4f1_ ∧ (0 : Int) ≤ (0 : Int) ∧ (0 : Int) ≤ (↑(List.length y4f1_) : Int) ∧ y4f4_ ++ evs true (newF y4f0_ (List.drop (n_ (0 : Int)) y4f1_)) = stepEvs y4f0_ y4f1_) ∧ ∀ (y1 : List Pair × List Pair × Unit × Unit × List Event × Int), let y1f0_ := Prod.fst y1; let y1s1_ := Prod.snd y1; let y1f1_ := Prod.fst (Prod.snd y1); let y1s4_ := Prod.snd (Prod.snd (Prod.snd (Prod.snd y1))); let y1f4_ := Prod.fst (Prod.snd (Prod.snd (Prod.snd (Prod.snd y1)))); let y1s5_ := Prod.snd (Prod.snd (Prod.snd (Prod.snd (Prod.snd y1)))); let A3_ := (↑(List.length y1f1_) : Int); let A2_ := (Prod.snd y1s4_ + (1 : Int)); Holds (Prod.fst y1 = y4f0_ ∧ y1f1_ = y4f1_ ∧ (0 : Int) ≤ y1s5_ ∧ y1s5_ ≤ (↑(List.length y4f1_) : Int) ∧ y1f4_ ++ evs true (newF y4f0_ (List.drop (n_ y1s5_) y4f1_)) = stepEvs y4f0_ y4f1_) → ifB (decide (Prod.snd y1s4_ < A3_)) (((0 : Int) ≤ y1s5_ ∧ y1s5_ < A3_) ∧ List.length y1f0_ ≤ (1048576 : Nat) ∧ ifB (!hasP y1f0_ (ip_ y1f1_ (n_ y1s5_))) (((0 : Int) ≤ y1s5_ ∧ y1s5_ < A3_) ∧ (List.length y1f4_ + List.length [Event.mk true (ip_ y1f1_ (n_ y1s5_))]) * (24 : Nat) ≤ room ∧ Holds (Prod.fst y1 = y4f0_ ∧ y1f1_ = y4f1_ ∧ (0 : Int) ≤ w_ A2_ ∧ w_ A2_ ≤ (↑(List.length y4f1_) : Int) ∧ y1f4_ ++ [Event.mk true (ip_ y1f1_ (n_ y1s5_))] ++ evs true (newF y4f0_ (List.drop (n_ (w_ A2_)) y4f1_)) = stepEvs y4f0_ y4f1_) ∧ n_ (A3_ - w_ A2_) < n_ (A3_ - y1s5_)) (Holds (Prod.fst y1 = y4f0_ ∧ y1f1_ = y4f1_ ∧ (0 : Int) ≤ w_ A2_ ∧ w_ A2_ ≤ (↑(List.length y4f1_) : Int) ∧ y1f4_ ++ evs true (newF y4f0_ (List.drop (n_ (w_ A2_)) y4f1_)) = stepEvs y4f0_ y4f1_) ∧ n_ (A3_ - w_ A2_) < n_ (A3_ - y1s5_))) (Q (SV.vec (2 : Nat)) [(false, Blk.vec Ty.pair y1f0_), (false, Blk.vec Ty.pair y1f1_), (true, Blk.vec Ty.event y1f4_)]))) := by kernel_rfl

theorem ok_l10Events : FsOk Tryz.prog 77 fs_l10Events := fsOk_of tt_ok (tabFs_cons ok_l4In tabFs_nil) mixed Tryz.func77 (by kernel_rfl) (by kernel_rfl) (by
    intro args LL p r HH h hp
    unfold fs_l10Events at h
    dsimp only at h
    split at h
    case h_2 => cases h
    rename_i ws ns
    simp only [Option.some.injEq, Prod.mk.injEq] at h
    obtain ⟨rfl, rfl, rfl⟩ := h
    refine ⟨by simp [Form, stays], (L_ev), ?_⟩
    rw [vc_l10Events]
    try dsimp only
    obtain ⟨hb, hb2⟩ := hp _ rfl
    refine ⟨⟨(by trivial), (by trivial), by omega, by omega, (by trivial)⟩, ?_⟩
    rintro ⟨ws', ns', u, v, out, i⟩ ⟨h⟩
    dsimp only at h ⊢
    obtain ⟨rfl, rfl, i0, i1, h5⟩ := h
    have n1 := length_newF ns' ws'
    have n2 := length_newF ws' ns'
    have hs := congrArg List.length h5
    rw [List.length_append, length_evs, length_evs] at hs
    refine ifB_of (fun c => ?_) (fun c => ?_)
    · have c := of_decide_eq_true c
      have e1 : (i + 1).toNat = i.toNat + 1 := by omega
      have w : IntKind.i64.wrap (i + 1) = i + 1 := wrap_small (by omega) (by omega)
      rw [evs_new_drop (show i.toNat < ws'.length by omega)] at h5
      rw [w, e1]
      refine ⟨⟨i0, c⟩, by omega, ifB_of (fun d => ⟨⟨i0, c⟩, by simp only [room, List.length_singleton]; omega, ⟨(by trivial), (by trivial), by omega, by omega, ?_⟩, by omega⟩) (fun d => ⟨⟨(by trivial), (by trivial), by omega, by omega, ?_⟩, by omega⟩)⟩
      · have d : (!hasP ns' (Ty.ix .pair ws' i.toNat)) = true := d
        rw [d] at h5
        rw [← h5, List.append_assoc]
        rfl
      · have d : (!hasP ns' (Ty.ix .pair ws' i.toNat)) = false := d
        rw [d] at h5
        exact h5
    · have c := of_decide_eq_false c
      rw [drop_end (by omega)] at h5
      have h5 : out = evs false (newF ns' ws') := by simpa [evs, newF] using h5
      refine ⟨⟨(by trivial), (by trivial), by omega, by omega, ?_⟩, ?_⟩
      · rw [h5]
        rfl
      clear c h5 hs i0 i1
      rintro ⟨ws2, ns2, u2, v2, out2, i⟩ ⟨h⟩
      dsimp only at h ⊢
      obtain ⟨rfl, rfl, i0, i1, h5⟩ := h
      have hs := congrArg List.length h5
      unfold stepEvs at hs
      rw [List.length_append, List.length_append, length_evs, length_evs, length_evs] at hs
      refine ifB_of (fun c => ?_) (fun c => ?_)
      · have c := of_decide_eq_true c
        have e1 : (i + 1).toNat = i.toNat + 1 := by omega
        have w : IntKind.i64.wrap (i + 1) = i + 1 := wrap_small (by omega) (by omega)
        rw [evs_new_drop (show i.toNat < ns2.length by omega)] at h5
        rw [w, e1]
        refine ⟨⟨i0, c⟩, by omega, ifB_of (fun d => ⟨⟨i0, c⟩, by simp only [room, List.length_singleton]; omega, ⟨(by trivial), (by trivial), by omega, by omega, ?_⟩, by omega⟩) (fun d => ⟨⟨(by trivial), (by trivial), by omega, by omega, ?_⟩, by omega⟩)⟩
        · have d : (!hasP ws2 (Ty.ix .pair ns2 i.toNat)) = true := d
          rw [d] at h5
          rw [← h5, List.append_assoc]
          rfl
        · have d : (!hasP ws2 (Ty.ix .pair ns2 i.toNat)) = false := d
          rw [d] at h5
          exact h5
      · have c := of_decide_eq_false c
        rw [drop_end (by omega)] at h5
        have h5 : out2 = stepEvs ws2 ns2 := by simpa [evs, newF] using h5
        rw [h5]
        exact ⟨(by trivial), (by trivial)⟩)

theorem worldOk_t {t p : Int} {xs : List Body} {ps : List Pair} (h : worldOk t p xs ps = true) : 0 ≤ t ∧ t ≤ 100000 ∧ 0 ≤ p ∧ p ≤ 2560 := by
  unfold worldOk at h
  simp only [Bool.and_eq_true, isIn, decide_eq_true_eq] at h
  omega
noncomputable def fs_specWorldStep : Fs := ⟨[], fun args H => match args, H with
  | [.agg [.int .i64 t, .int .i64 p, .vec 0, .vec 1]], [(false, .vec .body xs), (false, .vec .pair ps)] => some ((some (xs.length ≤ 1048576 ∧ ps.length ≤ 1048576)), .tup [.agg [.int .i64 (stepTick (worldOk t p xs ps) t), .int .i64 (orI (worldOk t p xs ps) p), .vec 2, .vec 3], .vec 4], [(false, .vec .body xs), (false, .vec .pair ps), (true, .vec .body (stepBodies (worldOk t p xs ps) t p xs)), (true, .vec .pair (stepPs (worldOk t p xs ps) t p xs ps)), (true, .vec .event (stepEs (worldOk t p xs ps) t p xs ps))])
  | _, _ => none⟩

theorem vc_specWorldStep (t : Int) (p : Int) (xs : List Body) (ps : List Pair) (Q : SV → List Ent → Prop) :
    fnVC tt (look [(35, fs_specWorldOk), (75, fs_specCopyW), (63, fs_l9Step), (76, fs_l9Pairs), (77, fs_l10Events)]) L0 Tryz.f33 [.agg [.int .i64 t, .int .i64 p, .vec 0, .vec 1]] [(false, .vec .body xs), (false, .vec .pair ps)] Q =
    ((List.length xs ≤ (1048576 : Nat) ∧ List.length ps ≤ (1048576 : Nat)) ∧ ifB (!worldOk t p xs ps) (Q (SV.tup [SV.agg [SV.int IntKind.i64 (0 : Int), SV.int IntKind.i64 (0 : Int), SV.vec (2 : Nat), SV.vec (3 : Nat)], SV.vec (4 : Nat)]) [(false, Blk.vec Ty.body xs), (false, Blk.vec Ty.pair ps), (true, Blk.vec Ty.body []), (true, Blk.vec Ty.pair []), (true, Blk.vec Ty.event [])]) (ifB (decide (t ≥ (100000 : Int))) ((List.length xs ≤ (1048576 : Nat) ∧ List.length ps ≤ (1048576 : Nat)) ∧ Q (SV.tup [SV.agg [SV.int IntKind.i64 t, SV.int IntKind.i64 p, SV.vec (2 : Nat), SV.vec (3 : Nat)], SV.vec (4 : Nat)]) [(false, Blk.vec Ty.body xs), (false, Blk.vec Ty.pair ps), (true, Blk.vec Ty.body xs), (true, Blk.vec Ty.pair ps), (true, Blk.vec Ty.event [])]) ((bodiesOk xs = true ∧ (0 : Int) ≤ p ∧ p ≤ (2560 : Int)) ∧ bodiesOk (stepF xs p) = true ∧ (List.length ps ≤ (1048576 : Nat) ∧ List.length (pairsC (stepF xs p) (contactsF (stepF xs p))) ≤ (1048576 : Nat)) ∧ Q (SV.tup [SV.agg [SV.int IntKind.i64 (IntKind.wrap IntKind.i64 (t + (1 : Int))), SV.int IntKind.i64 p, SV.vec (2 : Nat), SV.vec (3 : Nat)], SV.vec (4 : Nat)]) [(false, Blk.vec Ty.body xs), (false, Blk.vec Ty.pair ps), (true, Blk.vec Ty.body (stepF xs p)), (true, Blk.vec Ty.pair (pairsC (stepF xs p) (contactsF (stepF xs p)))), (true, Blk.vec Ty.event (stepEvs ps (pairsC (stepF xs p) (contactsF (stepF xs p)))))]))) := by kernel_rfl

theorem ok_specWorldStep : FsOk Tryz.prog 33 fs_specWorldStep := fsOk_of tt_ok (tabFs_cons ok_specWorldOk (tabFs_cons ok_specCopyW (tabFs_cons ok_l9Step (tabFs_cons ok_l9Pairs (tabFs_cons ok_l10Events tabFs_nil))))) mixed Tryz.func33 (by kernel_rfl) (by kernel_rfl) (by
    intro args LL p r HH h hp
    unfold fs_specWorldStep at h
    dsimp only at h
    split at h
    case h_2 => cases h
    rename_i t p xs ps
    simp only [Option.some.injEq, Prod.mk.injEq] at h
    obtain ⟨rfl, rfl, rfl⟩ := h
    refine ⟨by simp [Form, stays], L0, ?_⟩
    rw [vc_specWorldStep]
    try dsimp only
    obtain ⟨hb, hb2⟩ := hp _ rfl
    refine ⟨⟨hb, hb2⟩, ifB_of (fun c => ?_) (fun c => ifB_of (fun c2 => ⟨⟨hb, hb2⟩, ?_⟩) (fun c2 => ?_))⟩
    · simp [stepTick, stepBodies, stepPs, stepEs, orI, not_true c]
    · have ht := worldOk_t (not_false c)
      have c2 := of_decide_eq_true c2
      have e : t = 100000 := by omega
      subst e
      simp [stepTick, stepBodies, stepPs, stepEs, orI, not_false c]
    · have hok := not_false c
      have ht := worldOk_t hok
      have hB := worldOk_bodies hok
      have c2 := of_decide_eq_false c2
      have e : (t == 100000) = false := beq_eq_false_iff_ne.2 (by omega)
      have hS := stepOf_ok hB ht.2.2.1 ht.2.2.2
      have hO := ok_stepF hB ht.2.2.1 ht.2.2.2
      have hP : pairsC (stepF xs p) (contactsF (stepF xs p)) = stepPairs (stepF xs p) := by simp [stepPairs, contactsOf, hO]
      have hsp := length_stepPairs (stepF xs p)
      rw [hP]
      simp only [stepTick, stepBodies, stepPs, stepEs, orI, hok, e, cond_true, cond_false, hS, W]
      exact ⟨⟨hB, ht.2.2.1, ht.2.2.2⟩, hO, ⟨hb2, by omega⟩, (by trivial), (by trivial)⟩)

theorem length_stepBodies (ok : Bool) (t p : Int) (xs : List Body) (h : xs.length ≤ 1048576) : (stepBodies ok t p xs).length ≤ 1048576 := by
  unfold stepBodies
  have := length_stepOf xs p
  cases ok <;> cases t == 100000 <;> simp only [cond_true, cond_false, List.length_nil] <;> omega
theorem length_stepPs (ok : Bool) (t p : Int) (xs : List Body) (ps : List Pair) (h : ps.length ≤ 1048576) : (stepPs ok t p xs ps).length ≤ 1048576 := by
  unfold stepPs
  have := length_stepPairs (stepOf xs p)
  cases ok <;> cases t == 100000 <;> simp only [cond_true, cond_false, List.length_nil] <;> omega
theorem bodies_lt {xs : List Body} (h : bodiesOk xs = true) : ∀ {b a : Nat}, a < b → b < xs.length → (Ty.ix .body xs a).Id < (Ty.ix .body xs b).Id
  | b + 1, a, hab, hb => by
    have h3 := (bodiesOk_iff.1 h).2.2 b hb
    by_cases e : a = b
    · subst e
      exact h3
    · exact Int.lt_trans (bodies_lt h (b := b) (a := a) (by omega) (by omega)) h3
theorem hasB_id {xs : List Body} {id : Int} (h : hasB xs id = true) : atB xs id < xs.length ∧ (Ty.ix .body xs (atB xs id)).Id = id := by
  simp only [hasB, Bool.and_eq_true, decide_eq_true_eq, beq_iff_eq] at h
  exact h
theorem atB_lt {xs : List Body} (h : bodiesOk xs = true) {a b : Int} (ha : hasB xs a = true) (hb : hasB xs b = true) (hab : a < b) : atB xs a < atB xs b := by
  obtain ⟨a1, a2⟩ := hasB_id ha
  obtain ⟨b1, b2⟩ := hasB_id hb
  refine Nat.lt_of_not_le fun hle => ?_
  by_cases e : atB xs b = atB xs a
  · rw [e] at b2
    omega
  · have := bodies_lt h (a := atB xs b) (b := atB xs a) (by omega) a1
    omega
theorem pairAt_of {t p : Int} {xs : List Body} {ps : List Pair} (h : worldOk t p xs ps = true) {i : Nat} (hi : i < ps.length) : hasB xs (Ty.ix .pair ps i).A = true ∧ hasB xs (Ty.ix .pair ps i).B = true ∧ (Ty.ix .pair ps i).A < (Ty.ix .pair ps i).B ∧
    (0 < i → (Ty.ix .pair ps (i - 1)).A < (Ty.ix .pair ps i).A ∨ (Ty.ix .pair ps (i - 1)).A = (Ty.ix .pair ps i).A ∧ (Ty.ix .pair ps (i - 1)).B < (Ty.ix .pair ps i).B) := by
  unfold worldOk at h
  simp only [Bool.and_eq_true, allTo_iff] at h
  have h2 := h.2 i hi
  simp only [pairAt, ahead, Bool.and_eq_true, Bool.or_eq_true, decide_eq_true_eq, beq_iff_eq] at h2
  refine ⟨h2.1.1.1, h2.1.1.2, h2.1.2, fun h0 => ?_⟩
  rcases h2.2 with q | q
  · omega
  · exact q
theorem worldOk_pairs {t p : Int} {xs : List Body} {ps : List Pair} (h : worldOk t p xs ps = true) : ps.length ≤ 144 := by
  have hB := worldOk_bodies h
  have hl := bodiesOk_len hB
  have key : ∀ i, i < ps.length → i ≤ 12 * atB xs (Ty.ix .pair ps i).A + atB xs (Ty.ix .pair ps i).B := by
    intro i
    induction i with
    | zero => intro _; omega
    | succ i ih =>
      intro hi
      have h1 := ih (by omega)
      obtain ⟨a1, a2, a3, a4⟩ := pairAt_of h hi
      obtain ⟨b1, b2, _, _⟩ := pairAt_of h (i := i) (by omega)
      have c1 := (hasB_id b2).1
      rcases a4 (by omega) with q | ⟨q1, q2⟩
      · have := atB_lt hB b1 a1 q
        omega
      · simp only [Nat.add_sub_cancel] at q1 q2
        have := atB_lt hB b2 a2 q2
        rw [← q1]
        omega
  refine Nat.le_of_not_lt fun hlt => ?_
  have h1 := key 144 hlt
  obtain ⟨a1, a2, a3, a4⟩ := pairAt_of h (i := 144) hlt
  have c1 := (hasB_id a1).1
  have c2 := (hasB_id a2).1
  omega
theorem length_stepEs (t p : Int) (xs : List Body) (ps : List Pair) : (stepEs (worldOk t p xs ps) t p xs ps).length ≤ 288 := by
  unfold stepEs stepEvs
  have hq := worldOk_pairs (t := t) (p := p) (xs := xs) (ps := ps)
  generalize worldOk t p xs ps = ok at *
  have := length_stepPairs (stepOf xs p)
  have h1 := length_newF (stepPairs (stepOf xs p)) ps
  have h2 := length_newF ps (stepPairs (stepOf xs p))
  cases ok with
  | false => simp
  | true =>
    have := hq rfl
    cases t == 100000 <;> simp only [cond_true, cond_false, List.length_nil, List.length_append, length_evs] <;> omega
end
end Go.Proofs.YtnahfbjdicjdpaaGreat.Sym

namespace Go.Proofs.YtnahfbjdicjdpaaGreat.Sym
open Go
set_option linter.unusedVariables false
set_option linter.unusedSimpArgs false
set_option maxRecDepth 100000

theorem shapeD_ok {s : Shape} (h : shapeD s) : shapeOk s = true := by
  obtain ⟨h1, h2, h3⟩ := h
  unfold shapeOk
  rcases h3 with ⟨k, e⟩ | ⟨k, e1, e2⟩
  · rw [if_pos k]
    simp only [isIn, Bool.and_eq_true, decide_eq_true_eq, beq_iff_eq]
    omega
  · rw [if_neg (by omega), if_pos k]
    simp only [isIn, Bool.and_eq_true, decide_eq_true_eq]
    omega
theorem bodyD_ok {id : Int} {b : Body} (h0 : 0 ≤ id) (h1 : id ≤ 999999999) (h : bodyD id b) : bodyOk b = true := by
  obtain ⟨q1, q2, q3, ⟨q4, q5⟩, q6, q7, q8, q9, q10, q11, q12, q13, q14, q15⟩ := h
  simp only [placeP] at q3
  refine bok_iff.2 ⟨by omega, shapeD_ok q2, by omega, by omega, by omega, by omega, by omega, by omega, fun e => ⟨(q5 e).1, (q5 e).2, q14 e⟩, fun e => ?_⟩
  by_cases c : b.Quiet = 8
  · exact .inr (q15 c)
  · exact .inl (by omega)
theorem bok_at {b : Body} {p : Vec} (h : bodyOk b = true) (hp : -2560000 ≤ p.X ∧ p.X ≤ 2560000 ∧ -2560000 ≤ p.Y ∧ p.Y ≤ 2560000) : bodyOk { b with At := p } = true := by
  rw [bok_iff] at h ⊢
  obtain ⟨h1, h2, h3, h4, h5, h6, h7, h8, h9, h10⟩ := h
  exact ⟨h1, h2, hp, h4, h5, h6, h7, h8, h9, h10⟩
theorem ix_snoc {xs : List Body} {x : Body} {e : Nat} (h : e < xs.length) : Ty.ix .body (xs ++ [x]) e = Ty.ix .body xs e := by
  simp only [Ty.ix, List.getD_eq_getElem?_getD]
  rw [List.getElem?_append_left h]
theorem ix_last {xs : List Body} {x : Body} : Ty.ix .body (xs ++ [x]) xs.length = x := by
  simp [Ty.ix, List.getD]
def idsLtB (m : Int) (xs : List Body) : Prop := ∀ e, e < xs.length → (Ty.ix .body xs e).Id < m
theorem ok_snoc {xs : List Body} {x : Body} (h : bodiesOk xs = true) (hi : idsLtB x.Id xs) (hx : bodyOk x = true) (hl : xs.length < 12) : bodiesOk (xs ++ [x]) = true := by
  obtain ⟨h1, h2, h3⟩ := bodiesOk_iff.1 h
  have len : (xs ++ [x]).length = xs.length + 1 := by simp
  refine bodiesOk_iff.2 ⟨by omega, fun k hk => ?_, fun k hk => ?_⟩
  · by_cases e : k < xs.length
    · rw [ix_snoc e]
      exact h2 k e
    · rw [show k = xs.length by omega, ix_last]
      exact hx
  · by_cases e : k + 1 < xs.length
    · rw [ix_snoc e, ix_snoc (show k < xs.length by omega)]
      exact h3 k e
    · have e2 : k + 1 = xs.length := by omega
      rw [e2, ix_last, ix_snoc (by omega)]
      exact hi k (by omega)
theorem ids_snoc {xs : List Body} {x : Body} {m n : Int} (hi : idsLtB m xs) (hm : m ≤ n) (hx : x.Id < n) : idsLtB n (xs ++ [x]) := by
  intro e he
  have len : (xs ++ [x]).length = xs.length + 1 := by simp
  by_cases c : e < xs.length
  · rw [ix_snoc c]
    have := hi e c
    omega
  · rw [show e = xs.length by omega, ix_last]
    exact hx
noncomputable section
def bd (b : List Int) (p id : Int) : Body := (g_l11Body b p id).1.1
def cn (b : List Int) (p id : Int) : Int := (((g_l11Body b p id).2 % 16 : Nat) : Int)
theorem cn_le (b : List Int) (p id : Int) : 0 ≤ cn b p id ∧ cn b p id ≤ 15 := by
  unfold cn
  omega
def nearP (b : List Int) (p : Int) (v : Vec) : Vec := ⟨withinS (W (W (v.X + W (pk b p 256 * 4)) - 512)) 2560000, withinS (W (W (v.Y + W (pk b (p + 1) 256 * 4)) - 512)) 2560000⟩
theorem nearP_le (b : List Int) (p : Int) (v : Vec) : -2560000 ≤ (nearP b p v).X ∧ (nearP b p v).X ≤ 2560000 ∧ -2560000 ≤ (nearP b p v).Y ∧ (nearP b p v).Y ≤ 2560000 := ⟨(withinS_to _).1, (withinS_to _).2, (withinS_to _).1, (withinS_to _).2⟩
def dStep (b : List Int) (p id : Int) (xs : List Body) : Int × Int × List Body :=
  let q := p + cn b p id
  bif decide ((xs.length : Int) > 0) then
    bif decide (pk b q 3 > 0) then
      (q + 1 + 1 + 1 + 1 + 1, W (W (id + 1) + pk b (q + 1 + 1 + 1 + 1) 3), xs ++ [{ bd b p id with At := nearP b (q + 1 + 1) (Ty.ix .body xs (pk b (q + 1) xs.length).toNat).At }])
    else (q + 1 + 1, W (W (id + 1) + pk b (q + 1) 3), xs ++ [bd b p id])
  else (q + 1, W (W (id + 1) + pk b q 3), xs ++ [bd b p id])
def dGo (b : List Int) : Nat → Int → Int → List Body → Int × List Body
  | 0, p, _, xs => (p, xs)
  | k + 1, p, id, xs => dGo b k (dStep b p id xs).1 (dStep b p id xs).2.1 (dStep b p id xs).2.2
def dEnd (b : List Int) (s : Int × List Body) : Int × List Body :=
  bif pk b s.1 4 == 0 then (s.1 + 1 + 1, stepF s.2 (Ty.ix .int ([0, 32] : List Int) (pk b (s.1 + 1) 2).toNat)) else (s.1 + 1, s.2)
def dDraw (b : List Int) (p : Int) : Int × List Body :=
  dEnd b (dGo b (bif pk b (p + 1 + 1) 20 == 0 then 12 else (pk b (p + 1) 7).toNat) (p + 1 + 1 + 1) (pk b p 3) [])
theorem dStep_spec {b : List Int} {p id : Int} {xs : List Body} (i0 : 0 ≤ id) (i1 : id ≤ 40) (h : bodiesOk xs = true) (hi : idsLtB id xs) (hl : xs.length < 12) :
    p ≤ (dStep b p id xs).1 ∧ (dStep b p id xs).1 ≤ p + 20 ∧ id < (dStep b p id xs).2.1 ∧ (dStep b p id xs).2.1 ≤ id + 3 ∧ bodiesOk (dStep b p id xs).2.2 = true ∧ idsLtB (dStep b p id xs).2.1 (dStep b p id xs).2.2 ∧ (dStep b p id xs).2.2.length = xs.length + 1 := by
  have hc := cn_le b p id
  have hid : (bd b p id).Id = id := (g_l11Body b p id).1.2.1
  have hbd : bodyOk (bd b p id) = true := bodyD_ok i0 (by omega) (g_l11Body b p id).1.2
  have w1 : W (id + 1) = id + 1 := W_small (by omega) (by omega)
  have hpk : ∀ q, W (W (id + 1) + pk b q 3) = id + 1 + pk b q 3 := fun q => by
    have := pk_lt b q (n := 3) (by omega)
    rw [w1]
    exact W_small (by omega) (by omega)
  have fin : ∀ {x : Body} (q : Int), x.Id = id → bodyOk x = true → bodiesOk (xs ++ [x]) = true ∧ idsLtB (W (W (id + 1) + pk b q 3)) (xs ++ [x]) ∧ (xs ++ [x]).length = xs.length + 1 := fun {x} q h1 h2 => by
    have := pk_lt b q (n := 3) (by omega)
    refine ⟨ok_snoc h (by rw [h1]; exact hi) h2 hl, ?_, by simp⟩
    rw [hpk q]
    exact ids_snoc hi (by omega) (by omega)
  unfold dStep
  dsimp only
  cases decide ((xs.length : Int) > 0) with
  | false =>
    simp only [cond_false]
    have hk := pk_lt b (p + cn b p id) (n := 3) (by omega)
    have := fin (p + cn b p id) hid hbd
    exact ⟨by omega, by omega, by rw [hpk]; omega, by rw [hpk]; omega, this.1, this.2.1, this.2.2⟩
  | true =>
    simp only [cond_true]
    cases decide (pk b (p + cn b p id) 3 > 0) with
    | false =>
      simp only [cond_false]
      have hk := pk_lt b (p + cn b p id + 1) (n := 3) (by omega)
      have := fin (p + cn b p id + 1) hid hbd
      exact ⟨by omega, by omega, by rw [hpk]; omega, by rw [hpk]; omega, this.1, this.2.1, this.2.2⟩
    | true =>
      simp only [cond_true]
      have hk := pk_lt b (p + cn b p id + 1 + 1 + 1 + 1) (n := 3) (by omega)
      have := fin (x := { bd b p id with At := nearP b (p + cn b p id + 1 + 1) (Ty.ix .body xs (pk b (p + cn b p id + 1) xs.length).toNat).At }) (p + cn b p id + 1 + 1 + 1 + 1) hid (bok_at hbd (nearP_le _ _ _))
      exact ⟨by omega, by omega, by rw [hpk]; omega, by rw [hpk]; omega, this.1, this.2.1, this.2.2⟩
theorem dGo_next {b : List Int} {p id n n0 topP topI q id' : Int} {xs ys : List Body} {R : Int × List Body} (e : dStep b p id xs = (q, id', ys)) (h1 : 0 < n) (h2 : n ≤ n0) (h12 : n0 ≤ 12) (p0 : 0 ≤ p) (hp : p + 20 * n ≤ topP) (i0 : 0 ≤ id) (hi : id + 3 * n ≤ topI) (ti : topI ≤ 40)
    (ok : bodiesOk xs = true) (ids : idsLtB id xs) (hl : (xs.length : Int) + n = n0) (h7 : dGo b n.toNat p id xs = R) :
    (b = b ∧ 0 ≤ IntKind.i64.wrap (n - 1) ∧ IntKind.i64.wrap (n - 1) ≤ n0 ∧ 0 ≤ q ∧ q + 20 * IntKind.i64.wrap (n - 1) ≤ topP ∧ 0 ≤ id' ∧ id' + 3 * IntKind.i64.wrap (n - 1) ≤ topI ∧ bodiesOk ys = true ∧ idsLtB id' ys ∧ (ys.length : Int) + IntKind.i64.wrap (n - 1) = n0 ∧ dGo b (IntKind.i64.wrap (n - 1)).toNat q id' ys = R) ∧
    (IntKind.i64.wrap (n - 1)).toNat < n.toNat := by
  obtain ⟨s1, s2, s3, s4, s5, s6, s7⟩ := dStep_spec (b := b) (p := p) i0 (by omega) ok ids (by omega)
  rw [e] at s1 s2 s3 s4 s5 s6 s7
  dsimp only at s1 s2 s3 s4 s5 s6 s7
  have w : IntKind.i64.wrap (n - 1) = n - 1 := wrap_small (by omega) (by omega)
  rw [w]
  refine ⟨⟨rfl, by omega, by omega, by omega, by omega, by omega, by omega, s5, s6, by omega, ?_⟩, by omega⟩
  rw [← h7, show n.toNat = (n - 1).toNat + 1 by omega]
  simp only [dGo, e]
theorem dGo_spec {b : List Int} : ∀ {k : Nat} {p id : Int} {xs : List Body}, 0 ≤ id → id + 3 * k ≤ 40 → bodiesOk xs = true → idsLtB id xs → xs.length + k ≤ 12 → p ≤ (dGo b k p id xs).1 ∧ (dGo b k p id xs).1 ≤ p + 20 * k ∧ bodiesOk (dGo b k p id xs).2 = true
  | 0, p, id, xs, _, _, h, _, _ => ⟨by simp only [dGo]; omega, by simp only [dGo]; omega, h⟩
  | k + 1, p, id, xs, i0, i1, h, hi, hl => by
    obtain ⟨s1, s2, s3, s4, s5, s6, s7⟩ := dStep_spec (b := b) (p := p) i0 (by omega) h hi (by omega)
    obtain ⟨r1, r2, r3⟩ := dGo_spec (b := b) (k := k) (p := (dStep b p id xs).1) (id := (dStep b p id xs).2.1) (xs := (dStep b p id xs).2.2) (by omega) (by omega) s5 s6 (by omega)
    simp only [dGo]
    exact ⟨by omega, by omega, r3⟩
theorem ids_nil (m : Int) : idsLtB m [] := fun e h => by simp at h
def pullI (i : Nat) : Int := if i = 0 then 0 else if i = 1 then 32 else 0
theorem ixPull (i : Nat) : @Eq Int (Ty.ix .int ([0, 32] : List Int) i) (pullI i) := ix2 ..
theorem pullI_le (i : Nat) : 0 ≤ pullI i ∧ pullI i ≤ 2560 := by
  unfold pullI
  (repeat' split) <;> omega
theorem ix032 (i : Nat) : @LE.le Int _ 0 (Ty.ix .int ([0, 32] : List Int) i) ∧ @LE.le Int _ (Ty.ix .int ([0, 32] : List Int) i) 2560 := by
  rw [ixPull]
  exact pullI_le i
theorem dEnd_spec {b : List Int} {s : Int × List Body} (h : bodiesOk s.2 = true) : s.1 < (dEnd b s).1 ∧ (dEnd b s).1 ≤ s.1 + 2 ∧ bodiesOk (dEnd b s).2 = true := by
  unfold dEnd
  cases pk b s.1 4 == 0 with
  | false => exact ⟨by simp only [cond_false]; omega, by simp only [cond_false]; omega, h⟩
  | true => exact ⟨by simp only [cond_true]; omega, by simp only [cond_true]; omega, ok_stepF h (ix032 _).1 (ix032 _).2⟩
theorem bodiesOk_nil : bodiesOk [] = true := rfl
theorem dDraw_spec {b : List Int} {p : Int} : p ≤ (dDraw b p).1 ∧ (dDraw b p).1 ≤ p + 400 ∧ bodiesOk (dDraw b p).2 = true := by
  have k1 := pk_lt b (p + 1) (n := 7) (by omega)
  have k2 := pk_lt b p (n := 3) (by omega)
  have hk : (bif pk b (p + 1 + 1) 20 == 0 then 12 else (pk b (p + 1) 7).toNat) ≤ 12 := by
    cases pk b (p + 1 + 1) 20 == 0 <;> simp only [cond_true, cond_false] <;> omega
  unfold dDraw
  generalize (bif pk b (p + 1 + 1) 20 == 0 then 12 else (pk b (p + 1) 7).toNat) = k at *
  obtain ⟨r1, r2, r3⟩ := dGo_spec (b := b) (k := k) (p := p + 1 + 1 + 1) (id := pk b p 3) (xs := []) (by omega) (by omega) bodiesOk_nil (ids_nil _) (by simpa using hk)
  obtain ⟨e1, e2, e3⟩ := dEnd_spec (b := b) r3
  exact ⟨by omega, by omega, e3⟩
def LSdGo  : LS where
  S := List Int × Int × Unit × List Body × Int × Int
  live := [(0, [none]), (3, [some .body]), (4, [none]), (5, [none])]
  shape := fun s => ([.ptr 1 0 0, .vec 2, .int .i64 s.2.2.2.2.1, .int .i64 s.2.2.2.2.2], [(false, .vec .byte s.1), (true, .box [.vec 0, .int .i64 s.2.1]), (true, .vec .body s.2.2.2.1)])
  get := fun v h => match v, h with
    | [.ptr 1 0 0, .vec 2, .int .i64 id, .int .i64 n], [(false, .vec .byte b), (true, .box [.vec 0, .int .i64 p]), (true, .vec .body xs)] => some (b, p, (), xs, id, n)
    | _, _ => none
  inv := fun s0 s => Holds (s.1 = s0.1 ∧ 0 ≤ s.2.2.2.2.2 ∧ s.2.2.2.2.2 ≤ s0.2.2.2.2.2 ∧ 0 ≤ s.2.1 ∧ s.2.1 + 20 * s.2.2.2.2.2 ≤ s0.2.1 + 20 * s0.2.2.2.2.2 ∧ 0 ≤ s.2.2.2.2.1 ∧ s.2.2.2.2.1 + 3 * s.2.2.2.2.2 ≤ s0.2.2.2.2.1 + 3 * s0.2.2.2.2.2 ∧ bodiesOk s.2.2.2.1 = true ∧ idsLtB s.2.2.2.2.1 s.2.2.2.1 ∧ s.2.2.2.1.length + s.2.2.2.2.2 = s0.2.2.2.2.2 ∧ dGo s.1 s.2.2.2.2.2.toNat s.2.1 s.2.2.2.2.1 s.2.2.2.1 = dGo s0.1 s0.2.2.2.2.2.toNat s0.2.1 s0.2.2.2.2.1 s0.2.2.2.1)
  mu := fun s => s.2.2.2.2.2.toNat
  ok := by
    intro v h s hg
    try dsimp only at hg
    split at hg <;> cases hg
    rfl

def L_l11Bodies : Loops := fun n => match n with
  | 6 => some LSdGo
  | _ => none
noncomputable def fs_l11Bodies : Fs := ⟨[], fun args H => match args, H with
  | [.ptr 1 0 0], [(false, .vec .byte b), (true, .box [.vec 0, .int .i64 p])] => some ((some (0 ≤ p ∧ p + 400 ≤ 1000000000000 ∧ BytesOk b)), .vec 2, [(false, .vec .byte b), (true, .box [.vec 0, .int .i64 (dDraw b p).1]), (true, .vec .body (dDraw b p).2)])
  | _, _ => none⟩

theorem vc_l11Bodies (b : List Int) (p : Int) (Q : SV → List Ent → Prop) :
    fnVC tt (look [(69, fs_rdPick), (51, fs_rdOne), (124, fs_l11Body), (127, fs_specWithin), (63, fs_l9Step)]) (L_l11Bodies) Tryz.f88 [.ptr 1 0 0] [(false, .vec .byte b), (true, .box [.vec 0, .int .i64 p])] Q =
    (let w_ := IntKind.wrap IntKind.i64; let s_ := SV.int IntKind.i64; let n_ := Int.toNat; let ii_ := Ty.ix Ty.int; let A36_ := (p + (1 : Int) + (1 : Int) + (1 : Int)); let A35_ := (g_rdPick b p (3 : Int) % (3 : Int)); let A34_ := (g_rdPick b (p + (1 : Int)) (7 : Int) % (7 : Int)); ((0 : Int) ≤ p ∧ p + (1 : Int) ≤ (1000000000000 : Int) ∧ BytesOk b ∧ (1 : Int) ≤ (3 : Int)) ∧ ((0 : Int) ≤ p + (1 : Int) ∧ p + (1 : Int) + (1 : Int) ≤ (1000000000000 : Int) ∧ BytesOk b ∧ (1 : Int) ≤ (7 : Int)) ∧ ((0 : Int) ≤ p + (1 : Int) + (1 : Int) ∧ p + (1 : Int) + (1 : Int) + (1 : Int) ≤ (1000000000000 : Int) ∧ BytesOk b ∧ (1 : Int) ≤ (20 : Int)) ∧ ifB (g_rdPick b (p + (1 : Int) + (1 : Int)) (20 : Int) % (20 : Int) == (0 : Int)) (Holds (b = b ∧ (0 : Int) ≤ (12 : Int) ∧ (12 : Int) ≤ (12 : Int) ∧ (0 : Int) ≤ p + (1 : Int) + (1 : Int) + (1 : Int) ∧ p + (1 : Int) + (1 : Int) + (1 : Int) + (20 : Int) * (12 : Int) ≤ p + (1 : Int) + (1 : Int) + (1 : Int) + (20 : Int) * (12 : Int) ∧ (0 : Int) ≤ g_rdPick b p (3 : Int) % (3 : Int) ∧ g_rdPick b p (3 : Int) % (3 : Int) + (3 : Int) * (12 : Int) ≤ g_rdPick b p (3 : Int) % (3 : Int) + (3 : Int) * (12 : Int) ∧ bodiesOk [] = true ∧ idsLtB A35_ [] ∧ (0 : Int) + (12 : Int) = (12 : Int) ∧ dGo b (n_ (12 : Int)) A36_ A35_ [] = dGo b (n_ (12 : Int)) A36_ A35_ []) ∧ ∀ (y18 : List Int × Int × Unit × List Body × Int × Int), let y18f0_ := Prod.fst y18; let y18s1_ := Prod.snd y18; let y18f1_ := Prod.fst (Prod.snd y18); let y18s3_ := Prod.snd (Prod.snd (Prod.snd y18)); let y18f3_ := Prod.fst (Prod.snd (Prod.snd (Prod.snd y18))); let y18s4_ := Prod.snd (Prod.snd (Prod.snd (Prod.snd y18))); let y18f4_ := Prod.fst (Prod.snd (Prod.snd (Prod.snd (Prod.snd y18)))); let y18s5_ := Prod.snd (Prod.snd (Prod.snd (Prod.snd (Prod.snd y18)))); let A33_ := A35_; let A32_ := A36_; let A28_ := (↑(List.length y18f3_) : Int); let A25_ := (n_ (g_rdPick y18f0_ (Prod.fst y18s1_ + (1 : Int)) (↑(List.length [(0 : Int), (32 : Int)]) : Int) % (↑(List.length [(0 : Int), (32 : Int)]) : Int))); let A23_ := (Prod.snd y18s4_ - (1 : Int)); let A31_ := (w_ A23_); let A21_ := (Prod.fst (g_l11Body y18f0_ y18f1_ y18f4_)); let A29_ := (Prod.fst y18s3_ ++ [Subtype.val A21_]); let A20_ := (↑(Prod.snd (g_l11Body y18f0_ y18f1_ y18f4_) % (16 : Nat)) : Int); let A30_ := (Prod.fst y18s1_ + A20_ + (1 : Int)); let A27_ := (w_ (Prod.fst y18s4_ + (1 : Int)) + g_rdPick y18f0_ (Prod.fst y18s1_ + A20_) (3 : Int) % (3 : Int)); let A26_ := (w_ (Prod.fst y18s4_ + (1 : Int)) + g_rdPick y18f0_ A30_ (3 : Int) % (3 : Int)); let A24_ := (w_ (Prod.fst y18s4_ + (1 : Int)) + g_rdPick y18f0_ (Prod.fst y18s1_ + A20_ + (1 : Int) + (1 : Int) + (1 : Int) + (1 : Int)) (3 : Int) % (3 : Int)); let A22_ := (Vec.mk (withinS (w_ (w_ (Vec.X (Body.At (Ty.ix Ty.body y18f3_ (n_ (g_rdPick y18f0_ A30_ A28_ % A28_)))) + w_ (g_rdPick y18f0_ (Prod.fst y18s1_ + A20_ + (1 : Int) + (1 : Int)) (256 : Int) % (256 : Int) * (4 : Int))) - (512 : Int))) (2560000 : Int)) (withinS (w_ (w_ (Vec.Y (Body.At (Ty.ix Ty.body y18f3_ (n_ (g_rdPick y18f0_ A30_ A28_ % A28_)))) + w_ (g_rdPick y18f0_ (Prod.fst y18s1_ + A20_ + (1 : Int) + (1 : Int) + (1 : Int)) (256 : Int) % (256 : Int) * (4 : Int))) - (512 : Int))) (2560000 : Int))); let A19_ := (Prod.fst y18s3_ ++ [Body.mk (Body.Id (Subtype.val A21_)) (Body.Shape (Subtype.val A21_)) A22_ (Body.Drive (Subtype.val A21_)) (Body.Mass (Subtype.val A21_)) (Body.Bounce (Subtype.val A21_)) (Body.Rub (Subtype.val A21_)) (Body.Quiet (Subtype.val A21_))]); Holds (Prod.fst y18 = b ∧ (0 : Int) ≤ y18s5_ ∧ y18s5_ ≤ (12 : Int) ∧ (0 : Int) ≤ y18f1_ ∧ y18f1_ + (20 : Int) * y18s5_ ≤ p + (1 : Int) + (1 : Int) + (1 : Int) + (20 : Int) * (12 : Int) ∧ (0 : Int) ≤ y18f4_ ∧ y18f4_ + (3 : Int) * y18s5_ ≤ g_rdPick b p (3 : Int) % (3 : Int) + (3 : Int) * (12 : Int) ∧ bodiesOk y18f3_ = true ∧ idsLtB y18f4_ y18f3_ ∧ A28_ + y18s5_ = (12 : Int) ∧ dGo y18f0_ (n_ y18s5_) y18f1_ y18f4_ y18f3_ = dGo b (n_ (12 : Int)) A32_ A33_ []) → ifB (decide (Prod.snd y18s4_ > (0 : Int))) (((0 : Int) ≤ y18f1_ ∧ y18f1_ + (15 : Int) ≤ (1000000000000 : Int) ∧ BytesOk y18f0_) ∧ ifB (decide (A28_ > (0 : Int))) (((0 : Int) ≤ y18f1_ + A20_ ∧ y18f1_ + A20_ + (1 : Int) ≤ (1000000000000 : Int) ∧ BytesOk y18f0_ ∧ (1 : Int) ≤ (3 : Int)) ∧ ifB (decide (g_rdPick y18f0_ (Prod.fst y18s1_ + A20_) (3 : Int) % (3 : Int) > (0 : Int))) (((0 : Int) ≤ y18f1_ + A20_ + (1 : Int) ∧ y18f1_ + A20_ + (1 : Int) + (1 : Int) ≤ (1000000000000 : Int) ∧ BytesOk y18f0_ ∧ (1 : Int) ≤ A28_) ∧ ((0 : Int) ≤ g_rdPick y18f0_ A30_ A28_ % A28_ ∧ g_rdPick y18f0_ A30_ A28_ % A28_ < A28_) ∧ ((0 : Int) ≤ y18f1_ + A20_ + (1 : Int) + (1 : Int) ∧ y18f1_ + A20_ + (1 : Int) + (1 : Int) + (1 : Int) ≤ (1000000000000 : Int) ∧ BytesOk y18f0_ ∧ (1 : Int) ≤ (256 : Int)) ∧ ((0 : Int) ≤ y18f1_ + A20_ + (1 : Int) + (1 : Int) + (1 : Int) ∧ y18f1_ + A20_ + (1 : Int) + (1 : Int) + (1 : Int) + (1 : Int) ≤ (1000000000000 : Int) ∧ BytesOk y18f0_ ∧ (1 : Int) ≤ (256 : Int)) ∧ (List.length y18f3_ + List.length [Body.mk (Body.Id (Subtype.val A21_)) (Body.Shape (Subtype.val A21_)) A22_ (Body.Drive (Subtype.val A21_)) (Body.Mass (Subtype.val A21_)) (Body.Bounce (Subtype.val A21_)) (Body.Rub (Subtype.val A21_)) (Body.Quiet (Subtype.val A21_))]) * (96 : Nat) ≤ room ∧ ((0 : Int) ≤ y18f1_ + A20_ + (1 : Int) + (1 : Int) + (1 : Int) + (1 : Int) ∧ y18f1_ + A20_ + (1 : Int) + (1 : Int) + (1 : Int) + (1 : Int) + (1 : Int) ≤ (1000000000000 : Int) ∧ BytesOk y18f0_ ∧ (1 : Int) ≤ (3 : Int)) ∧ Holds (Prod.fst y18 = b ∧ (0 : Int) ≤ w_ A23_ ∧ w_ A23_ ≤ (12 : Int) ∧ (0 : Int) ≤ y18f1_ + A20_ + (1 : Int) + (1 : Int) + (1 : Int) + (1 : Int) + (1 : Int) ∧ y18f1_ + A20_ + (1 : Int) + (1 : Int) + (1 : Int) + (1 : Int) + (1 : Int) + (20 : Int) * w_ A23_ ≤ p + (1 : Int) + (1 : Int) + (1 : Int) + (20 : Int) * (12 : Int) ∧ (0 : Int) ≤ w_ A24_ ∧ w_ A24_ + (3 : Int) * w_ A23_ ≤ g_rdPick b p (3 : Int) % (3 : Int) + (3 : Int) * (12 : Int) ∧ bodiesOk A19_ = true ∧ idsLtB (w_ A24_) A19_ ∧ (↑(List.length A19_) : Int) + w_ A23_ = (12 : Int) ∧ dGo y18f0_ (n_ A31_) (Prod.fst y18s1_ + A20_ + (1 : Int) + (1 : Int) + (1 : Int) + (1 : Int) + (1 : Int)) (w_ A24_) A19_ = dGo b (n_ (12 : Int)) A32_ A33_ []) ∧ n_ A31_ < n_ y18s5_) ((List.length y18f3_ + List.length [Subtype.val A21_]) * (96 : Nat) ≤ room ∧ ((0 : Int) ≤ y18f1_ + A20_ + (1 : Int) ∧ y18f1_ + A20_ + (1 : Int) + (1 : Int) ≤ (1000000000000 : Int) ∧ BytesOk y18f0_ ∧ (1 : Int) ≤ (3 : Int)) ∧ Holds (Prod.fst y18 = b ∧ (0 : Int) ≤ w_ A23_ ∧ w_ A23_ ≤ (12 : Int) ∧ (0 : Int) ≤ y18f1_ + A20_ + (1 : Int) + (1 : Int) ∧ y18f1_ + A20_ + (1 : Int) + (1 : Int) + (20 : Int) * w_ A23_ ≤ p + (1 : Int) + (1 : Int) + (1 : Int) + (20 : Int) * (12 : Int) ∧ (0 : Int) ≤ w_ A26_ ∧ w_ A26_ + (3 : Int) * w_ A23_ ≤ g_rdPick b p (3 : Int) % (3 : Int) + (3 : Int) * (12 : Int) ∧ bodiesOk A29_ = true ∧ idsLtB (w_ A26_) A29_ ∧ (↑(List.length A29_) : Int) + w_ A23_ = (12 : Int) ∧ dGo y18f0_ (n_ A31_) (Prod.fst y18s1_ + A20_ + (1 : Int) + (1 : Int)) (w_ A26_) A29_ = dGo b (n_ (12 : Int)) A32_ A33_ []) ∧ n_ A31_ < n_ y18s5_)) ((List.length y18f3_ + List.length [Subtype.val A21_]) * (96 : Nat) ≤ room ∧ ((0 : Int) ≤ y18f1_ + A20_ ∧ y18f1_ + A20_ + (1 : Int) ≤ (1000000000000 : Int) ∧ BytesOk y18f0_ ∧ (1 : Int) ≤ (3 : Int)) ∧ Holds (Prod.fst y18 = b ∧ (0 : Int) ≤ w_ A23_ ∧ w_ A23_ ≤ (12 : Int) ∧ (0 : Int) ≤ y18f1_ + A20_ + (1 : Int) ∧ y18f1_ + A20_ + (1 : Int) + (20 : Int) * w_ A23_ ≤ p + (1 : Int) + (1 : Int) + (1 : Int) + (20 : Int) * (12 : Int) ∧ (0 : Int) ≤ w_ A27_ ∧ w_ A27_ + (3 : Int) * w_ A23_ ≤ g_rdPick b p (3 : Int) % (3 : Int) + (3 : Int) * (12 : Int) ∧ bodiesOk A29_ = true ∧ idsLtB (w_ A27_) A29_ ∧ (↑(List.length A29_) : Int) + w_ A23_ = (12 : Int) ∧ dGo y18f0_ (n_ A31_) A30_ (w_ A27_) A29_ = dGo b (n_ (12 : Int)) A32_ A33_ []) ∧ n_ A31_ < n_ y18s5_)) (((0 : Int) ≤ y18f1_ ∧ y18f1_ + (1 : Int) ≤ (1000000000000 : Int) ∧ BytesOk y18f0_ ∧ (1 : Int) ≤ (4 : Int)) ∧ ifB (g_rdPick y18f0_ y18f1_ (4 : Int) % (4 : Int) == (0 : Int)) (((0 : Int) ≤ y18f1_ + (1 : Int) ∧ y18f1_ + (1 : Int) + (1 : Int) ≤ (1000000000000 : Int) ∧ BytesOk y18f0_ ∧ (1 : Nat) ≤ List.length [(0 : Int), (32 : Int)]) ∧ (bodiesOk y18f3_ = true ∧ (0 : Int) ≤ ii_ [(0 : Int), (32 : Int)] A25_ ∧ ii_ [(0 : Int), (32 : Int)] A25_ ≤ (2560 : Int)) ∧ ((0 : Nat) + List.length (stepF y18f3_ (ii_ [(0 : Int), (32 : Int)] A25_))) * (96 : Nat) ≤ room ∧ Q (SV.vec (2 : Nat)) [(false, Blk.vec Ty.byte y18f0_), (true, Blk.box [SV.vec (0 : Nat), s_ (Prod.fst y18s1_ + (1 : Int) + (1 : Int))]), (true, Blk.vec Ty.body ([] ++ stepF y18f3_ (ii_ [(0 : Int), (32 : Int)] A25_)))]) (Q (SV.vec (2 : Nat)) [(false, Blk.vec Ty.byte y18f0_), (true, Blk.box [SV.vec (0 : Nat), s_ (Prod.fst y18s1_ + (1 : Int))]), (true, Blk.vec Ty.body y18f3_)]))) (Holds (b = b ∧ (0 : Int) ≤ g_rdPick b (p + (1 : Int)) (7 : Int) % (7 : Int) ∧ g_rdPick b (p + (1 : Int)) (7 : Int) % (7 : Int) ≤ g_rdPick b (p + (1 : Int)) (7 : Int) % (7 : Int) ∧ (0 : Int) ≤ p + (1 : Int) + (1 : Int) + (1 : Int) ∧ p + (1 : Int) + (1 : Int) + (1 : Int) + (20 : Int) * A34_ ≤ p + (1 : Int) + (1 : Int) + (1 : Int) + (20 : Int) * A34_ ∧ (0 : Int) ≤ g_rdPick b p (3 : Int) % (3 : Int) ∧ g_rdPick b p (3 : Int) % (3 : Int) + (3 : Int) * A34_ ≤ g_rdPick b p (3 : Int) % (3 : Int) + (3 : Int) * A34_ ∧ bodiesOk [] = true ∧ idsLtB A35_ [] ∧ (0 : Int) + g_rdPick b (p + (1 : Int)) (7 : Int) % (7 : Int) = g_rdPick b (p + (1 : Int)) (7 : Int) % (7 : Int) ∧ dGo b (n_ A34_) A36_ A35_ [] = dGo b (n_ A34_) A36_ A35_ []) ∧ ∀ (y1 : List Int × Int × Unit × List Body × Int × Int), let y1f0_ := Prod.fst y1; let y1s1_ := Prod.snd y1; let y1f1_ := Prod.fst (Prod.snd y1); let y1s3_ := Prod.snd (Prod.snd (Prod.snd y1)); let y1f3_ := Prod.fst (Prod.snd (Prod.snd (Prod.snd y1))); let y1s4_ := Prod.snd (Prod.snd (Prod.snd (Prod.snd y1))); let y1f4_ := Prod.fst (Prod.snd (Prod.snd (Prod.snd (Prod.snd y1)))); let y1s5_ := Prod.snd (Prod.snd (Prod.snd (Prod.snd (Prod.snd y1)))); let A17_ := A35_; let A16_ := A36_; let A12_ := (↑(List.length y1f3_) : Int); let A9_ := (n_ (g_rdPick y1f0_ (Prod.fst y1s1_ + (1 : Int)) (↑(List.length [(0 : Int), (32 : Int)]) : Int) % (↑(List.length [(0 : Int), (32 : Int)]) : Int))); let A8_ := (Prod.snd y1s4_ - (1 : Int)); let A15_ := (w_ A8_); let A6_ := A34_; let A4_ := (Prod.fst (g_l11Body y1f0_ y1f1_ y1f4_)); let A13_ := (Prod.fst y1s3_ ++ [Subtype.val A4_]); let A3_ := (↑(Prod.snd (g_l11Body y1f0_ y1f1_ y1f4_) % (16 : Nat)) : Int); let A14_ := (Prod.fst y1s1_ + A3_ + (1 : Int)); let A11_ := (w_ (Prod.fst y1s4_ + (1 : Int)) + g_rdPick y1f0_ (Prod.fst y1s1_ + A3_) (3 : Int) % (3 : Int)); let A10_ := (w_ (Prod.fst y1s4_ + (1 : Int)) + g_rdPick y1f0_ A14_ (3 : Int) % (3 : Int)); let A7_ := (w_ (Prod.fst y1s4_ + (1 : Int)) + g_rdPick y1f0_ (Prod.fst y1s1_ + A3_ + (1 : Int) + (1 : Int) + (1 : Int) + (1 : Int)) (3 : Int) % (3 : Int)); let A5_ := (Vec.mk (withinS (w_ (w_ (Vec.X (Body.At (Ty.ix Ty.body y1f3_ (n_ (g_rdPick y1f0_ A14_ A12_ % A12_)))) + w_ (g_rdPick y1f0_ (Prod.fst y1s1_ + A3_ + (1 : Int) + (1 : Int)) (256 : Int) % (256 : Int) * (4 : Int))) - (512 : Int))) (2560000 : Int)) (withinS (w_ (w_ (Vec.Y (Body.At (Ty.ix Ty.body y1f3_ (n_ (g_rdPick y1f0_ A14_ A12_ % A12_)))) + w_ (g_rdPick y1f0_ (Prod.fst y1s1_ + A3_ + (1 : Int) + (1 : Int) + (1 : Int)) (256 : Int) % (256 : Int) * (4 : Int))) - (512 : Int))) (2560000 : Int))); let A2_ := (Prod.fst y1s3_ ++ [Body.mk (Body.Id (Subtype.val A4_)) (Body.Shape (Subtype.val A4_)) A5_ (Body.Drive (Subtype.val A4_)) (Body.Mass (Subtype.val A4_)) (Body.Bounce (Subtype.val A4_)) (Body.Rub (Subtype.val A4_)) (Body.Quiet (Subtype.val A4_))]); Holds (Prod.fst y1 = b ∧ (0 : Int) ≤ y1s5_ ∧ y1s5_ ≤ g_rdPick b (p + (1 : Int)) (7 : Int) % (7 : Int) ∧ (0 : Int) ≤ y1f1_ ∧ y1f1_ + (20 : Int) * y1s5_ ≤ p + (1 : Int) + (1 : Int) + (1 : Int) + (20 : Int) * A6_ ∧ (0 : Int) ≤ y1f4_ ∧ y1f4_ + (3 : Int) * y1s5_ ≤ g_rdPick b p (3 : Int) % (3 : Int) + (3 : Int) * A6_ ∧ bodiesOk y1f3_ = true ∧ idsLtB y1f4_ y1f3_ ∧ A12_ + y1s5_ = g_rdPick b (p + (1 : Int)) (7 : Int) % (7 : Int) ∧ dGo y1f0_ (n_ y1s5_) y1f1_ y1f4_ y1f3_ = dGo b (n_ A6_) A16_ A17_ []) → ifB (decide (Prod.snd y1s4_ > (0 : Int))) (((0 : Int) ≤ y1f1_ ∧ y1f1_ + (15 : Int) ≤ (1000000000000 : Int) ∧ BytesOk y1f0_) ∧ ifB (decide (A12_ > (0 : Int))) (((0 : Int) ≤ y1f1_ + A3_ ∧ y1f1_ + A3_ + (1 : Int) ≤ (1000000000000 : Int) ∧ BytesOk y1f0_ ∧ (1 : Int) ≤ (3 : Int)) ∧ ifB (decide (g_rdPick y1f0_ (Prod.fst y1s1_ + A3_) (3 : Int) % (3 : Int) > (0 : Int))) (((0 : Int) ≤ y1f1_ + A3_ + (1 : Int) ∧ y1f1_ + A3_ + (1 : Int) + (1 : Int) ≤ (1000000000000 : Int) ∧ BytesOk y1f0_ ∧ (1 : Int) ≤ A12_) ∧ ((0 : Int) ≤ g_rdPick y1f0_ A14_ A12_ % A12_ ∧ g_rdPick y1f0_ A14_ A12_ % A12_ < A12_) ∧ ((0 : Int) ≤ y1f1_ + A3_ + (1 : Int) + (1 : Int) ∧ y1f1_ + A3_ + (1 : Int) + (1 : Int) + (1 : Int) ≤ (1000000000000 : Int) ∧ BytesOk y1f0_ ∧ (1 : Int) ≤ (256 : Int)) ∧ ((0 : Int) ≤ y1f1_ + A3_ + (1 : Int) + (1 : Int) + (1 : Int) ∧ y1f1_ + A3_ + (1 : Int) + (1 : Int) + (1 : Int) + (1 : Int) ≤ (1000000000000 : Int) ∧ BytesOk y1f0_ ∧ (1 : Int) ≤ (256 : Int)) ∧ (List.length y1f3_ + List.length [Body.mk (Body.Id (Subtype.val A4_)) (Body.Shape (Subtype.val A4_)) A5_ (Body.Drive (Subtype.val A4_)) (Body.Mass (Subtype.val A4_)) (Body.Bounce (Subtype.val A4_)) (Body.Rub (Subtype.val A4_)) (Body.Quiet (Subtype.val A4_))]) * (96 : Nat) ≤ room ∧ ((0 : Int) ≤ y1f1_ + A3_ + (1 : Int) + (1 : Int) + (1 : Int) + (1 : Int) ∧ y1f1_ + A3_ + (1 : Int) + (1 : Int) + (1 : Int) + (1 : Int) + (1 : Int) ≤ (1000000000000 : Int) ∧ BytesOk y1f0_ ∧ (1 : Int) ≤ (3 : Int)) ∧ Holds (Prod.fst y1 = b ∧ (0 : Int) ≤ w_ A8_ ∧ w_ A8_ ≤ g_rdPick b (p + (1 : Int)) (7 : Int) % (7 : Int) ∧ (0 : Int) ≤ y1f1_ + A3_ + (1 : Int) + (1 : Int) + (1 : Int) + (1 : Int) + (1 : Int) ∧ y1f1_ + A3_ + (1 : Int) + (1 : Int) + (1 : Int) + (1 : Int) + (1 : Int) + (20 : Int) * w_ A8_ ≤ p + (1 : Int) + (1 : Int) + (1 : Int) + (20 : Int) * A6_ ∧ (0 : Int) ≤ w_ A7_ ∧ w_ A7_ + (3 : Int) * w_ A8_ ≤ g_rdPick b p (3 : Int) % (3 : Int) + (3 : Int) * A6_ ∧ bodiesOk A2_ = true ∧ idsLtB (w_ A7_) A2_ ∧ (↑(List.length A2_) : Int) + w_ A8_ = g_rdPick b (p + (1 : Int)) (7 : Int) % (7 : Int) ∧ dGo y1f0_ (n_ A15_) (Prod.fst y1s1_ + A3_ + (1 : Int) + (1 : Int) + (1 : Int) + (1 : Int) + (1 : Int)) (w_ A7_) A2_ = dGo b (n_ A6_) A16_ A17_ []) ∧ n_ A15_ < n_ y1s5_) ((List.length y1f3_ + List.length [Subtype.val A4_]) * (96 : Nat) ≤ room ∧ ((0 : Int) ≤ y1f1_ + A3_ + (1 : Int) ∧ y1f1_ + A3_ + (1 : Int) + (1 : Int) ≤ (1000000000000 : Int) ∧ BytesOk y1f0_ ∧ (1 : Int) ≤ (3 : Int)) ∧ Holds (Prod.fst y1 = b ∧ (0 : Int) ≤ w_ A8_ ∧ w_ A8_ ≤ g_rdPick b (p + (1 : Int)) (7 : Int) % (7 : Int) ∧ (0 : Int) ≤ y1f1_ + A3_ + (1 : Int) + (1 : Int) ∧ y1f1_ + A3_ + (1 : Int) + (1 : Int) + (20 : Int) * w_ A8_ ≤ p + (1 : Int) + (1 : Int) + (1 : Int) + (20 : Int) * A6_ ∧ (0 : Int) ≤ w_ A10_ ∧ w_ A10_ + (3 : Int) * w_ A8_ ≤ g_rdPick b p (3 : Int) % (3 : Int) + (3 : Int) * A6_ ∧ bodiesOk A13_ = true ∧ idsLtB (w_ A10_) A13_ ∧ (↑(List.length A13_) : Int) + w_ A8_ = g_rdPick b (p + (1 : Int)) (7 : Int) % (7 : Int) ∧ dGo y1f0_ (n_ A15_) (Prod.fst y1s1_ + A3_ + (1 : Int) + (1 : Int)) (w_ A10_) A13_ = dGo b (n_ A6_) A16_ A17_ []) ∧ n_ A15_ < n_ y1s5_)) ((List.length y1f3_ + List.length [Subtype.val A4_]) * (96 : Nat) ≤ room ∧ ((0 : Int) ≤ y1f1_ + A3_ ∧ y1f1_ + A3_ + (1 : Int) ≤ (1000000000000 : Int) ∧ BytesOk y1f0_ ∧ (1 : Int) ≤ (3 : Int)) ∧ Holds (Prod.fst y1 = b ∧ (0 : Int) ≤ w_ A8_ ∧ w_ A8_ ≤ g_rdPick b (p + (1 : Int)) (7 : Int) % (7 : Int) ∧ (0 : Int) ≤ y1f1_ + A3_ + (1 : Int) ∧ y1f1_ + A3_ + (1 : Int) + (20 : Int) * w_ A8_ ≤ p + (1 : Int) + (1 : Int) + (1 : Int) + (20 : Int) * A6_ ∧ (0 : Int) ≤ w_ A11_ ∧ w_ A11_ + (3 : Int) * w_ A8_ ≤ g_rdPick b p (3 : Int) % (3 : Int) + (3 : Int) * A6_ ∧ bodiesOk A13_ = true ∧ idsLtB (w_ A11_) A13_ ∧ (↑(List.length A13_) : Int) + w_ A8_ = g_rdPick b (p + (1 : Int)) (7 : Int) % (7 : Int) ∧ dGo y1f0_ (n_ A15_) A14_ (w_ A11_) A13_ = dGo b (n_ A6_) A16_ A17_ []) ∧ n_ A15_ < n_ y1s5_)) (((0 : Int) ≤ y1f1_ ∧ y1f1_ + (1 : Int) ≤ (1000000000000 : Int) ∧ BytesOk y1f0_ ∧ (1 : Int) ≤ (4 : Int)) ∧ ifB (g_rdPick y1f0_ y1f1_ (4 : Int) % (4 : Int) == (0 : Int)) (((0 : Int) ≤ y1f1_ + (1 : Int) ∧ y1f1_ + (1 : Int) + (1 : Int) ≤ (1000000000000 : Int) ∧ BytesOk y1f0_ ∧ (1 : Nat) ≤ List.length [(0 : Int), (32 : Int)]) ∧ (bodiesOk y1f3_ = true ∧ (0 : Int) ≤ ii_ [(0 : Int), (32 : Int)] A9_ ∧ ii_ [(0 : Int), (32 : Int)] A9_ ≤ (2560 : Int)) ∧ ((0 : Nat) + List.length (stepF y1f3_ (ii_ [(0 : Int), (32 : Int)] A9_))) * (96 : Nat) ≤ room ∧ Q (SV.vec (2 : Nat)) [(false, Blk.vec Ty.byte y1f0_), (true, Blk.box [SV.vec (0 : Nat), s_ (Prod.fst y1s1_ + (1 : Int) + (1 : Int))]), (true, Blk.vec Ty.body ([] ++ stepF y1f3_ (ii_ [(0 : Int), (32 : Int)] A9_)))]) (Q (SV.vec (2 : Nat)) [(false, Blk.vec Ty.byte y1f0_), (true, Blk.box [SV.vec (0 : Nat), s_ (Prod.fst y1s1_ + (1 : Int))]), (true, Blk.vec Ty.body y1f3_)])))) := by kernel_rfl

theorem ok_l11Bodies : FsOk Tryz.prog 88 fs_l11Bodies := fsOk_of tt_ok (tabFs_cons ok_rdPick (tabFs_cons ok_rdOne (tabFs_cons ok_l11Body (tabFs_cons ok_specWithin (tabFs_cons ok_l9Step tabFs_nil))))) mixed Tryz.func88 (by kernel_rfl) (by kernel_rfl) (by
    intro args LL p r HH h hp
    unfold fs_l11Bodies at h
    dsimp only at h
    split at h
    case h_2 => cases h
    rename_i b p
    simp only [Option.some.injEq, Prod.mk.injEq] at h
    obtain ⟨rfl, rfl, rfl⟩ := h
    refine ⟨by simp [Form, stays], (L_l11Bodies), ?_⟩
    rw [vc_l11Bodies]
    try dsimp only
    obtain ⟨hp0, hp1, hby⟩ := hp _ rfl
    have k1 := pk_lt b (p + 1) (n := 7) (by omega)
    have k2 := pk_lt b p (n := 3) (by omega)
    simp only [pk] at k1 k2
    refine ⟨⟨hp0, by omega, hby, by omega⟩, ⟨by omega, by omega, hby, by omega⟩, ⟨by omega, by omega, hby, by omega⟩, ifB_of (fun c => ⟨⟨(by trivial), by omega, by omega, by omega, by omega, k2.1, by omega, (by trivial), ids_nil _, by omega, (by trivial)⟩, ?_⟩) (fun c => ⟨⟨(by trivial), k1.1, by omega, by omega, by omega, k2.1, by omega, (by trivial), ids_nil _, by omega, (by trivial)⟩, ?_⟩)⟩
    case' refine_1 =>
      have hd : dDraw b p = dEnd b (dGo b (12 : Int).toNat (p + 1 + 1 + 1) (g_rdPick b p 3 % 3) []) := by
        unfold dDraw
        rw [show (pk b (p + 1 + 1) 20 == 0) = true from c]
        rfl
      obtain ⟨n0, e0, n12⟩ : ∃ n0 : Int, n0 = 12 ∧ n0 ≤ 12 := ⟨12, rfl, by omega⟩
      rw [hd, ← e0]
      clear e0
    case' refine_2 =>
      have hd : dDraw b p = dEnd b (dGo b (g_rdPick b (p + 1) 7 % 7).toNat (p + 1 + 1 + 1) (g_rdPick b p 3 % 3) []) := by
        unfold dDraw
        rw [show (pk b (p + 1 + 1) 20 == 0) = false from c]
        rfl
      have n12 : g_rdPick b (p + 1) 7 % 7 ≤ 12 := by omega
      rw [hd]
      generalize g_rdPick b (p + 1) 7 % 7 = n0 at *
    all_goals
      clear hd c
      generalize g_rdPick b p 3 % 3 = id0 at *
      rintro ⟨b', p', u, xs, id, n⟩ ⟨h⟩
      dsimp only at h ⊢
      obtain ⟨rfl, i1, i2, i3, i4, i5, i6, i7, i8, i9, i10⟩ := h
      refine ifB_of (fun c => ?_) (fun c => ?_)
      · have c := of_decide_eq_true c
        refine ⟨⟨i3, by omega, hby⟩, ifB_of (fun c1 => ⟨⟨by omega, by omega, hby, by omega⟩, ifB_of (fun c2 => ?_) (fun c2 => ?_)⟩) (fun c1 => ?_)⟩
        · have hl : 0 < (xs.length : Int) := of_decide_eq_true c1
          have hx := pk_lt b' (p' + cn b' p' id + 1) (n := xs.length) (by omega)
          have e := dGo_next (b := b') (p := p') (id := id) (topP := p + 1 + 1 + 1 + 20 * n0) (topI := id0 + 3 * n0) (show dStep b' p' id xs = (p' + cn b' p' id + 1 + 1 + 1 + 1 + 1, W (W (id + 1) + pk b' (p' + cn b' p' id + 1 + 1 + 1 + 1) 3), xs ++ [{ bd b' p' id with At := nearP b' (p' + cn b' p' id + 1 + 1) (Ty.ix .body xs (pk b' (p' + cn b' p' id + 1) xs.length).toNat).At }]) by unfold dStep; dsimp only; rw [c1, show decide (pk b' (p' + cn b' p' id) 3 > 0) = true from c2]; rfl) c i2 n12 i3 i4 i5 i6 (by omega) i7 i8 i9 i10
          exact ⟨⟨by omega, by omega, hby, by omega⟩, hx, ⟨by omega, by omega, hby, by omega⟩, ⟨by omega, by omega, hby, by omega⟩, by simp only [room, List.length_singleton]; omega, ⟨by omega, by omega, hby, by omega⟩, ⟨e.1⟩, e.2⟩
        · have e := dGo_next (b := b') (p := p') (id := id) (topP := p + 1 + 1 + 1 + 20 * n0) (topI := id0 + 3 * n0) (show dStep b' p' id xs = (p' + cn b' p' id + 1 + 1, W (W (id + 1) + pk b' (p' + cn b' p' id + 1) 3), xs ++ [bd b' p' id]) by unfold dStep; dsimp only; rw [c1, show decide (pk b' (p' + cn b' p' id) 3 > 0) = false from c2]; rfl) c i2 n12 i3 i4 i5 i6 (by omega) i7 i8 i9 i10
          exact ⟨by simp only [room, List.length_singleton]; omega, ⟨by omega, by omega, hby, by omega⟩, ⟨e.1⟩, e.2⟩
        · have e := dGo_next (b := b') (p := p') (id := id) (topP := p + 1 + 1 + 1 + 20 * n0) (topI := id0 + 3 * n0) (show dStep b' p' id xs = (p' + cn b' p' id + 1, W (W (id + 1) + pk b' (p' + cn b' p' id) 3), xs ++ [bd b' p' id]) by unfold dStep; dsimp only; rw [c1]; rfl) c i2 n12 i3 i4 i5 i6 (by omega) i7 i8 i9 i10
          exact ⟨by simp only [room, List.length_singleton]; omega, ⟨by omega, by omega, hby, by omega⟩, ⟨e.1⟩, e.2⟩
      · have c := of_decide_eq_false c
        have hn : n.toNat = 0 := by omega
        rw [hn] at i10
        have i10 : (p', xs) = _ := i10
        rw [← i10]
        have hle := bodiesOk_len i7
        refine ⟨⟨i3, by omega, hby, by omega⟩, ifB_of (fun c1 => ?_) (fun c1 => ?_)⟩
        · have hlf := length_stepF xs (Ty.ix .int ([0, 32] : List Int) (g_rdPick b' (p' + 1) 2 % 2).toNat)
          refine ⟨⟨by omega, by omega, hby, by simp⟩, ⟨i7, (ix032 _).1, (ix032 _).2⟩, by simp only [room, length_stepF]; omega, ?_⟩
          have hd : dEnd b' (p', xs) = (p' + 1 + 1, stepF xs (Ty.ix .int ([0, 32] : List Int) (g_rdPick b' (p' + 1) 2 % 2).toNat)) := by
            unfold dEnd
            rw [show (pk b' (p', xs).1 4 == 0) = true from c1]
            rfl
          rw [hd]
          exact ⟨(by trivial), (by trivial)⟩
        · have hd : dEnd b' (p', xs) = (p' + 1, xs) := by
            unfold dEnd
            rw [show (pk b' (p', xs).1 4 == 0) = false from c1]
            rfl
          rw [hd]
          exact ⟨(by trivial), (by trivial)⟩)

def bodiesP (xs : List Body) : Prop := xs.length ≤ 13
instance : Nonempty {x : List Body // bodiesP x} := ⟨⟨[], by simp [bodiesP]⟩⟩
noncomputable def g_l11AnyBodies (b : List Int) (p : Int) : ({x : List Body // bodiesP x}) × Nat := someAns tt (look [(69, fs_rdPick), (88, fs_l11Bodies), (87, fs_l11AnyBody)]) Tryz.f50 [.ptr 1 0 0] [(false, .vec .byte b), (true, .box [.vec 0, .int .i64 p])] (fun x : ({x : List Body // bodiesP x}) × Nat => (.vec 2 : SV)) (fun x : ({x : List Body // bodiesP x}) × Nat => ([(false, .vec .byte b), (true, .box [.vec 0, .int .i64 (p + ((x.2 % 451 : Nat) : Int))]), (true, .vec .body (x.1.1))] : List Ent))
noncomputable def fs_l11AnyBodies : Fs := ⟨[], fun args H => match args, H with
  | [.ptr 1 0 0], [(false, .vec .byte b), (true, .box [.vec 0, .int .i64 p])] => some ((some (0 ≤ p ∧ p + 450 ≤ 1000000000000 ∧ BytesOk b)), .vec 2, [(false, .vec .byte b), (true, .box [.vec 0, .int .i64 (p + (((g_l11AnyBodies b p).2 % 451 : Nat) : Int))]), (true, .vec .body ((g_l11AnyBodies b p).1.1))])
  | _, _ => none⟩

theorem vc_l11AnyBodies (b : List Int) (p : Int) (Q : SV → List Ent → Prop) :
    fnVC tt (look [(69, fs_rdPick), (88, fs_l11Bodies), (87, fs_l11AnyBody)]) L0 Tryz.f50 [.ptr 1 0 0] [(false, .vec .byte b), (true, .box [.vec 0, .int .i64 p])] Q =
    (((0 : Int) ≤ p ∧ p + (400 : Int) ≤ (1000000000000 : Int) ∧ BytesOk b) ∧ ifB ((↑(List.length (Prod.snd (dDraw b p))) : Int) == (0 : Int)) (Q (SV.vec (2 : Nat)) [(false, Blk.vec Ty.byte b), (true, Blk.box [SV.vec (0 : Nat), SV.int IntKind.i64 (Prod.fst (dDraw b p))]), (true, Blk.vec Ty.body (Prod.snd (dDraw b p)))]) (((0 : Int) ≤ Prod.fst (dDraw b p) ∧ Prod.fst (dDraw b p) + (1 : Int) ≤ (1000000000000 : Int) ∧ BytesOk b ∧ (1 : Int) ≤ (↑(List.length (Prod.snd (dDraw b p))) : Int)) ∧ ((0 : Int) ≤ Prod.fst (dDraw b p) + (1 : Int) ∧ Prod.fst (dDraw b p) + (1 : Int) + (1 : Int) ≤ (1000000000000 : Int) ∧ BytesOk b ∧ (1 : Int) ≤ (20 : Int)) ∧ ifB (g_rdPick b (Prod.fst (dDraw b p) + (1 : Int)) (20 : Int) % (20 : Int) == (0 : Int)) (((0 : Int) ≤ Prod.fst (dDraw b p) + (1 : Int) + (1 : Int) ∧ Prod.fst (dDraw b p) + (1 : Int) + (1 : Int) + (24 : Int) ≤ (1000000000000 : Int) ∧ BytesOk b) ∧ ((0 : Int) ≤ g_rdPick b (Prod.fst (dDraw b p)) (↑(List.length (Prod.snd (dDraw b p))) : Int) % (↑(List.length (Prod.snd (dDraw b p))) : Int) ∧ g_rdPick b (Prod.fst (dDraw b p)) (↑(List.length (Prod.snd (dDraw b p))) : Int) % (↑(List.length (Prod.snd (dDraw b p))) : Int) < (↑(List.length (Prod.snd (dDraw b p))) : Int)) ∧ Q (SV.vec (2 : Nat)) [(false, Blk.vec Ty.byte b), (true, Blk.box [SV.vec (0 : Nat), SV.int IntKind.i64 (Prod.fst (dDraw b p) + (1 : Int) + (1 : Int) + (↑(Prod.snd (g_l11AnyBody b (Prod.fst (dDraw b p) + (1 : Int) + (1 : Int))) % (25 : Nat)) : Int))]), (true, Blk.vec Ty.body (List.set (Prod.snd (dDraw b p)) (Int.toNat (g_rdPick b (Prod.fst (dDraw b p)) (↑(List.length (Prod.snd (dDraw b p))) : Int) % (↑(List.length (Prod.snd (dDraw b p))) : Int))) (Prod.fst (g_l11AnyBody b (Prod.fst (dDraw b p) + (1 : Int) + (1 : Int))))))]) (ifB (g_rdPick b (Prod.fst (dDraw b p) + (1 : Int)) (20 : Int) % (20 : Int) == (1 : Int)) (((0 : Int) ≤ (0 : Int) ∧ (0 : Int) < (↑(List.length (Prod.snd (dDraw b p))) : Int)) ∧ (List.length (Prod.snd (dDraw b p)) + List.length [Ty.ix Ty.body (Prod.snd (dDraw b p)) (Int.toNat (0 : Int))]) * (96 : Nat) ≤ room ∧ Q (SV.vec (2 : Nat)) [(false, Blk.vec Ty.byte b), (true, Blk.box [SV.vec (0 : Nat), SV.int IntKind.i64 (Prod.fst (dDraw b p) + (1 : Int) + (1 : Int))]), (true, Blk.vec Ty.body (Prod.snd (dDraw b p) ++ [Ty.ix Ty.body (Prod.snd (dDraw b p)) (Int.toNat (0 : Int))]))]) (Q (SV.vec (2 : Nat)) [(false, Blk.vec Ty.byte b), (true, Blk.box [SV.vec (0 : Nat), SV.int IntKind.i64 (Prod.fst (dDraw b p) + (1 : Int) + (1 : Int))]), (true, Blk.vec Ty.body (Prod.snd (dDraw b p)))])))) := by kernel_rfl

theorem ok_l11AnyBodies : FsOk Tryz.prog 50 fs_l11AnyBodies := fsOk_of tt_ok (tabFs_cons ok_rdPick (tabFs_cons ok_l11Bodies (tabFs_cons ok_l11AnyBody tabFs_nil))) mixed Tryz.func50 (by kernel_rfl) (by kernel_rfl) (by
    intro args LL p0 r HH h hp
    unfold fs_l11AnyBodies at h
    dsimp only at h
    split at h
    case h_2 => cases h
    rename_i b p
    simp only [Option.some.injEq, Prod.mk.injEq] at h
    obtain ⟨rfl, rfl, rfl⟩ := h
    refine ⟨by simp [Form, stays], L0, ?_⟩
    obtain ⟨hp0, hp1, hby⟩ := hp _ rfl
    refine someAns_ok (R := (fun x : ({x : List Body // bodiesP x}) × Nat => (.vec 2 : SV))) (HH := (fun x : ({x : List Body // bodiesP x}) × Nat => ([(false, .vec .byte b), (true, .box [.vec 0, .int .i64 (p + ((x.2 % 451 : Nat) : Int))]), (true, .vec .body (x.1.1))] : List Ent))) (by kernel_rfl) ?_
    have fin : ∀ (z : List Body) (p' : Int), bodiesP z → p ≤ p' → p' ≤ p + 450 → ∃ x : ({x : List Body // bodiesP x}) × Nat, ((.vec 2 : SV) : SV) = (fun x : ({x : List Body // bodiesP x}) × Nat => (.vec 2 : SV)) x ∧ (([(false, .vec .byte b), (true, .box [.vec 0, .int .i64 p']), (true, .vec .body (z))] : List Ent) : List Ent) = (fun x : ({x : List Body // bodiesP x}) × Nat => ([(false, .vec .byte b), (true, .box [.vec 0, .int .i64 (p + ((x.2 % 451 : Nat) : Int))]), (true, .vec .body (x.1.1))] : List Ent)) x := fun z p' hpred h1 h2 => ⟨(⟨z, hpred⟩, (p' - p).toNat), rfl, by
      have : p + (((p' - p).toNat % 451 : Nat) : Int) = p' := by omega
      dsimp only
      rw [this]⟩
    rw [vc_l11AnyBodies]
    try dsimp only
    try dsimp only at fin
    obtain ⟨d1, d2, d3⟩ := dDraw_spec (b := b) (p := p)
    have dl := bodiesOk_len d3
    generalize dDraw b p = d at *
    obtain ⟨q, xs⟩ := d
    dsimp only at d1 d2 d3 dl ⊢
    refine ⟨⟨hp0, by omega, hby⟩, ifB_of (fun c => ?_) (fun c => ?_)⟩
    · exact fin _ _ (by simp only [bodiesP]; omega) (by omega) (by omega)
    · have hl : 0 < (xs.length : Int) := by
        have : ¬ (xs.length : Int) = 0 := by simpa using c
        omega
      have hk := pk_lt b q (n := xs.length) (by omega)
      simp only [pk] at hk
      refine ⟨⟨by omega, by omega, hby, by omega⟩, ⟨by omega, by omega, hby, by omega⟩, ifB_of (fun _ => ⟨⟨by omega, by omega, hby⟩, hk, fin _ _ (by simp only [bodiesP, List.length_set]; omega) (by omega) (by omega)⟩) (fun _ => ifB_of (fun _ => ?_) (fun _ => ?_))⟩
      · exact ⟨⟨by omega, hl⟩, by simp only [room, List.length_cons, List.length_nil]; omega, fin _ _ (by simp only [bodiesP, List.length_append, List.length_cons, List.length_nil]; omega) (by omega) (by omega)⟩
      · exact fin _ _ (by simp only [bodiesP]; omega) (by omega) (by omega))

def pushD (z : List Body × List Contact) : Prop := z.1.length ≤ 13 ∧ z.2.length ≤ 145
instance : Nonempty {x : List Body × List Contact // pushD x} := ⟨⟨([], []), by simp [pushD]⟩⟩
/-- So many steps of a world. -/
def wGo : Nat → Int × Int × List Body × List Pair → Int × Int × List Body × List Pair
  | 0, w => w
  | n + 1, w => wGo n (stepTick (worldOk w.1 w.2.1 w.2.2.1 w.2.2.2) w.1, orI (worldOk w.1 w.2.1 w.2.2.1 w.2.2.2) w.2.1, stepBodies (worldOk w.1 w.2.1 w.2.2.1 w.2.2.2) w.1 w.2.1 w.2.2.1, stepPs (worldOk w.1 w.2.1 w.2.2.1 w.2.2.2) w.1 w.2.1 w.2.2.1 w.2.2.2)
def wDraw (b : List Int) (p : Int) : Int × (Int × Int × List Body × List Pair) :=
  ((dDraw b (p + 1)).1 + 1, wGo (pk b (dDraw b (p + 1)).1 4).toNat (0, pullOf (Ty.ix .int ([0, 32, 32, 8, 2560] : List Int) (pk b p 5).toNat), (dDraw b (p + 1)).2, []))
def worldD (z : Int × Int × List Body × List Pair) : Prop := z.2.2.1.length ≤ 13 ∧ z.2.2.2.length ≤ 145
instance : Nonempty {x : Int × Int × List Body × List Pair // worldD x} := ⟨⟨(0, 0, [], []), by simp [worldD]⟩⟩
theorem stepBodies12 (ok : Bool) (t p : Int) {xs : List Body} (h : xs.length ≤ 12) : (stepBodies ok t p xs).length ≤ 12 := by
  unfold stepBodies
  have := length_stepOf xs p
  cases ok <;> cases t == 100000 <;> simp only [cond_true, cond_false, List.length_nil] <;> omega
theorem stepPs144 (ok : Bool) (t p : Int) (xs : List Body) {ps : List Pair} (h : ps.length ≤ 144) : (stepPs ok t p xs ps).length ≤ 144 := by
  unfold stepPs
  have := length_stepPairs (stepOf xs p)
  cases ok <;> cases t == 100000 <;> simp only [cond_true, cond_false, List.length_nil] <;> omega
theorem wGo_len : ∀ (n : Nat) {w : Int × Int × List Body × List Pair}, w.2.2.1.length ≤ 12 → w.2.2.2.length ≤ 144 → (wGo n w).2.2.1.length ≤ 12 ∧ (wGo n w).2.2.2.length ≤ 144
  | 0, _, h1, h2 => ⟨h1, h2⟩
  | n + 1, w, h1, h2 => wGo_len n (stepBodies12 _ _ _ h1) (stepPs144 _ _ _ _ h2)
theorem wDraw_spec {b : List Int} {p : Int} : p < (wDraw b p).1 ∧ (wDraw b p).1 ≤ p + 402 ∧ (wDraw b p).2.2.2.1.length ≤ 12 ∧ (wDraw b p).2.2.2.2.length ≤ 144 := by
  obtain ⟨d1, d2, d3⟩ := dDraw_spec (b := b) (p := p + 1)
  have := wGo_len (pk b (dDraw b (p + 1)).1 4).toNat (w := (0, pullOf (Ty.ix .int ([0, 32, 32, 8, 2560] : List Int) (pk b p 5).toNat), (dDraw b (p + 1)).2, [])) (bodiesOk_len d3) (by simp)
  unfold wDraw
  exact ⟨by dsimp only; omega, by dsimp only; omega, this.1, this.2⟩
def LSwGo  : LS where
  S := List Int × Int × (Int × Int) × (Int × Int × List Body × List Pair) × Int
  live := [(2, [none]), (3, [none]), (4, [none])]
  shape := fun s => ([.ptr 2 0 0, .ptr 5 0 0, .int .i64 s.2.2.2.2], [(false, .vec .byte s.1), (true, .box [.vec 0, .int .i64 s.2.1]), (true, .box [.int .i64 s.2.2.1.1, .int .i64 s.2.2.1.2, .nilsl, .nilsl]), (true, .vec .body s.2.2.2.1.2.2.1), (true, .vec .pair s.2.2.2.1.2.2.2), (true, .box [.int .i64 s.2.2.2.1.1, .int .i64 s.2.2.2.1.2.1, .vec 3, .vec 4])])
  get := fun v h => match v, h with
    | [.ptr 2 0 0, .ptr 5 0 0, .int .i64 n], [(false, .vec .byte b), (true, .box [.vec 0, .int .i64 p]), (true, .box [.int .i64 r_0, .int .i64 r_1, .nilsl, .nilsl]), (true, .vec .body v_2), (true, .vec .pair v_3), (true, .box [.int .i64 v_0, .int .i64 v_1, .vec 3, .vec 4])] => some (b, p, (r_0, r_1), (v_0, v_1, v_2, v_3), n)
    | _, _ => none
  inv := fun s0 s => Holds (s.1 = s0.1 ∧ s.2.1 = s0.2.1 ∧ s.2.2.1 = s0.2.2.1 ∧ 0 ≤ s.2.2.2.2 ∧ s.2.2.2.2 ≤ 3 ∧ s.2.2.2.1.2.2.1.length ≤ 12 ∧ s.2.2.2.1.2.2.2.length ≤ 144 ∧ wGo s.2.2.2.2.toNat s.2.2.2.1 = wGo s0.2.2.2.2.toNat s0.2.2.2.1)
  mu := fun s => s.2.2.2.2.toNat
  ok := by
    intro v h s hg
    try dsimp only at hg
    split at hg <;> cases hg
    rfl

def L_l11World : Loops := fun n => match n with
  | 4 => some LSwGo
  | _ => none
noncomputable def fs_l11World : Fs := ⟨[], fun args H => match args, H with
  | [.ptr 1 0 0], [(false, .vec .byte b), (true, .box [.vec 0, .int .i64 p])] => some ((some (0 ≤ p ∧ p + 402 ≤ 1000000000000 ∧ BytesOk b)), .agg [.int .i64 (wDraw b p).2.1, .int .i64 (wDraw b p).2.2.1, .vec 2, .vec 3], [(false, .vec .byte b), (true, .box [.vec 0, .int .i64 (wDraw b p).1]), (true, .vec .body (wDraw b p).2.2.2.1), (true, .vec .pair (wDraw b p).2.2.2.2)])
  | _, _ => none⟩

theorem vc_l11World (b : List Int) (p : Int) (Q : SV → List Ent → Prop) :
    fnVC tt (look [(69, fs_rdPick), (51, fs_rdOne), (141, fs_specWorldNew), (88, fs_l11Bodies), (33, fs_specWorldStep)]) (L_l11World) Tryz.f115 [.ptr 1 0 0] [(false, .vec .byte b), (true, .box [.vec 0, .int .i64 p])] Q =
    (let w_ := IntKind.wrap IntKind.i64; let A7_ := (dDraw b (p + (1 : Int))); let A8_ := (Int.toNat (g_rdPick b (Prod.fst A7_) (4 : Int) % (4 : Int))); let A6_ := ((0 : Int), pullOf (Ty.ix Ty.int [(0 : Int), (32 : Int), (32 : Int), (8 : Int), (2560 : Int)] (Int.toNat (g_rdPick b p (↑(List.length [(0 : Int), (32 : Int), (32 : Int), (8 : Int), (2560 : Int)]) : Int) % (↑(List.length [(0 : Int), (32 : Int), (32 : Int), (8 : Int), (2560 : Int)]) : Int)))), Prod.snd A7_, []); ((0 : Int) ≤ p ∧ p + (1 : Int) ≤ (1000000000000 : Int) ∧ BytesOk b ∧ (1 : Nat) ≤ List.length [(0 : Int), (32 : Int), (32 : Int), (8 : Int), (2560 : Int)]) ∧ ((0 : Int) ≤ p + (1 : Int) ∧ p + (1 : Int) + (400 : Int) ≤ (1000000000000 : Int) ∧ BytesOk b) ∧ ((0 : Int) ≤ Prod.fst A7_ ∧ Prod.fst A7_ + (1 : Int) ≤ (1000000000000 : Int) ∧ BytesOk b ∧ (1 : Int) ≤ (4 : Int)) ∧ Holds (b = b ∧ Prod.fst A7_ + (1 : Int) = Prod.fst A7_ + (1 : Int) ∧ ((0 : Int), (0 : Int)) = ((0 : Int), (0 : Int)) ∧ (0 : Int) ≤ g_rdPick b (Prod.fst A7_) (4 : Int) % (4 : Int) ∧ g_rdPick b (Prod.fst A7_) (4 : Int) % (4 : Int) ≤ (3 : Int) ∧ List.length (Prod.snd A7_) ≤ (12 : Nat) ∧ (0 : Nat) ≤ (144 : Nat) ∧ wGo A8_ A6_ = wGo A8_ A6_) ∧ ∀ (y1 : List Int × Int × (Int × Int) × (Int × Int × List Body × List Pair) × Int), let y1f0_ := Prod.fst y1; let y1s1_ := Prod.snd y1; let y1f1_ := Prod.fst (Prod.snd y1); let y1f2_ := Prod.fst (Prod.snd (Prod.snd y1)); let y1s3_ := Prod.snd (Prod.snd (Prod.snd y1)); let y1f3_ := Prod.fst (Prod.snd (Prod.snd (Prod.snd y1))); let y1s4_ := Prod.snd (Prod.snd (Prod.snd (Prod.snd y1))); let A5_ := (Prod.fst (Prod.snd y1f3_)); let A4_ := (Prod.snd (Prod.snd y1f3_)); let A3_ := A6_; let A2_ := (worldOk (Prod.fst y1f3_) A5_ (Prod.fst A4_) (Prod.snd A4_)); Holds (Prod.fst y1 = b ∧ y1f1_ = Prod.fst A7_ + (1 : Int) ∧ y1f2_ = ((0 : Int), (0 : Int)) ∧ (0 : Int) ≤ y1s4_ ∧ y1s4_ ≤ (3 : Int) ∧ List.length (Prod.fst A4_) ≤ (12 : Nat) ∧ List.length (Prod.snd A4_) ≤ (144 : Nat) ∧ wGo (Int.toNat y1s4_) y1f3_ = wGo A8_ A3_) → ifB (decide (Prod.snd y1s3_ > (0 : Int))) ((List.length (Prod.fst A4_) ≤ (1048576 : Nat) ∧ List.length (Prod.snd A4_) ≤ (1048576 : Nat)) ∧ Holds (Prod.fst y1 = b ∧ y1f1_ = Prod.fst A7_ + (1 : Int) ∧ y1f2_ = ((0 : Int), (0 : Int)) ∧ (0 : Int) ≤ w_ (Prod.snd y1s3_ - (1 : Int)) ∧ w_ (Prod.snd y1s3_ - (1 : Int)) ≤ (3 : Int) ∧ List.length (stepBodies A2_ (Prod.fst y1f3_) A5_ (Prod.fst A4_)) ≤ (12 : Nat) ∧ List.length (stepPs A2_ (Prod.fst y1f3_) A5_ (Prod.fst A4_) (Prod.snd A4_)) ≤ (144 : Nat) ∧ wGo (Int.toNat (w_ (Prod.snd y1s3_ - (1 : Int)))) (stepTick A2_ (Prod.fst y1f3_), orI A2_ A5_, stepBodies A2_ (Prod.fst y1f3_) A5_ (Prod.fst A4_), stepPs A2_ (Prod.fst y1f3_) A5_ (Prod.fst A4_) (Prod.snd A4_)) = wGo A8_ A3_) ∧ Int.toNat (w_ (Prod.snd y1s3_ - (1 : Int))) < Int.toNat y1s4_) (Q (SV.agg [SV.int IntKind.i64 (Prod.fst y1f3_), SV.int IntKind.i64 A5_, SV.vec (2 : Nat), SV.vec (3 : Nat)]) [(false, Blk.vec Ty.byte y1f0_), (true, Blk.box [SV.vec (0 : Nat), SV.int IntKind.i64 y1f1_]), (true, Blk.vec Ty.body (Prod.fst A4_)), (true, Blk.vec Ty.pair (Prod.snd A4_))])) := by kernel_rfl

theorem ok_l11World : FsOk Tryz.prog 115 fs_l11World := fsOk_of tt_ok (tabFs_cons ok_rdPick (tabFs_cons ok_rdOne (tabFs_cons ok_specWorldNew (tabFs_cons ok_l11Bodies (tabFs_cons ok_specWorldStep tabFs_nil))))) mixed Tryz.func115 (by kernel_rfl) (by kernel_rfl) (by
    intro args LL p r HH h hp
    unfold fs_l11World at h
    dsimp only at h
    split at h
    case h_2 => cases h
    rename_i b p
    simp only [Option.some.injEq, Prod.mk.injEq] at h
    obtain ⟨rfl, rfl, rfl⟩ := h
    refine ⟨by simp [Form, stays], (L_l11World), ?_⟩
    rw [vc_l11World]
    try dsimp only
    obtain ⟨hp0, hp1, hby⟩ := hp _ rfl
    obtain ⟨d1, d2, d3⟩ := dDraw_spec (b := b) (p := p + 1)
    have hl := bodiesOk_len d3
    have hk := pk_lt b (dDraw b (p + 1)).1 (n := 4) (by omega)
    simp only [pk] at hk
    refine ⟨⟨hp0, by omega, hby, by simp⟩, ⟨by omega, by omega, hby⟩, ⟨by omega, by omega, hby, by omega⟩, ⟨(by trivial), (by trivial), (by trivial), hk.1, by omega, hl, by omega, (by trivial)⟩, ?_⟩
    rintro ⟨b', p', r, ⟨t, q, xs, ps⟩, n⟩ ⟨h⟩
    dsimp only at h ⊢
    obtain ⟨rfl, rfl, rfl, n0, n1, l1, l2, hw⟩ := h
    refine ifB_of (fun c => ?_) (fun c => ?_)
    · have c := of_decide_eq_true c
      have w : IntKind.i64.wrap (n - 1) = n - 1 := wrap_small (by omega) (by omega)
      rw [w]
      refine ⟨⟨by omega, by omega⟩, ⟨(by trivial), (by trivial), (by trivial), by omega, by omega, stepBodies12 _ _ _ l1, stepPs144 _ _ _ _ l2, ?_⟩, by omega⟩
      rw [← hw, show n.toNat = (n - 1).toNat + 1 by omega]
      rfl
    · have c := of_decide_eq_false c
      rw [show n.toNat = 0 by omega] at hw
      have hw : (wDraw b' p).2 = (t, q, xs, ps) := hw.symm
      rw [hw]
      exact ⟨rfl, rfl⟩)

noncomputable def g_l11AnyWorld (b : List Int) (p : Int) : ({x : Int × Int × List Body × List Pair // worldD x}) × Nat := someAns tt (look [(69, fs_rdPick), (51, fs_rdOne), (115, fs_l11World), (75, fs_specCopyW), (50, fs_l11AnyBodies)]) Tryz.f72 [.ptr 1 0 0] [(false, .vec .byte b), (true, .box [.vec 0, .int .i64 p])] (fun x : ({x : Int × Int × List Body × List Pair // worldD x}) × Nat => (.agg [.int .i64 (x.1.1).1, .int .i64 (x.1.1).2.1, .vec 2, .vec 3] : SV)) (fun x : ({x : Int × Int × List Body × List Pair // worldD x}) × Nat => ([(false, .vec .byte b), (true, .box [.vec 0, .int .i64 (p + ((x.2 % 1001 : Nat) : Int))]), (true, .vec .body ((x.1.1).2.2.1)), (true, .vec .pair ((x.1.1).2.2.2))] : List Ent))
noncomputable def fs_l11AnyWorld : Fs := ⟨[], fun args H => match args, H with
  | [.ptr 1 0 0], [(false, .vec .byte b), (true, .box [.vec 0, .int .i64 p])] => some ((some (0 ≤ p ∧ p + 1000 ≤ 1000000000000 ∧ BytesOk b)), .agg [.int .i64 ((g_l11AnyWorld b p).1.1).1, .int .i64 ((g_l11AnyWorld b p).1.1).2.1, .vec 2, .vec 3], [(false, .vec .byte b), (true, .box [.vec 0, .int .i64 (p + (((g_l11AnyWorld b p).2 % 1001 : Nat) : Int))]), (true, .vec .body (((g_l11AnyWorld b p).1.1).2.2.1)), (true, .vec .pair (((g_l11AnyWorld b p).1.1).2.2.2))])
  | _, _ => none⟩

theorem vc_l11AnyWorld (b : List Int) (p : Int) (Q : SV → List Ent → Prop) :
    fnVC tt (look [(69, fs_rdPick), (51, fs_rdOne), (115, fs_l11World), (75, fs_specCopyW), (50, fs_l11AnyBodies)]) L0 Tryz.f72 [.ptr 1 0 0] [(false, .vec .byte b), (true, .box [.vec 0, .int .i64 p])] Q =
    (let s_ := SV.int IntKind.i64; let vb_ := Blk.vec Ty.body; let vp_ := Blk.vec Ty.pair; let vy_ := Blk.vec Ty.byte; let A2_ := (Prod.fst (wDraw b p) + (1 : Int)); let A1_ := (Prod.snd (Prod.snd (Prod.snd (wDraw b p)))); ((0 : Int) ≤ p ∧ p + (402 : Int) ≤ (1000000000000 : Int) ∧ BytesOk b) ∧ (List.length (Prod.fst A1_) ≤ (1048576 : Nat) ∧ List.length (Prod.snd A1_) ≤ (1048576 : Nat)) ∧ ((0 : Int) ≤ Prod.fst (wDraw b p) ∧ Prod.fst (wDraw b p) + (1 : Int) ≤ (1000000000000 : Int) ∧ BytesOk b ∧ (1 : Int) ≤ (24 : Int)) ∧ ifB (g_rdPick b (Prod.fst (wDraw b p)) (24 : Int) % (24 : Int) == (0 : Int)) (((0 : Int) ≤ Prod.fst (wDraw b p) + (1 : Int) ∧ Prod.fst (wDraw b p) + (1 : Int) + (1 : Int) ≤ (1000000000000 : Int) ∧ BytesOk b ∧ (1 : Nat) ≤ List.length [(-1 : Int), (100000 : Int), (100001 : Int)]) ∧ Q (SV.agg [s_ (Ty.ix Ty.int [(-1 : Int), (100000 : Int), (100001 : Int)] (Int.toNat (g_rdPick b A2_ (↑(List.length [(-1 : Int), (100000 : Int), (100001 : Int)]) : Int) % (↑(List.length [(-1 : Int), (100000 : Int), (100001 : Int)]) : Int)))), s_ (Prod.fst (Prod.snd (Prod.snd (wDraw b p)))), SV.vec (2 : Nat), SV.vec (3 : Nat)]) [(false, vy_ b), (true, Blk.box [SV.vec (0 : Nat), s_ (Prod.fst (wDraw b p) + (1 : Int) + (1 : Int))]), (true, vb_ (Prod.fst A1_)), (true, vp_ (Prod.snd A1_))]) (ifB (g_rdPick b (Prod.fst (wDraw b p)) (24 : Int) % (24 : Int) == (1 : Int)) (((0 : Int) ≤ Prod.fst (wDraw b p) + (1 : Int) ∧ Prod.fst (wDraw b p) + (1 : Int) + (1 : Int) ≤ (1000000000000 : Int) ∧ BytesOk b ∧ (1 : Nat) ≤ List.length [(-1 : Int), (2561 : Int)]) ∧ Q (SV.agg [s_ (Prod.fst (Prod.snd (wDraw b p))), s_ (Ty.ix Ty.int [(-1 : Int), (2561 : Int)] (Int.toNat (g_rdPick b A2_ (↑(List.length [(-1 : Int), (2561 : Int)]) : Int) % (↑(List.length [(-1 : Int), (2561 : Int)]) : Int)))), SV.vec (2 : Nat), SV.vec (3 : Nat)]) [(false, vy_ b), (true, Blk.box [SV.vec (0 : Nat), s_ (Prod.fst (wDraw b p) + (1 : Int) + (1 : Int))]), (true, vb_ (Prod.fst A1_)), (true, vp_ (Prod.snd A1_))]) (ifB (g_rdPick b (Prod.fst (wDraw b p)) (24 : Int) % (24 : Int) == (2 : Int)) (((0 : Int) ≤ Prod.fst (wDraw b p) + (1 : Int) ∧ Prod.fst (wDraw b p) + (1 : Int) + (450 : Int) ≤ (1000000000000 : Int) ∧ BytesOk b) ∧ Q (SV.agg [s_ (Prod.fst (Prod.snd (wDraw b p))), s_ (Prod.fst (Prod.snd (Prod.snd (wDraw b p)))), SV.vec (2 : Nat), SV.vec (3 : Nat)]) [(false, vy_ b), (true, Blk.box [SV.vec (0 : Nat), s_ (Prod.fst (wDraw b p) + (1 : Int) + (↑(Prod.snd (g_l11AnyBodies b A2_) % (451 : Nat)) : Int))]), (true, vb_ (Subtype.val (Prod.fst (g_l11AnyBodies b A2_)))), (true, vp_ (Prod.snd A1_))]) (ifB (g_rdPick b (Prod.fst (wDraw b p)) (24 : Int) % (24 : Int) == (3 : Int)) (((0 : Int) ≤ Prod.fst (wDraw b p) + (1 : Int) ∧ Prod.fst (wDraw b p) + (1 : Int) + (1 : Int) ≤ (1000000000000 : Int) ∧ BytesOk b ∧ (1 : Int) ≤ (5 : Int)) ∧ ((0 : Int) ≤ Prod.fst (wDraw b p) + (1 : Int) + (1 : Int) ∧ Prod.fst (wDraw b p) + (1 : Int) + (1 : Int) + (1 : Int) ≤ (1000000000000 : Int) ∧ BytesOk b ∧ (1 : Int) ≤ (9 : Int)) ∧ (List.length (Prod.snd A1_) + List.length [Pair.mk (g_rdPick b A2_ (5 : Int) % (5 : Int)) (g_rdPick b (Prod.fst (wDraw b p) + (1 : Int) + (1 : Int)) (9 : Int) % (9 : Int))]) * (16 : Nat) ≤ room ∧ Q (SV.agg [s_ (Prod.fst (Prod.snd (wDraw b p))), s_ (Prod.fst (Prod.snd (Prod.snd (wDraw b p)))), SV.vec (2 : Nat), SV.vec (3 : Nat)]) [(false, vy_ b), (true, Blk.box [SV.vec (0 : Nat), s_ (Prod.fst (wDraw b p) + (1 : Int) + (1 : Int) + (1 : Int))]), (true, vb_ (Prod.fst A1_)), (true, vp_ (Prod.snd A1_ ++ [Pair.mk (g_rdPick b A2_ (5 : Int) % (5 : Int)) (g_rdPick b (Prod.fst (wDraw b p) + (1 : Int) + (1 : Int)) (9 : Int) % (9 : Int))]))]) (Q (SV.agg [s_ (Prod.fst (Prod.snd (wDraw b p))), s_ (Prod.fst (Prod.snd (Prod.snd (wDraw b p)))), SV.vec (2 : Nat), SV.vec (3 : Nat)]) [(false, vy_ b), (true, Blk.box [SV.vec (0 : Nat), s_ A2_]), (true, vb_ (Prod.fst A1_)), (true, vp_ (Prod.snd A1_))]))))) := by kernel_rfl

theorem ok_l11AnyWorld : FsOk Tryz.prog 72 fs_l11AnyWorld := fsOk_of tt_ok (tabFs_cons ok_rdPick (tabFs_cons ok_rdOne (tabFs_cons ok_l11World (tabFs_cons ok_specCopyW (tabFs_cons ok_l11AnyBodies tabFs_nil))))) mixed Tryz.func72 (by kernel_rfl) (by kernel_rfl) (by
    intro args LL p0 r HH h hp
    unfold fs_l11AnyWorld at h
    dsimp only at h
    split at h
    case h_2 => cases h
    rename_i b p
    simp only [Option.some.injEq, Prod.mk.injEq] at h
    obtain ⟨rfl, rfl, rfl⟩ := h
    refine ⟨by simp [Form, stays], L0, ?_⟩
    obtain ⟨hp0, hp1, hby⟩ := hp _ rfl
    refine someAns_ok (R := (fun x : ({x : Int × Int × List Body × List Pair // worldD x}) × Nat => (.agg [.int .i64 (x.1.1).1, .int .i64 (x.1.1).2.1, .vec 2, .vec 3] : SV))) (HH := (fun x : ({x : Int × Int × List Body × List Pair // worldD x}) × Nat => ([(false, .vec .byte b), (true, .box [.vec 0, .int .i64 (p + ((x.2 % 1001 : Nat) : Int))]), (true, .vec .body ((x.1.1).2.2.1)), (true, .vec .pair ((x.1.1).2.2.2))] : List Ent))) (by kernel_rfl) ?_
    have fin : ∀ (zT : Int) (zP : Int) (zB : List Body) (zQ : List Pair) (p' : Int), worldD (zT, zP, zB, zQ) → p ≤ p' → p' ≤ p + 1000 → ∃ x : ({x : Int × Int × List Body × List Pair // worldD x}) × Nat, ((.agg [.int .i64 ((zT, zP, zB, zQ)).1, .int .i64 ((zT, zP, zB, zQ)).2.1, .vec 2, .vec 3] : SV) : SV) = (fun x : ({x : Int × Int × List Body × List Pair // worldD x}) × Nat => (.agg [.int .i64 (x.1.1).1, .int .i64 (x.1.1).2.1, .vec 2, .vec 3] : SV)) x ∧ (([(false, .vec .byte b), (true, .box [.vec 0, .int .i64 p']), (true, .vec .body (((zT, zP, zB, zQ)).2.2.1)), (true, .vec .pair (((zT, zP, zB, zQ)).2.2.2))] : List Ent) : List Ent) = (fun x : ({x : Int × Int × List Body × List Pair // worldD x}) × Nat => ([(false, .vec .byte b), (true, .box [.vec 0, .int .i64 (p + ((x.2 % 1001 : Nat) : Int))]), (true, .vec .body ((x.1.1).2.2.1)), (true, .vec .pair ((x.1.1).2.2.2))] : List Ent)) x := fun zT zP zB zQ p' hpred h1 h2 => ⟨(⟨(zT, zP, zB, zQ), hpred⟩, (p' - p).toNat), rfl, by
      have : p + (((p' - p).toNat % 1001 : Nat) : Int) = p' := by omega
      dsimp only
      rw [this]⟩
    rw [vc_l11AnyWorld]
    try dsimp only
    try dsimp only at fin
    obtain ⟨d1, d2, d3, d4⟩ := wDraw_spec (b := b) (p := p)
    have h1 := fun q => (g_l11AnyBodies b q).1.2
    simp only [bodiesP] at h1
    generalize wDraw b p = w at *
    repeat' (first | refine ifB_of (fun _ => ?_) (fun _ => ?_) | refine pre_of ?_ (fun _ => ?_))
    all_goals first
      | omega
      | exact hby
      | exact Nat.le_add_left _ _
      | (refine fin _ _ _ _ _ ?_ ?_ ?_ <;> first | omega | (simp only [worldD, List.length_append, List.length_cons, List.length_nil]; first | omega | (refine ⟨h1 _, ?_⟩; omega)))
      | (simp only [room, List.length_cons, List.length_nil]; omega))

end
end Go.Proofs.YtnahfbjdicjdpaaGreat.Sym

namespace Go.Proofs.YtnahfbjdicjdpaaGreat.Sym
open Go
set_option linter.unusedVariables false
set_option linter.unusedSimpArgs false
set_option maxRecDepth 100000
noncomputable section

abbrev Wd := Int × Int × List Body × List Pair
end
end Go.Proofs.YtnahfbjdicjdpaaGreat.Sym

namespace Go.Proofs.YtnahfbjdicjdpaaGreat.Sym
open Go
set_option linter.unusedVariables false
set_option linter.unusedSimpArgs false
set_option maxRecDepth 100000
noncomputable section
def drawStepP (z : List Body × Int) : Prop := z.1.length ≤ 13
instance : Nonempty {x : List Body × Int // drawStepP x} := ⟨⟨([], 0), by simp [drawStepP]⟩⟩
def drawStepsP (z : List Body × Int × Int) : Prop := z.1.length ≤ 13 ∧ 0 ≤ z.2.1 ∧ z.2.1 ≤ 2560
instance : Nonempty {x : List Body × Int × Int // drawStepsP x} := ⟨⟨([], 0, 0), by simp [drawStepsP]⟩⟩
noncomputable def g_DrawWorldStep (b : List Int) : {x : Int × Int × List Body × List Pair // worldD x} := someAns tt (look [(49, fs_l1Open), (72, fs_l11AnyWorld)]) Tryz.f31 [.vec 0] [(false, .vec .byte b)] (fun x : {x : Int × Int × List Body × List Pair // worldD x} => (.agg [.int .i64 (x.1).1, .int .i64 (x.1).2.1, .vec 1, .vec 2] : SV)) (fun x : {x : Int × Int × List Body × List Pair // worldD x} => ([(false, .vec .byte b), (true, .vec .body ((x.1).2.2.1)), (true, .vec .pair ((x.1).2.2.2))] : List Ent))
noncomputable def fs_DrawWorldStep : Fs := ⟨[], fun args H => match args, H with
  | [.vec 0], [(false, .vec .byte b)] => some ((some (BytesOk b)), .agg [.int .i64 ((g_DrawWorldStep b).1).1, .int .i64 ((g_DrawWorldStep b).1).2.1, .vec 1, .vec 2], [(false, .vec .byte b), (true, .vec .body (((g_DrawWorldStep b).1).2.2.1)), (true, .vec .pair (((g_DrawWorldStep b).1).2.2.2))])
  | _, _ => none⟩

theorem vc_DrawWorldStep (b : List Int) (Q : SV → List Ent → Prop) :
    fnVC tt (look [(49, fs_l1Open), (72, fs_l11AnyWorld)]) L0 Tryz.f31 [.vec 0] [(false, .vec .byte b)] Q =
    (((0 : Int) ≤ (0 : Int) ∧ (0 : Int) + (1000 : Int) ≤ (1000000000000 : Int) ∧ BytesOk (List.take (min (List.length b) (2000 : Nat)) (List.drop (0 : Nat) b))) ∧ Q (SV.agg [SV.int IntKind.i64 (Prod.fst (Subtype.val (Prod.fst (g_l11AnyWorld (List.take (min (List.length b) (2000 : Nat)) (List.drop (0 : Nat) b)) (0 : Int))))), SV.int IntKind.i64 (Prod.fst (Prod.snd (Subtype.val (Prod.fst (g_l11AnyWorld (List.take (min (List.length b) (2000 : Nat)) (List.drop (0 : Nat) b)) (0 : Int)))))), SV.vec (1 : Nat), SV.vec (2 : Nat)]) [(false, Blk.vec Ty.byte b), (true, Blk.vec Ty.body (Prod.fst (Prod.snd (Prod.snd (Subtype.val (Prod.fst (g_l11AnyWorld (List.take (min (List.length b) (2000 : Nat)) (List.drop (0 : Nat) b)) (0 : Int)))))))), (true, Blk.vec Ty.pair (Prod.snd (Prod.snd (Prod.snd (Subtype.val (Prod.fst (g_l11AnyWorld (List.take (min (List.length b) (2000 : Nat)) (List.drop (0 : Nat) b)) (0 : Int))))))))]) := by kernel_rfl

theorem ok_DrawWorldStep : FsOk Tryz.prog 31 fs_DrawWorldStep := fsOk_of tt_ok (tabFs_cons ok_l1Open (tabFs_cons ok_l11AnyWorld tabFs_nil)) mixed Tryz.func31 (by kernel_rfl) (by kernel_rfl) (by
    intro args LL p0 r HH h hp
    unfold fs_DrawWorldStep at h
    dsimp only at h
    split at h
    case h_2 => cases h
    rename_i b
    simp only [Option.some.injEq, Prod.mk.injEq] at h
    obtain ⟨rfl, rfl, rfl⟩ := h
    refine ⟨by simp [Form, stays], L0, ?_⟩
    have hby := hp _ rfl
    refine someAns_ok (R := (fun x : {x : Int × Int × List Body × List Pair // worldD x} => (.agg [.int .i64 (x.1).1, .int .i64 (x.1).2.1, .vec 1, .vec 2] : SV))) (HH := (fun x : {x : Int × Int × List Body × List Pair // worldD x} => ([(false, .vec .byte b), (true, .vec .body ((x.1).2.2.1)), (true, .vec .pair ((x.1).2.2.2))] : List Ent))) (by kernel_rfl) ?_
    have fin : ∀ (zT : Int) (zP : Int) (zB : List Body) (zQ : List Pair), worldD (zT, zP, zB, zQ) → ∃ x : {x : Int × Int × List Body × List Pair // worldD x}, ((.agg [.int .i64 ((zT, zP, zB, zQ)).1, .int .i64 ((zT, zP, zB, zQ)).2.1, .vec 1, .vec 2] : SV) : SV) = (fun x : {x : Int × Int × List Body × List Pair // worldD x} => (.agg [.int .i64 (x.1).1, .int .i64 (x.1).2.1, .vec 1, .vec 2] : SV)) x ∧ (([(false, .vec .byte b), (true, .vec .body (((zT, zP, zB, zQ)).2.2.1)), (true, .vec .pair (((zT, zP, zB, zQ)).2.2.2))] : List Ent) : List Ent) = (fun x : {x : Int × Int × List Body × List Pair // worldD x} => ([(false, .vec .byte b), (true, .vec .body ((x.1).2.2.1)), (true, .vec .pair ((x.1).2.2.2))] : List Ent)) x := fun zT zP zB zQ hpred => ⟨⟨(zT, zP, zB, zQ), hpred⟩, rfl, rfl⟩
    rw [vc_DrawWorldStep]
    try dsimp only
    try dsimp only at fin
    repeat' (first | refine ifB_of (fun _ => ?_) (fun _ => ?_) | refine pre_of ?_ (fun _ => ?_))
    all_goals first
      | (refine fin _ _ _ _ ?_; exact (g_l11AnyWorld _ _).1.2)
      | omega
      | exact hby
      | exact hby.part _ _
      | exact Nat.le_add_left _ _
      | exact ⟨by omega, by omega, hby.part _ _⟩
      | exact ⟨by omega, by omega, hby.part _ _, by omega⟩
      | exact ⟨by omega, by omega, hby.part _ _, Nat.le_add_left _ _⟩)

def goneD (z : Wd × Int) : Prop := worldD z.1
instance : Nonempty {x : Wd × Int // goneD x} := ⟨⟨((0, 0, [], []), 0), by simp [goneD, worldD]⟩⟩
def putD (z : Wd × Body) : Prop := worldD z.1
instance : Nonempty {x : Wd × Body // putD x} := ⟨⟨((0, 0, [], []), ⟨0, ⟨0, 0, 0⟩, ⟨0, 0⟩, ⟨0, 0⟩, 0, 0, 0, 0⟩), by simp [putD, worldD]⟩⟩
end
end Go.Proofs.YtnahfbjdicjdpaaGreat.Sym

namespace Go.Proofs.YtnahfbjdicjdpaaGreat.Sym
open Go
set_option linter.unusedVariables false
set_option linter.unusedSimpArgs false
set_option maxRecDepth 100000

/-- Not of a contact. -/
def offC (k : Nat) (c : Contact) : Prop := k ≠ c.A.toNat ∧ k ≠ c.B.toNat
theorem pushOne_off {xs : List Body} {c : Contact} {z : Bool} {k : Nat} (h : offC k c) : Ty.ix .body (pushOne xs c z) k = Ty.ix .body xs k := by
  unfold pushOne
  dsimp only
  split
  · rw [ix_set_ne (T := .body) (fun e => h.2 e.symm), ix_set_ne (T := .body) (fun e => h.1 e.symm)]
  · rfl
theorem apartOne_off {xs : List Body} {c : Contact} {k : Nat} (h : offC k c) : Ty.ix .body (apartOne xs c) k = Ty.ix .body xs k := by
  have e1 : ∀ (v : Body) (ys : List Body), Ty.ix .body (ys.set c.A.toNat v) k = Ty.ix .body ys k := fun v ys => ix_set_ne (T := .body) (fun e => h.1 e.symm)
  have e2 : ∀ (v : Body) (ys : List Body), Ty.ix .body (ys.set c.B.toNat v) k = Ty.ix .body ys k := fun v ys => ix_set_ne (T := .body) (fun e => h.2 e.symm)
  unfold apartOne
  dsimp only
  split
  · rfl
  · split
    · split
      · rfl
      · rw [e1]
    · rw [e2]
      split
      · rfl
      · rw [e1]
theorem pushB_fix {b : Body} {p : Vec} (h : b.Mass = 0) : pushB b p = b := by simp [pushB, h]
theorem pushOne_fix {xs : List Body} {c : Contact} {z : Bool} {k : Nat} (hk : k < xs.length) (hne : c.A.toNat ≠ c.B.toNat) (h : (Ty.ix .body xs k).Mass = 0) : Ty.ix .body (pushOne xs c z) k = Ty.ix .body xs k := by
  unfold pushOne
  dsimp only
  split
  · by_cases e2 : c.B.toNat = k
    · rw [e2, ix_set_self (T := .body) (by simpa using hk)]
      exact pushB_fix h
    · rw [ix_set_ne (T := .body) e2]
      by_cases e1 : c.A.toNat = k
      · rw [e1, ix_set_self (T := .body) hk]
        exact pushB_fix h
      · rw [ix_set_ne (T := .body) e1]
  · rfl
theorem apartOne_fix {xs : List Body} {c : Contact} {k : Nat} (hk : k < xs.length) (hne : c.A.toNat ≠ c.B.toNat) (h : (Ty.ix .body xs k).Mass = 0) : Ty.ix .body (apartOne xs c) k = Ty.ix .body xs k := by
  unfold apartOne
  dsimp only
  split
  · rfl
  · by_cases e2 : c.B.toNat = k
    · have e1 : ¬ c.A.toNat = k := fun e => hne (e.trans e2.symm)
      rw [e2, if_pos h]
      split
      · rfl
      · rw [ix_set_ne (T := .body) e1]
    · have q : ∀ (v : Body) (ys : List Body), Ty.ix .body (ys.set c.B.toNat v) k = Ty.ix .body ys k := fun v ys => ix_set_ne (T := .body) e2
      have q2 : Ty.ix .body (if (Ty.ix .body xs c.A.toNat).Mass = 0 then xs else xs.set c.A.toNat (moveB (Ty.ix .body xs c.A.toNat) (scaled (oppV c.Hit.Way) (shareF (Ty.ix .body xs c.A.toNat) (Ty.ix .body xs c.B.toNat) (W ((W (c.Hit.Deep - 64)).tdiv 4)))))) k = Ty.ix .body xs k := by
        by_cases e1 : c.A.toNat = k
        · rw [e1, if_pos h]
        · split
          · rfl
          · rw [ix_set_ne (T := .body) e1]
      split
      · exact q2
      · rw [q]
        exact q2
end Go.Proofs.YtnahfbjdicjdpaaGreat.Sym

namespace Go.Proofs.YtnahfbjdicjdpaaGreat.Sym
open Go
set_option linter.unusedVariables false
set_option linter.unusedSimpArgs false
set_option maxRecDepth 100000
noncomputable section

theorem stillG_congr {xs ys : List Body} {gs : List Int} {g : Int} : ∀ {n : Nat}, (∀ i, i < n → gi gs i = g → Ty.ix .body ys i = Ty.ix .body xs i) → stillG ys gs g n = stillG xs gs g n
  | 0, _ => rfl
  | n + 1, h => by
    have ih := stillG_congr (n := n) (xs := xs) (ys := ys) (gs := gs) (g := g) fun i hi => h i (by omega)
    have e : ∀ zs, stillG zs gs g (n + 1) = (stillG zs gs g n && (!(gi gs n == g) || (Ty.ix .body zs n).Quiet == 7)) := fun _ => rfl
    rw [e, e, ih]
    cases c : gi gs n == g with
    | false => rfl
    | true => rw [h n (by omega) (eq_of_beq c)]
/-- What comes of a body when groups are put to sleep. -/
theorem ix_settleF (gs : List Int) : ∀ (ws : List Bool) (g : Nat) (xs : List Body) (k : Nat), k < xs.length →
    Ty.ix .body (settleF gs g ws xs) k = bif decide ((g : Int) ≤ gi gs k) && decide (gi gs k < g + ws.length) && Ty.ix .bool ws (gi gs k - g).toNat && stillG xs gs (gi gs k) xs.length then bedB (Ty.ix .body xs k) else Ty.ix .body xs k
  | [], g, xs, k, hk => by
    have : (decide ((g : Int) ≤ gi gs k) && decide (gi gs k < g + ([] : List Bool).length)) = false := by
      cases c : decide ((g : Int) ≤ gi gs k) with
      | false => rfl
      | true =>
        have := of_decide_eq_true c
        rw [decide_eq_false (by simp only [List.length_nil]; omega)]
        rfl
    rw [this, Bool.false_and, Bool.false_and]
    rfl
  | a :: r, g, xs, k, hk => by
    have ih := ix_settleF gs r (g + 1) (settleOne xs gs g a) k (by rw [length_settleOne]; exact hk)
    rw [length_settleOne, ix_settleOne hk] at ih
    show Ty.ix .body (settleF gs (g + 1) r (settleOne xs gs g a)) k = _
    rw [ih]
    by_cases e : gi gs k = g
    · rw [e, decide_eq_false (show ¬ ((g + 1 : Nat) : Int) ≤ (g : Int) by omega), decide_eq_true (show (g : Int) ≤ g by omega), decide_eq_true (show (g : Int) < g + (a :: r).length by rw [List.length_cons]; omega)]
      have z : ((g : Int) - g).toNat = 0 := by omega
      rw [z]
      have z2 : Ty.ix .bool (a :: r) 0 = a := rfl
      rw [z2]
      unfold bedAt
      rw [e, beq_self_eq_true]
      simp only [Bool.false_and, Bool.true_and, Bool.and_true, cond_false]
    · have b1 : bedAt xs gs g (a && stillG xs gs g xs.length) k = Ty.ix .body xs k := by
        unfold bedAt
        rw [beq_eq_false_iff_ne.2 e, Bool.and_false]
        rfl
      have st : stillG (settleOne xs gs g a) gs (gi gs k) xs.length = stillG xs gs (gi gs k) xs.length := stillG_congr fun i hi hg => by
        rw [ix_settleOne hi]
        unfold bedAt
        rw [hg, beq_eq_false_iff_ne.2 e, Bool.and_false]
        rfl
      rw [b1, st]
      by_cases c : (g : Int) ≤ gi gs k
      · have c2 : ((g + 1 : Nat) : Int) ≤ gi gs k := by omega
        have z : (gi gs k - g).toNat = (gi gs k - ((g + 1 : Nat) : Int)).toNat + 1 := by omega
        have z2 : Ty.ix .bool (a :: r) (gi gs k - g).toNat = Ty.ix .bool r (gi gs k - ((g + 1 : Nat) : Int)).toNat := by
          rw [z]
          rfl
        rw [z2, decide_eq_true c, decide_eq_true c2]
        have z3 : decide (gi gs k < ((g + 1 : Nat) : Int) + r.length) = decide (gi gs k < (g : Int) + (a :: r).length) := by
          rw [decide_eq_decide, List.length_cons]
          omega
        rw [z3]
      · rw [decide_eq_false c, decide_eq_false (show ¬ ((g + 1 : Nat) : Int) ≤ gi gs k by omega)]
        simp only [Bool.false_and, cond_false]
/-- A body behind a step: as quiet as it is, or put to sleep. -/
theorem ix_stepF {xs : List Body} {pull : Int} {k : Nat} (hk : k < xs.length) :
    Ty.ix .body (stepF xs pull) k = bif decide (0 ≤ gi (groupsX xs) k) && Ty.ix .bool (awkF xs xs.length) (gi (groupsX xs) k).toNat && stillG (quietX xs pull) (groupsX xs) (gi (groupsX xs) k) xs.length then bedB (Ty.ix .body (quietX xs pull) k) else Ty.ix .body (quietX xs pull) k := by
  rw [stepF_eq, ix_settleF _ _ _ _ _ (by rw [length_quietX]; exact hk), length_quietX]
  cases c : decide (0 ≤ gi (groupsX xs) k) with
  | false =>
    have z : decide (((0 : Nat) : Int) ≤ gi (groupsX xs) k) = false := c
    simp only [z, Bool.false_and]
  | true =>
    have z : decide (((0 : Nat) : Int) ≤ gi (groupsX xs) k) = true := c
    have c := of_decide_eq_true c
    have f := group_free hk c
    have hg : gi (groupsX xs) k = (numX xs (cmX xs k) : Int) := by
      have e : gi (groupsX xs) k = gOf xs xs.length k := ix_gen (T := .int) hk
      rw [e, gOf_all hk, f]
      rfl
    have h1 := num_in f
    have h2 := Grp.num_mono (freeB xs) (cmX xs) (show k + 1 ≤ xs.length from hk)
    have h3 : numX xs (cmX xs k) < (awkF xs xs.length).length := by rw [length_awkF]; exact Nat.lt_of_lt_of_le h1 h2
    have z2 : decide (gi (groupsX xs) k < ((0 : Nat) : Int) + (awkF xs xs.length).length) = true := decide_eq_true (by omega)
    have z3 : gi (groupsX xs) k - ((0 : Nat) : Int) = gi (groupsX xs) k := by omega
    simp only [z, z2, z3, Bool.true_and]
theorem ix_bsnoc {ws : List Bool} {v : Bool} {k : Nat} (h : k < ws.length) : Ty.ix .bool (ws ++ [v]) k = Ty.ix .bool ws k := by
  simp only [Ty.ix, List.getD_eq_getElem?_getD]
  rw [List.getElem?_append_left h]
theorem ix_blast {ws : List Bool} {v : Bool} : Ty.ix .bool (ws ++ [v]) ws.length = v := by simp [Ty.ix, List.getD]
/-- A group is awake just if one of it is. -/
theorem awk_spec {xs : List Body} : ∀ (m : Nat) (l : Nat), Grp.lead (freeB xs) (cmX xs) l = true → l < m → (Ty.ix .bool (awkF xs m) (numX xs l) = true ↔ ∃ j, j < m ∧ freeB xs j = true ∧ cmX xs j = l ∧ (Ty.ix .body xs j).Quiet ≠ 8)
  | m + 1, l, hl, hm => by
    have hlen := length_awkF xs m
    have base : l < m → (Ty.ix .bool (awkF xs m) (numX xs l) = true ↔ ∃ j, j < m ∧ freeB xs j = true ∧ cmX xs j = l ∧ (Ty.ix .body xs j).Quiet ≠ 8) := awk_spec m l hl
    have hnl : l < m → numX xs l < (awkF xs m).length := fun h => by rw [hlen]; exact Grp.num_lt hl h
    have step : ∀ {P : Prop}, (∃ j, j < m + 1 ∧ freeB xs j = true ∧ cmX xs j = l ∧ (Ty.ix .body xs j).Quiet ≠ 8) ↔ ((∃ j, j < m ∧ freeB xs j = true ∧ cmX xs j = l ∧ (Ty.ix .body xs j).Quiet ≠ 8) ∨ (freeB xs m = true ∧ cmX xs m = l ∧ (Ty.ix .body xs m).Quiet ≠ 8)) := by
      intro P
      constructor
      · rintro ⟨j, h1, h2⟩
        by_cases e : j = m
        · subst e; exact .inr h2
        · exact .inl ⟨j, by omega, h2⟩
      · rintro (⟨j, h1, h2⟩ | h2)
        · exact ⟨j, by omega, h2⟩
        · exact ⟨m, by omega, h2⟩
    rw [step (P := True)]
    rcases (show freeB xs m = false ∨ freeB xs m = true by cases freeB xs m <;> simp) with f | f
    · have hne : l ≠ m := fun e => by
        have := (lead_iff.1 hl).1
        rw [e, f] at this
        cases this
      rw [awk_fixed f, base (by omega)]
      simp [f]
    · have key : ∀ {out : List Bool} {q : Bool}, numX xs (cmX xs m) < out.length → numX xs l < out.length → (Ty.ix .bool out (numX xs l) = true ↔ ∃ j, j < m ∧ freeB xs j = true ∧ cmX xs j = l ∧ (Ty.ix .body xs j).Quiet ≠ 8) → (!((Ty.ix .body xs m).Quiet == 8)) = q →
          (Ty.ix .bool (bif q then out.set (numX xs (cmX xs m)) true else out) (numX xs l) = true ↔ ((∃ j, j < m ∧ freeB xs j = true ∧ cmX xs j = l ∧ (Ty.ix .body xs j).Quiet ≠ 8) ∨ (freeB xs m = true ∧ cmX xs m = l ∧ (Ty.ix .body xs m).Quiet ≠ 8))) := by
        intro out q h1 h2 h3 h4
        cases q with
        | false =>
          have h8 : (Ty.ix .body xs m).Quiet = 8 := eq_of_beq (not_false h4)
          simp only [cond_false]
          rw [h3]
          simp [h8]
        | true =>
          have h8 : (Ty.ix .body xs m).Quiet ≠ 8 := beq_eq_false_iff_ne.1 (not_true h4)
          simp only [cond_true]
          by_cases e : cmX xs m = l
          · rw [e, ix_set_self (T := .bool) h2]
            simp [h8, f]
          · have hne : numX xs (cmX xs m) ≠ numX xs l := fun z => e (Grp.num_inj (lead_cm f) hl z)
            rw [ix_set_ne (T := .bool) hne, h3]
            simp [e]
      cases hlm : Grp.lead (freeB xs) (cmX xs) m with
      | false =>
        have hne : l ≠ m := fun e => by rw [e, hlm] at hl; cases hl
        have hcm : cmX xs m < m := by
          have := cmX_le xs m
          have : cmX xs m ≠ m := fun e => by rw [lead_iff.2 ⟨f, e⟩] at hlm; cases hlm
          omega
        rw [awk_free f hlm rfl]
        simp only [cond_false, List.append_nil]
        exact key (by rw [hlen]; exact Grp.num_lt (lead_cm f) hcm) (hnl (by omega)) (base (by omega)) rfl
      | true =>
        have hcm : cmX xs m = m := (lead_iff.1 hlm).2
        rw [awk_free f hlm rfl]
        simp only [cond_true]
        by_cases e : l = m
        · refine key (by simp only [hcm, List.length_append, hlen, List.length_singleton]; omega) (by simp only [e, List.length_append, hlen, List.length_singleton]; omega) ?_ rfl
          have z : Ty.ix .bool (awkF xs m ++ [false]) (numX xs l) = false := by
            rw [e, ← hlen]
            exact ix_blast
          rw [z]
          refine ⟨fun h => (by cases h), fun ⟨j, j1, j2, j3, _⟩ => ?_⟩
          have := cmX_le xs j
          omega
        · refine key (by simp only [hcm, List.length_append, hlen, List.length_singleton]; omega) (by rw [List.length_append]; have := hnl (by omega); omega) ?_ rfl
          rw [ix_bsnoc (hnl (by omega))]
          exact base (by omega)
/-- The group of a body, and whether it is awake. -/
theorem group_awake {xs : List Body} {k : Nat} (hk : k < xs.length) (hg : 0 ≤ gi (groupsX xs) k) :
    Ty.ix .bool (awkF xs xs.length) (gi (groupsX xs) k).toNat = true ↔ ∃ j, j < xs.length ∧ freeB xs j = true ∧ cmX xs j = cmX xs k ∧ (Ty.ix .body xs j).Quiet ≠ 8 := by
  have f := group_free hk hg
  have e : gi (groupsX xs) k = gOf xs xs.length k := ix_gen (T := .int) hk
  rw [e, gOf_all hk, f]
  have := cmX_le xs k
  exact awk_spec xs.length (cmX xs k) (lead_cm f) (by omega)
theorem group_of_free {xs : List Body} {k : Nat} (hk : k < xs.length) (f : freeB xs k = true) : gi (groupsX xs) k = (numX xs (cmX xs k) : Int) := by
  have e : gi (groupsX xs) k = gOf xs xs.length k := ix_gen (T := .int) hk
  rw [e, gOf_all hk, f]
  rfl
theorem group_fixed {xs : List Body} {k : Nat} (hk : k < xs.length) (f : freeB xs k = false) : gi (groupsX xs) k = -1 := by
  have e : gi (groupsX xs) k = gOf xs xs.length k := ix_gen (T := .int) hk
  rw [e, gOf_all hk, f]
  rfl
theorem fix_quiet {b : Body} (h : bodyOk b = true) (m : b.Mass = 0) : b.Quiet = 0 := ((bok_iff.1 h).2.2.2.2.2.2.2.2.1 m).2.2
theorem live_sub {xs : List Body} {pull : Int} {c : Contact} (h : c ∈ liveX xs pull) : c ∈ contactsF xs ∧ (moves (Ty.ix .body (pulledF xs pull) c.A.toNat) = true ∨ moves (Ty.ix .body (pulledF xs pull) c.B.toNat) = true) := by
  obtain ⟨h1, h2⟩ := List.mem_filter.1 h
  rw [Bool.or_eq_true] at h2
  exact ⟨h1, h2⟩
end
end Go.Proofs.YtnahfbjdicjdpaaGreat.Sym

namespace Go.Proofs.YtnahfbjdicjdpaaGreat.Sym
open Go
set_option linter.unusedVariables false
set_option linter.unusedSimpArgs false
set_option maxRecDepth 100000
noncomputable section
theorem ext_body {xs ys : List Body} (hl : xs.length = ys.length) (h : ∀ k, k < xs.length → Ty.ix .body xs k = Ty.ix .body ys k) : xs = ys := by
  apply List.ext_getElem hl
  intro k h1 h2
  have := h k h1
  rwa [ix_eq (T := .body) (List.getElem?_eq_getElem h1), ix_eq (T := .body) (List.getElem?_eq_getElem h2)] at this
end
end Go.Proofs.YtnahfbjdicjdpaaGreat.Sym

namespace Go.Proofs.YtnahfbjdicjdpaaGreat.Sym
open Go
set_option linter.unusedVariables false
set_option linter.unusedSimpArgs false
set_option maxRecDepth 100000
noncomputable section

theorem len0 {xs : List Body} {pull : Int} (hl : (stepOf xs pull).length = xs.length) : xs.length ≤ 12 := by
  have := length_stepOf xs pull
  omega
end
end Go.Proofs.YtnahfbjdicjdpaaGreat.Sym

namespace Go.Proofs.YtnahfbjdicjdpaaGreat.Sym
open Go
set_option linter.unusedVariables false
set_option linter.unusedSimpArgs false
set_option maxRecDepth 100000

theorem root_nat : ∀ n : Nat, ∃ r : Nat, r * r ≤ n ∧ n < (r + 1) * (r + 1)
  | 0 => ⟨0, by decide, by decide⟩
  | n + 1 => by
    obtain ⟨r, h1, h2⟩ := root_nat n
    by_cases h : (r + 1) * (r + 1) ≤ n + 1
    · refine ⟨r + 1, h, ?_⟩
      have : (r + 1 + 1) * (r + 1 + 1) = (r + 1) * (r + 1) + 2 * r + 3 := by
        simp only [Nat.add_mul, Nat.mul_add]
        omega
      omega
    · exact ⟨r, by omega, by omega⟩
theorem rootI_spec {n : Int} (h : 0 ≤ n) : IsRoot n (rootI n) := by
  obtain ⟨r, h1, h2⟩ := root_nat n.toNat
  have k : IsRoot n (r : Int) := by
    refine ⟨by omega, ?_, ?_⟩
    · have : ((r * r : Nat) : Int) ≤ (n.toNat : Int) := Int.ofNat_le.2 h1
      rw [Int.natCast_mul] at this
      omega
    · have : (n.toNat : Int) < (((r + 1) * (r + 1) : Nat) : Int) := Int.ofNat_lt.2 h2
      rw [Int.natCast_mul, Int.natCast_add] at this
      have e : ((1 : Nat) : Int) = 1 := rfl
      rw [e] at this
      omega
  rw [rootI_eq k]
  exact k
theorem rootI_ge {x n : Int} (h : x * x ≤ n) : x ≤ rootI n ∧ -x ≤ rootI n := by
  have h0 : 0 ≤ x * x := by
    rcases Int.le_total 0 x with q | q
    · exact Int.mul_nonneg q q
    · have := Int.mul_nonneg (show 0 ≤ -x by omega) (show 0 ≤ -x by omega)
      rwa [Int.neg_mul_neg] at this
  obtain ⟨b1, b2, b3⟩ := rootI_spec (show 0 ≤ n by omega)
  refine ⟨Int.not_lt.1 fun hlt => ?_, Int.not_lt.1 fun hlt => ?_⟩
  · have := sq_le (x := rootI n + 1) (y := x) (by omega) (by omega)
    omega
  · have := sq_le (x := rootI n + 1) (y := -x) (by omega) (by omega)
    rw [Int.neg_mul_neg] at this
    omega
theorem rootI_le {n m : Int} (h0 : 0 ≤ n) (hm : 0 ≤ m) (h : n ≤ m * m) : rootI n ≤ m := by
  obtain ⟨b1, b2, b3⟩ := rootI_spec h0
  refine Int.not_lt.1 fun hlt => ?_
  have := sq_le (x := m + 1) (y := rootI n) (by omega) (by omega)
  have e : (m + 1) * (m + 1) = m * m + 2 * m + 1 := by
    rw [Int.add_mul, Int.mul_add]
    omega
  omega
def smallV (d : Vec) : Prop := (-20000000 ≤ d.X ∧ d.X ≤ 20000000) ∧ (-20000000 ≤ d.Y ∧ d.Y ≤ 20000000)
theorem small_clamp {d : Vec} (h : smallV d) : clampV 1000000000 d = d := by
  obtain ⟨⟨h1, h2⟩, h3, h4⟩ := h
  obtain ⟨x, y⟩ := d
  dsimp only at h1 h2 h3 h4
  unfold clampV clampTo
  congr 1 <;> dsimp only <;> omega
theorem small_square {d : Vec} (h : smallV d) : square d = d.X * d.X + d.Y * d.Y ∧ 0 ≤ d.X * d.X ∧ 0 ≤ d.Y * d.Y ∧ d.X * d.X ≤ 400000000000000 ∧ d.Y * d.Y ≤ 400000000000000 := by
  obtain ⟨⟨h1, h2⟩, h3, h4⟩ := h
  have q1 := sq_abs h1 h2
  have q2 := sq_abs h3 h4
  unfold square
  rw [show W (d.X * d.X) = _ from W_small (by omega) (by omega), show W (d.Y * d.Y) = _ from W_small (by omega) (by omega), show W (d.X * d.X + d.Y * d.Y) = _ from W_small (by omega) (by omega)]
  omega
theorem small_len {d : Vec} (h : smallV d) : vecLen d = rootI (square d) ∧ d.X ≤ vecLen d ∧ -d.X ≤ vecLen d ∧ d.Y ≤ vecLen d ∧ -d.Y ≤ vecLen d ∧ 0 ≤ vecLen d ∧ vecLen d ≤ 40000000 := by
  obtain ⟨s1, s2, s3, s4, s5⟩ := small_square h
  have r0 := rootI_spec (n := square d) (by omega)
  have rl := rootI_le (n := square d) (m := 40000000) (by omega) (by omega) (by omega)
  have gx := rootI_ge (x := d.X) (n := square d) (by omega)
  have gy := rootI_ge (x := d.Y) (n := square d) (by omega)
  have e : vecLen d = rootI (square d) := by
    unfold vecLen
    rw [small_clamp h]
    have := r0.1
    unfold clampTo
    omega
  rw [e]
  exact ⟨rfl, gx.1, gx.2, gy.1, gy.2, r0.1, rl⟩
theorem rounds_true {d : Vec} {both : Int} (h : smallV d) (b0 : 0 ≤ both) (b1 : both ≤ 51200) (k : (roundsF d both).2 = true) : roundsF d both = (⟨vecUnit d, both - vecLen d⟩, true) ∧ vecLen d ≤ both ∧ square d ≤ both * both := by
  have hb := mul_le_mul0 b0 b1 b0 b1
  have hw : W (both * both) = both * both := W_small (by omega) (by omega)
  unfold roundsF at k ⊢
  rw [hw] at k ⊢
  split at k
  · cases k
  · rename_i q
    rw [if_neg q]
    obtain ⟨s1, s2, s3, s4, s5⟩ := small_square h
    obtain ⟨e, l1, l2, l3, l4, l5, l6⟩ := small_len h
    have hl : vecLen d ≤ both := by
      rw [e]
      exact rootI_le (by omega) b0 (by omega)
    rw [show W (both - vecLen d) = both - vecLen d from W_small (by omega) (by omega)]
    exact ⟨rfl, hl, by omega⟩
def placeV (p : Vec) : Prop := -2560000 ≤ p.X ∧ p.X ≤ 2560000 ∧ -2560000 ≤ p.Y ∧ p.Y ≤ 2560000
theorem minus_place {p q : Vec} (hp : placeV p) (hq : placeV q) : minus q p = ⟨q.X - p.X, q.Y - p.Y⟩ ∧ smallV ⟨q.X - p.X, q.Y - p.Y⟩ := by
  obtain ⟨p1, p2, p3, p4⟩ := hp
  obtain ⟨q1, q2, q3, q4⟩ := hq
  unfold minus
  rw [show W (q.X - p.X) = _ from W_small (by omega) (by omega), show W (q.Y - p.Y) = _ from W_small (by omega) (by omega)]
  refine ⟨rfl, ?_⟩
  unfold smallV
  dsimp only
  omega
/-- A box about a place. -/
def boxAt (p : Vec) (w h : Int) : Box := ⟨⟨p.X - w, p.Y - h⟩, ⟨p.X + w, p.Y + h⟩⟩
/-- From the nearest point of a box on. -/
def outI (q lo hi : Int) : Int := q - max lo (min q hi)
theorem near_out {p q : Vec} {w h : Int} (hp : placeV p) (hq : placeV q) (w0 : 0 ≤ w) (w1 : w ≤ 25600) (h0 : 0 ≤ h) (h1 : h ≤ 25600) :
    minus q (nearV (boxAt p w h) q) = ⟨outI q.X (p.X - w) (p.X + w), outI q.Y (p.Y - h) (p.Y + h)⟩ ∧ smallV ⟨outI q.X (p.X - w) (p.X + w), outI q.Y (p.Y - h) (p.Y + h)⟩ := by
  obtain ⟨p1, p2, p3, p4⟩ := hp
  obtain ⟨q1, q2, q3, q4⟩ := hq
  unfold minus nearV boxAt outI
  dsimp only
  rw [show W (q.X - max (p.X - w) (min q.X (p.X + w))) = _ from W_small (by omega) (by omega), show W (q.Y - max (p.Y - h) (min q.Y (p.Y + h))) = _ from W_small (by omega) (by omega)]
  refine ⟨rfl, ?_⟩
  unfold smallV
  dsimp only
  omega
theorem has_out {p q : Vec} {w h : Int} (w0 : 0 ≤ w) (h0 : 0 ≤ h) : hasPoint (boxAt p w h) q = true ↔ outI q.X (p.X - w) (p.X + w) = 0 ∧ outI q.Y (p.Y - h) (p.Y + h) = 0 := by
  unfold hasPoint boxAt isIn outI
  simp only [Bool.and_eq_true, decide_eq_true_eq]
  omega
theorem mixed_out {p q : Vec} {w h m : Int} (k : hasPoint (boxAt p w h) q = false) : mixedF (boxAt p w h) q m = roundsF (minus q (nearV (boxAt p w h) q)) m := by
  unfold mixedF
  rw [k]
  rfl
theorem bounds_at {s : Shape} {p : Vec} (h : shapeOk s = true) (hp : placeV p) : bounds s p = boxAt p s.Wide (highOf s) ∧ 1 ≤ highOf s ∧ highOf s ≤ 25600 :=
  bounds_eq h (by obtain ⟨h1, h2, h3, h4⟩ := hp; simp only [placeOk, isIn, Bool.and_eq_true, decide_eq_true_eq]; omega)
theorem placeOk_V {p : Vec} (h : placeV p) : placeOk p = true := by
  obtain ⟨h1, h2, h3, h4⟩ := h
  simp only [placeOk, isIn, Bool.and_eq_true, decide_eq_true_eq]
  omega
theorem touch_all {a b : Body} (ha : bodyOk a = true) (hb : bodyOk b = true) : touchB a b = touchF a.Shape a.At b.Shape b.At := by
  have h1 := bok_iff.1 ha
  have h2 := bok_iff.1 hb
  simp [touchB, touchAll, h1.2.1, h2.2.1, placeOk_V h1.2.2.1, placeOk_V h2.2.2.1]
end Go.Proofs.YtnahfbjdicjdpaaGreat.Sym

namespace Go.Proofs.YtnahfbjdicjdpaaGreat.Sym
open Go
set_option linter.unusedVariables false
set_option linter.unusedSimpArgs false
set_option maxRecDepth 100000

theorem abs_of_sq {x m : Int} (hm : 0 ≤ m) (h : x * x ≤ m * m) : -m ≤ x ∧ x ≤ m := by
  refine ⟨Int.not_lt.1 fun hlt => ?_, Int.not_lt.1 fun hlt => ?_⟩
  · have := sq_le (x := m + 1) (y := -x) (by omega) (by omega)
    rw [Int.neg_mul_neg] at this
    have e : (m + 1) * (m + 1) = m * m + 2 * m + 1 := by
      rw [Int.add_mul, Int.mul_add]
      omega
    omega
  · have := sq_le (x := m + 1) (y := x) (by omega) (by omega)
    have e : (m + 1) * (m + 1) = m * m + 2 * m + 1 := by
      rw [Int.add_mul, Int.mul_add]
      omega
    omega
theorem rounds_near {d : Vec} {both : Int} (h : smallV d) (b0 : 0 ≤ both) (b1 : both ≤ 51200) (k : (roundsF d both).2 = true) : (-both ≤ d.X ∧ d.X ≤ both) ∧ -both ≤ d.Y ∧ d.Y ≤ both := by
  obtain ⟨_, _, h3⟩ := rounds_true h b0 b1 k
  obtain ⟨s1, s2, s3, s4, s5⟩ := small_square h
  exact ⟨abs_of_sq b0 (by omega), abs_of_sq b0 (by omega)⟩
theorem meets_at {p q : Vec} {w h v u : Int} (h1 : p.X - w ≤ q.X + v) (h2 : q.X - v ≤ p.X + w) (h3 : p.Y - h ≤ q.Y + u) (h4 : q.Y - u ≤ p.Y + h) : boxMeets (boxAt p w h) (boxAt q v u) = true := by
  have e1 := decide_eq_true h1
  have e2 := decide_eq_true h2
  have e3 := decide_eq_true h3
  have e4 := decide_eq_true h4
  unfold boxMeets boxAt
  dsimp only
  rw [e1, e2, e3, e4]
  rfl
theorem mixed_meets {p q : Vec} {w h m : Int} (hp : placeV p) (hq : placeV q) (w0 : 0 ≤ w) (w1 : w ≤ 25600) (h0 : 0 ≤ h) (h1 : h ≤ 25600) (m0 : 0 ≤ m) (m1 : m ≤ 25600) (k : (mixedF (boxAt p w h) q m).2 = true) :
    (p.X - w ≤ q.X + m ∧ q.X - m ≤ p.X + w) ∧ p.Y - h ≤ q.Y + m ∧ q.Y - m ≤ p.Y + h := by
  cases c : hasPoint (boxAt p w h) q with
  | true =>
    obtain ⟨z1, z2⟩ := (has_out w0 h0).1 c
    unfold outI at z1 z2
    omega
  | false =>
    obtain ⟨n1, s1⟩ := near_out hp hq w0 w1 h0 h1
    rw [mixed_out c, n1] at k
    have := rounds_near s1 m0 (by omega) k
    dsimp only [outI] at this
    omega
theorem high_round {s : Shape} (h : s.Kind = 1) : highOf s = s.Wide := by simp [highOf, h]
/-- What touches meets with its bounds. -/
theorem touch_meets {a b : Shape} {p q : Vec} (ha : shapeOk a = true) (hb : shapeOk b = true) (hp : placeV p) (hq : placeV q) (k : (touchF a p b q).2 = true) : boxMeets (bounds a p) (bounds b q) = true := by
  obtain ⟨a1, a2, a3, a4⟩ := shapeOk_le ha
  obtain ⟨b1, b2, b3, b4⟩ := shapeOk_le hb
  obtain ⟨e1, f1, f2⟩ := bounds_at ha hp
  obtain ⟨e2, g1, g2⟩ := bounds_at hb hq
  unfold touchF at k
  rw [e1, e2] at k ⊢
  cases c1 : a.Kind == 1 && b.Kind == 1 with
  | true =>
    rw [c1] at k
    simp only [cond_true] at k
    rw [show W (a.Wide + b.Wide) = a.Wide + b.Wide from W_small (by omega) (by omega)] at k
    obtain ⟨m1, m2⟩ := minus_place hp hq
    rw [m1] at k
    have := rounds_near m2 (by omega) (by omega) k
    rw [Bool.and_eq_true] at c1
    rw [high_round (eq_of_beq c1.1), high_round (eq_of_beq c1.2)]
    dsimp only at this
    exact meets_at (by omega) (by omega) (by omega) (by omega)
  | false =>
    rw [c1] at k
    simp only [cond_false] at k
    cases c2 : a.Kind == 2 && b.Kind == 2 with
    | true =>
      rw [c2] at k
      simp only [cond_true] at k
      unfold boxesF at k
      cases z : boxMeets (boxAt p a.Wide (highOf a)) (boxAt q b.Wide (highOf b)) with
      | true => rfl
      | false => rw [z] at k; cases k
    | false =>
      rw [c2] at k
      simp only [cond_false] at k
      cases c3 : a.Kind == 2 with
      | true =>
        rw [c3] at k c2
        simp only [cond_true] at k
        have hk : b.Kind = 1 := by
          rcases b3 with z | z
          · exact z
          · rw [z] at c2
            simp at c2
        rw [high_round hk]
        have := mixed_meets hp hq (by omega) (by omega) (by omega) (by omega) (by omega) (by omega) k
        exact meets_at (by omega) (by omega) (by omega) (by omega)
      | false =>
        rw [c3] at k
        simp only [cond_false] at k
        have hk : a.Kind = 1 := by
          rcases a3 with z | z
          · exact z
          · rw [z] at c3
            simp at c3
        cases c4 : (mixedF (boxAt q b.Wide (highOf b)) p a.Wide).2 with
        | false => rw [c4] at k; cases k
        | true =>
          rw [high_round hk]
          have := mixed_meets hq hp (by omega) (by omega) (by omega) (by omega) (by omega) (by omega) c4
          exact meets_at (by omega) (by omega) (by omega) (by omega)
end Go.Proofs.YtnahfbjdicjdpaaGreat.Sym

namespace Go.Proofs.YtnahfbjdicjdpaaGreat.Sym
open Go
set_option linter.unusedVariables false
set_option linter.unusedSimpArgs false
set_option maxRecDepth 100000
noncomputable section
def beforeC (c d : Contact) : Prop := c.A < d.A ∨ c.A = d.A ∧ c.B < d.B
theorem pw_one {α : Type} {R : α → α → Prop} : ∀ {xs : List α}, xs.length ≤ 1 → xs.Pairwise R
  | [], _ => List.Pairwise.nil
  | [a], _ => by simp
  | a :: b :: t, h => by simp at h
theorem conAt_spec {xs : List Body} {i k : Nat} {c : Contact} (h : c ∈ conAt xs i k) : c.A = i ∧ c.B = k := by
  obtain ⟨e, _⟩ := mem_conAt h
  rw [e]
  exact ⟨rfl, rfl⟩
theorem conRow_mem {xs : List Body} {i : Nat} {c : Contact} : ∀ {m : Nat}, m ≤ xs.length → c ∈ conRow xs i m → c.A = i ∧ ((xs.length - m : Nat) : Int) ≤ c.B
  | 0, _, h => by simp [conRow] at h
  | m + 1, hm, h => by
    rcases List.mem_append.1 h with h | h
    · obtain ⟨a, b⟩ := conAt_spec h
      exact ⟨a, by omega⟩
    · obtain ⟨a, b⟩ := conRow_mem (by omega) h
      exact ⟨a, by omega⟩
theorem conRow_sorted {xs : List Body} {i : Nat} : ∀ {m : Nat}, m ≤ xs.length → (conRow xs i m).Pairwise beforeC
  | 0, _ => List.Pairwise.nil
  | m + 1, hm => by
    show (conAt xs i (xs.length - (m + 1)) ++ conRow xs i m).Pairwise beforeC
    rw [List.pairwise_append]
    refine ⟨pw_one (length_conAt ..), conRow_sorted (by omega), fun c hc d hd => ?_⟩
    obtain ⟨a, b⟩ := conAt_spec hc
    obtain ⟨a2, b2⟩ := conRow_mem (by omega) hd
    exact .inr ⟨by omega, by omega⟩
theorem conAll_mem {xs : List Body} {c : Contact} : ∀ {m : Nat}, m ≤ xs.length → c ∈ conAll xs m → ((xs.length - m : Nat) : Int) ≤ c.A
  | 0, _, h => by simp [conAll] at h
  | m + 1, hm, h => by
    rcases List.mem_append.1 h with h | h
    · have := (conRow_mem (by omega) h).1
      omega
    · have := conAll_mem (by omega) h
      omega
theorem conAll_sorted {xs : List Body} : ∀ {m : Nat}, m ≤ xs.length → (conAll xs m).Pairwise beforeC
  | 0, _ => List.Pairwise.nil
  | m + 1, hm => by
    show (conRow xs (xs.length - (m + 1)) m ++ conAll xs m).Pairwise beforeC
    rw [List.pairwise_append]
    refine ⟨conRow_sorted (by omega), conAll_sorted (by omega), fun c hc d hd => ?_⟩
    have a := (conRow_mem (by omega) hc).1
    have b := conAll_mem (by omega) hd
    exact .inl (by omega)
theorem contacts_sorted (xs : List Body) : (contactsF xs).Pairwise beforeC := conAll_sorted (Nat.le_refl _)
theorem pw_ix {R : Pair → Pair → Prop} {ps : List Pair} (h : ps.Pairwise R) {i j : Nat} (hij : i < j) (hj : j < ps.length) : R (Ty.ix .pair ps i) (Ty.ix .pair ps j) := by
  have := List.pairwise_iff_getElem.1 h i j (by omega) hj hij
  rwa [ix_eq (T := .pair) (List.getElem?_eq_getElem (show i < ps.length by omega)), ix_eq (T := .pair) (List.getElem?_eq_getElem hj)]
theorem hasB_self {xs : List Body} (h : bodiesOk xs = true) {a : Nat} (ha : a < xs.length) : hasB xs (Ty.ix .body xs a).Id = true ∧ atB xs (Ty.ix .body xs a).Id = a := by
  have e : atB xs (Ty.ix .body xs a).Id = a := pref_eq (T := .body) (p := fun y : Body => decide (y.Id < (Ty.ix .body xs a).Id)) (Nat.le_of_lt ha) (fun e he => decide_eq_true (bodies_lt h he ha)) (fun _ => decide_eq_false (Int.lt_irrefl _))
  refine ⟨?_, e⟩
  unfold hasB
  rw [e, decide_eq_true ha, beq_self_eq_true]
  rfl
theorem ahead_trans {a b c : Pair} (h1 : ahead a b = true) (h2 : ahead b c = true) : ahead a c = true := by
  simp only [ahead, Bool.or_eq_true, Bool.and_eq_true, decide_eq_true_eq, beq_iff_eq] at *
  omega
theorem worldOk_of {t p : Int} {xs : List Body} {ps : List Pair} (ht : 0 ≤ t ∧ t ≤ 100000) (hp : 0 ≤ p ∧ p ≤ 2560) (hok : bodiesOk xs = true) (hin : ∀ q, q ∈ ps → hasB xs q.A = true ∧ hasB xs q.B = true ∧ q.A < q.B) (hs : ps.Pairwise fun a b => ahead a b = true) : worldOk t p xs ps = true := by
  unfold worldOk
  simp only [Bool.and_eq_true, allTo_iff]
  refine ⟨⟨⟨by simp [isIn, ht], by simp [isIn, hp]⟩, hok⟩, fun i hi => ?_⟩
  obtain ⟨h1, h2, h3⟩ := hin _ (ix_mem (T := .pair) hi)
  unfold pairAt
  rw [h1, h2, decide_eq_true h3]
  by_cases e : i = 0
  · rw [e]
    rfl
  · rw [show ahead (Ty.ix .pair ps (i - 1)) (Ty.ix .pair ps i) = true from pw_ix hs (by omega) hi]
    simp
theorem sorted_of {t p : Int} {xs : List Body} {ps : List Pair} (h : worldOk t p xs ps = true) : ps.Pairwise fun a b => ahead a b = true := by
  have key : ∀ (d i : Nat), i + d + 1 < ps.length → ahead (Ty.ix .pair ps i) (Ty.ix .pair ps (i + d + 1)) = true := by
    have one : ∀ i, i + 1 < ps.length → ahead (Ty.ix .pair ps i) (Ty.ix .pair ps (i + 1)) = true := by
      intro i hi
      have := (pairAt_of h hi).2.2.2 (by omega)
      rw [show i + 1 - 1 = i by omega] at this
      simpa only [ahead, Bool.or_eq_true, Bool.and_eq_true, decide_eq_true_eq, beq_iff_eq] using this
    intro d
    induction d with
    | zero => intro i hi; exact one i hi
    | succ d ih => intro i hi; exact ahead_trans (ih i (by omega)) (one _ (by omega))
  rw [List.pairwise_iff_getElem]
  intro i j hi hj hij
  have := key (j - i - 1) i (by omega)
  rw [show i + (j - i - 1) + 1 = j by omega] at this
  rwa [ix_eq (T := .pair) (List.getElem?_eq_getElem hi), ix_eq (T := .pair) (List.getElem?_eq_getElem hj)] at this
theorem in_of {t p : Int} {xs : List Body} {ps : List Pair} (h : worldOk t p xs ps = true) {q : Pair} (hq : q ∈ ps) : hasB xs q.A = true ∧ hasB xs q.B = true ∧ q.A < q.B := by
  obtain ⟨i, hi, e⟩ := List.getElem_of_mem hq
  have e : Ty.ix .pair ps i = q := ix_eq (T := .pair) (by rw [← e]; exact List.getElem?_eq_getElem hi)
  obtain ⟨h1, h2, h3, _⟩ := pairAt_of h hi
  rw [e] at h1 h2 h3
  exact ⟨h1, h2, h3⟩
end
end Go.Proofs.YtnahfbjdicjdpaaGreat.Sym

namespace Go.Proofs.YtnahfbjdicjdpaaGreat.Sym
open Go
set_option linter.unusedVariables false
set_option linter.unusedSimpArgs false

section
variable {P : Program} {wr : Nat → Prop} {env : Env} {H : Hp} {w w' : Go.World}

theorem run_copy_row_k (w : Go.World) (dT sT ty elem : TypeId) (g o dLen dCap : Nat) (a : Addr) (sLen sCap k : Nat) (cur : Array Value) (t : TypeId) (cs : List Value)
    (hu : P.underlying dT = some (.slice elem)) (hs : (P.info? elem).map (·.size) = some k)
    (hg : w.heap[g]? = some (.cells cur t (0, 0))) (hn : cs.length = Nat.min sLen dLen * k)
    (hsrc : ∀ j v, cs[j]? = some v → w.cell? (a.add j) = some v) (hfit : o + cs.length ≤ cur.size) (h1 : ∀ v ∈ cs, v.oneCell' = true) :
    (Builtin.copy_ #[dT, sT] ty #[.slice (some ⟨g, o, none⟩) dLen dCap, .slice (some a) sLen sCap]).run P w =
      .ok (goInt (Nat.min sLen dLen)) (w.setRow g (cur.toList.take o ++ cs ++ cur.toList.drop (o + cs.length)).toArray) := by
  have hl := run_loadCells_list (P := P) w a cs hsrc
  have hst := run_storeCells_at P g o t cs 0 cur w hg (by simpa using hfit) h1
  cases hq : P.info? elem with
  | none => simp [hq] at hs
  | some i =>
    have hi : i.size = k := by simpa [hq] using hs
    simp [Builtin.copy_, run_underlying hu, Builtin.lenOf, Builtin.firstCells, sizeOf, typeInfo, hq, hi, ← hn, hl, hst]

theorem flat_get_take {U : Ty} {xs : List U.El} {i q : Nat} (h : q < i * U.sz) : (flat U (xs.take i))[q]? = (flat U xs)[q]? := by
  rw [flat_take, List.getElem?_take, if_pos h]

/-- One row written twice: first what comes behind, then what is put in. -/
theorem lies_insert {U : Ty} {xs ys : List U.El} {vs : Array Value} {off i : Nat} (hl : Lies U xs vs off) (hi : i ≤ xs.length) (hfit : off + (xs.length + ys.length) * U.sz ≤ vs.size) :
    Lies U (xs.take i ++ ys ++ xs.drop i) ((((vs.toList.take (off + (i + ys.length) * U.sz) ++ flat U (xs.drop i) ++ vs.toList.drop (off + (i + ys.length) * U.sz + (flat U (xs.drop i)).length)).toArray).toList.take (off + i * U.sz) ++ flat U ys ++
      ((vs.toList.take (off + (i + ys.length) * U.sz) ++ flat U (xs.drop i) ++ vs.toList.drop (off + (i + ys.length) * U.sz + (flat U (xs.drop i)).length)).toArray).toList.drop (off + i * U.sz + (flat U ys).length)).toArray) off := by
  have hly : (flat U ys).length = ys.length * U.sz := flat_length U ys
  have hld : (flat U (xs.drop i)).length = (xs.length - i) * U.sz := by rw [flat_length, List.length_drop]
  have hlt : (flat U (xs.take i)).length = i * U.sz := by rw [flat_length, List.length_take, Nat.min_eq_left hi]
  have e1 : (i + ys.length) * U.sz = i * U.sz + ys.length * U.sz := Nat.add_mul _ _ _
  have e2 : (xs.length + ys.length) * U.sz = i * U.sz + (xs.length - i) * U.sz + ys.length * U.sz := by
    rw [← Nat.add_mul, ← Nat.add_mul]
    congr 1
    omega
  rw [lies_flat]
  intro q v hq
  rw [flat_append, flat_append] at hq
  rw [hly, hld]
  have hvl : vs.toList.length = vs.size := by simp
  have hr1 : (vs.toList.take (off + (i + ys.length) * U.sz) ++ flat U (xs.drop i) ++ vs.toList.drop (off + (i + ys.length) * U.sz + (xs.length - i) * U.sz)).length = vs.size := by
    simp only [List.length_append, List.length_take, List.length_drop, hvl, hld]
    omega
  have hq1 := (List.getElem?_eq_some_iff.1 hq).1
  simp only [List.length_append, hly, hld, hlt] at hq1
  have g2 := get_splice (l := vs.toList.take (off + (i + ys.length) * U.sz) ++ flat U (xs.drop i) ++ vs.toList.drop (off + (i + ys.length) * U.sz + (xs.length - i) * U.sz)) (us := flat U ys) (p := off + i * U.sz) (by rw [hr1, hly]; omega) (off + q)
  rw [hly] at g2
  rw [List.getElem?_toArray, g2]
  have g1 := get_splice (l := vs.toList) (us := flat U (xs.drop i)) (p := off + (i + ys.length) * U.sz) (by rw [hvl, hld]; omega) (off + q)
  rw [hld] at g1
  by_cases c1 : q < i * U.sz
  · rw [if_pos (by omega), g1, if_pos (by omega), Array.getElem?_toList]
    rw [List.append_assoc, List.getElem?_append_left (by omega), flat_get_take c1] at hq
    exact lies_flat.1 hl q v hq
  · rw [if_neg (by omega)]
    by_cases c2 : q < i * U.sz + ys.length * U.sz
    · rw [if_pos (by omega)]
      rw [List.append_assoc, List.getElem?_append_right (by omega), List.getElem?_append_left (by omega)] at hq
      rw [← hq]
      congr 1
      omega
    · rw [if_neg (by omega), g1, if_neg (by omega), if_pos (by omega)]
      rw [List.append_assoc, List.getElem?_append_right (by omega), List.getElem?_append_right (by omega)] at hq
      rw [← hq]
      congr 1
      omega

/-- A new row: what came ahead, then zeros; then what is put in, then what comes behind. -/
theorem lies_grow {U : Ty} {xs ys : List U.El} {row : Array Value} {rest : List Value} {i : Nat} (hr : row.toList = flat U (xs.take i) ++ rest) (hi : i ≤ xs.length) (hfit : (xs.length + ys.length) * U.sz ≤ row.size) :
    Lies U (xs.take i ++ ys ++ xs.drop i) ((((row.toList.take (i * U.sz) ++ flat U ys ++ row.toList.drop (i * U.sz + (flat U ys).length)).toArray).toList.take ((i + ys.length) * U.sz) ++ flat U (xs.drop i) ++
      ((row.toList.take (i * U.sz) ++ flat U ys ++ row.toList.drop (i * U.sz + (flat U ys).length)).toArray).toList.drop ((i + ys.length) * U.sz + (flat U (xs.drop i)).length)).toArray) 0 := by
  have hly : (flat U ys).length = ys.length * U.sz := flat_length U ys
  have hld : (flat U (xs.drop i)).length = (xs.length - i) * U.sz := by rw [flat_length, List.length_drop]
  have hlt : (flat U (xs.take i)).length = i * U.sz := by rw [flat_length, List.length_take, Nat.min_eq_left hi]
  have e1 : (i + ys.length) * U.sz = i * U.sz + ys.length * U.sz := Nat.add_mul _ _ _
  have e2 : (xs.length + ys.length) * U.sz = i * U.sz + (xs.length - i) * U.sz + ys.length * U.sz := by
    rw [← Nat.add_mul, ← Nat.add_mul]
    congr 1
    omega
  rw [lies_flat]
  intro q v hq
  rw [flat_append, flat_append] at hq
  rw [Nat.zero_add]
  rw [hly, hld]
  have hvl : row.toList.length = row.size := by simp
  have hr1 : (row.toList.take (i * U.sz) ++ flat U ys ++ row.toList.drop (i * U.sz + ys.length * U.sz)).length = row.size := by
    simp only [List.length_append, List.length_take, List.length_drop, hvl, hly]
    omega
  have hq1 := (List.getElem?_eq_some_iff.1 hq).1
  simp only [List.length_append, hly, hld, hlt] at hq1
  have g2 := get_splice (l := row.toList.take (i * U.sz) ++ flat U ys ++ row.toList.drop (i * U.sz + ys.length * U.sz)) (us := flat U (xs.drop i)) (p := (i + ys.length) * U.sz) (by rw [hr1, hld]; omega) q
  rw [hld] at g2
  rw [List.getElem?_toArray, g2]
  have g1 := get_splice (l := row.toList) (us := flat U ys) (p := i * U.sz) (by rw [hvl, hly]; omega) q
  rw [hly] at g1
  by_cases c1 : q < i * U.sz
  · rw [if_pos (by omega), g1, if_pos (by omega), hr, List.getElem?_append_left (by omega)]
    rw [List.append_assoc, List.getElem?_append_left (by omega)] at hq
    exact hq
  · by_cases c2 : q < i * U.sz + ys.length * U.sz
    · rw [if_pos (by omega), g1, if_neg (by omega), if_pos (by omega)]
      rw [List.append_assoc, List.getElem?_append_right (by omega), List.getElem?_append_left (by omega)] at hq
      rw [← hq]
      congr 1
      omega
    · rw [if_neg (by omega), if_pos (by omega)]
      rw [List.append_assoc, List.getElem?_append_right (by omega), List.getElem?_append_right (by omega)] at hq
      rw [← hq]
      congr 1
      omega

theorem over_inplace (hh : HRel wr env H w) {j n : Nat} {U : Ty} {xs zs : List U.El} (hj : H j = some (true, .vec U xs)) (hn : H n = none) (hnew : ∀ k, w.heap.size ≤ k → wr k)
    {b off E : Nat} {row : Array Value} (hb : (env j).1 = some ⟨b, off, none⟩) (hc : (env j).2 ≠ 0) (hw : ∀ y, y ≠ b → w'.heap[y]? = w.heap[y]?) (hrow : w'.heap[b]? = some (.cells row E (0, 0)))
    (hsize : off + (env j).2 * U.sz ≤ row.size) (hl : zs.length ≤ (env j).2) (hlies : Lies U zs row off) (h1 : w'.os = w.os) (h2 : w'.tape = w.tape) (h3 : w'.output = w.output) (h4 : w'.heap.size = w.heap.size) :
    Ext env H (envSet env n (env j)) (updH H [(j, true, .dead), (n, true, .vec U zs)]) ∧ HRel wr (envSet env n (env j)) (updH H [(j, true, .dead), (n, true, .vec U zs)]) w' ∧ Fr wr w w' := by
  have hown : own env j (.vec U xs) = some b := by simp [own, hb, hc]
  have := hh.over (w' := w') (zs := zs) hj hn (x := env j) (fun y _ hy => hw y (fun e => hy (e ▸ hown))) hnew
    (fun H' => ⟨by simpa [envSet] using hl, .inr ⟨b, off, E, row, (0, 0), by simp [envSet, hb], hrow, by simpa [envSet] using hsize, hlies, fun _ => rfl⟩⟩)
    (fun y hy => .inl (by
      have h1 : own (envSet env n (env j)) n (.vec U zs) = own env j (.vec U xs) := by simp [own, envSet]
      rw [← h1]; exact hy))
  refine ⟨this.1, this.2, h1, h2, h3, by omega, fun k hk hnw => hw k fun e => hnw ?_⟩
  subst e
  exact hh.wrt j _ hj _ hown

theorem over_new (hh : HRel wr env H w) {j n : Nat} {U : Ty} {xs zs : List U.El} (hj : H j = some (true, .vec U xs)) (hn : H n = none) (hnew : ∀ k, w.heap.size ≤ k → wr k)
    {gc E : Nat} {row : Array Value} (hw : ∀ y, y < w.heap.size → w'.heap[y]? = w.heap[y]?) (hrow : w'.heap[w.heap.size]? = some (.cells row E (0, 0)))
    (hsize : gc * U.sz ≤ row.size) (hl : zs.length ≤ gc) (hlies : Lies U zs row 0) (h1 : w'.os = w.os) (h2 : w'.tape = w.tape) (h3 : w'.output = w.output) (h4 : w.heap.size ≤ w'.heap.size) :
    Ext env H (envSet env n (some ⟨w.heap.size, 0, none⟩, gc)) (updH H [(j, true, .dead), (n, true, .vec U zs)]) ∧ HRel wr (envSet env n (some ⟨w.heap.size, 0, none⟩, gc)) (updH H [(j, true, .dead), (n, true, .vec U zs)]) w' ∧ Fr wr w w' := by
  have := hh.over (w' := w') (zs := zs) hj hn (x := (some ⟨w.heap.size, 0, none⟩, gc)) (fun y hy _ => hw y hy) hnew
    (fun H' => ⟨by simpa [envSet] using hl, .inr ⟨w.heap.size, 0, E, row, (0, 0), by simp [envSet], hrow, by simpa [envSet] using hsize, hlies, fun _ => rfl⟩⟩)
    (fun y hy => .inr (by
      simp only [own, envSet, if_true] at hy
      split at hy
      · cases hy
      · simp at hy; omega))
  exact ⟨this.1, this.2, h1, h2, h3, h4, fun k hk _ => hw k hk⟩
end

end Go.Proofs.YtnahfbjdicjdpaaGreat.Sym

