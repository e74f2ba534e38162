/-
  What the rows of this claim stand on, part 8: the machine, the walks, the plain laws, as far as they are used.
  No condition.
-/
import Derived.Test.YtdhbkcaaijgocaaGreatCA7
namespace Go.Proofs.YtdhbkcaaijgocaaGreat.Sym
open Go
set_option linter.unusedVariables false
set_option linter.unusedSimpArgs false
set_option maxRecDepth 100000

def atB (xs : List Body) (id : Int) : Nat := pref (fun y => decide (y.Id < id)) xs
def hasB (xs : List Body) (id : Int) : Bool := decide (atB xs id < xs.length) && (Ty.ix .body xs (atB xs id)).Id == id
theorem atB_le (xs : List Body) (id : Int) : atB xs id ≤ xs.length := (pref_spec (T := .body) xs).1
def LSl10At  : LS where
  S := List Body × Unit × Int × Int
  live := [(0, [none]), (1, [none]), (6, [none])]
  shape := fun s => ([.vec 0, .int .i64 s.2.2.1, .int .i64 s.2.2.2], [(false, .vec .body s.1)])
  get := fun v h => match v, h with
    | [.vec 0, .int .i64 id, .int .i64 k], [(false, .vec .body xs)] => some (xs, (), id, k)
    | _, _ => none
  inv := fun s0 s => Holds (s.1 = s0.1 ∧ s.2.2.1 = s0.2.2.1 ∧ 0 ≤ s.2.2.2 ∧ s.2.2.2 ≤ s0.1.length ∧ (∀ e, e < s.2.2.2.toNat → decide ((Ty.ix .body s0.1 e).Id < s0.2.2.1) = true))
  mu := fun s => ((s.1.length : Int) - s.2.2.2).toNat
  ok := by
    intro v h s hg
    try dsimp only at hg
    split at hg <;> cases hg
    rfl

def L_l10At : Loops := fun n => match n with
  | 2 => some LSl10At
  | _ => none
noncomputable def fs_l10At : Fs := ⟨[], fun args H => match args, H with
  | [.vec 0, .int .i64 id], [(false, .vec .body xs)] => some ((some (xs.length ≤ 4611686018427387904)), .tup [.int .i64 (atB xs id), .bool (hasB xs id)], [(false, .vec .body xs)])
  | _, _ => none⟩

theorem vc_l10At (id : Int) (xs : List Body) (Q : SV → List Ent → Prop) :
    fnVC tt (look []) (L_l10At) Tryz.f123 [.vec 0, .int .i64 id] [(false, .vec .body xs)] Q =
    (Holds (xs = xs ∧ id = id ∧ (0 : Int) ≤ (0 : Int) ∧ (0 : Int) ≤ (↑(List.length xs) : Int) ∧ ∀ (e : Nat), e < Int.toNat (0 : Int) → decide (Body.Id (Ty.ix Ty.body xs e) < id) = true) ∧ ∀ (x : List Body × Unit × Int × Int), Holds (Prod.fst x = xs ∧ Prod.fst (Prod.snd (Prod.snd x)) = id ∧ (0 : Int) ≤ Prod.snd (Prod.snd (Prod.snd x)) ∧ Prod.snd (Prod.snd (Prod.snd x)) ≤ (↑(List.length xs) : Int) ∧ ∀ (e : Nat), e < Int.toNat (Prod.snd (Prod.snd (Prod.snd x))) → decide (Body.Id (Ty.ix Ty.body xs e) < id) = true) → ifB (decide (Prod.snd (Prod.snd (Prod.snd x)) < (↑(List.length (Prod.fst x)) : Int))) (((0 : Int) ≤ Prod.snd (Prod.snd (Prod.snd x)) ∧ Prod.snd (Prod.snd (Prod.snd x)) < (↑(List.length (Prod.fst x)) : Int)) ∧ ifB (decide (Body.Id (Ty.ix Ty.body (Prod.fst x) (Int.toNat (Prod.snd (Prod.snd (Prod.snd x))))) < Prod.fst (Prod.snd (Prod.snd x)))) (Holds (Prod.fst x = xs ∧ Prod.fst (Prod.snd (Prod.snd x)) = id ∧ (0 : Int) ≤ IntKind.wrap IntKind.i64 (Prod.snd (Prod.snd (Prod.snd x)) + (1 : Int)) ∧ IntKind.wrap IntKind.i64 (Prod.snd (Prod.snd (Prod.snd x)) + (1 : Int)) ≤ (↑(List.length xs) : Int) ∧ ∀ (e : Nat), e < Int.toNat (IntKind.wrap IntKind.i64 (Prod.snd (Prod.snd (Prod.snd x)) + (1 : Int))) → decide (Body.Id (Ty.ix Ty.body xs e) < id) = true) ∧ Int.toNat ((↑(List.length (Prod.fst x)) : Int) - IntKind.wrap IntKind.i64 (Prod.snd (Prod.snd (Prod.snd x)) + (1 : Int))) < Int.toNat ((↑(List.length (Prod.fst x)) : Int) - Prod.snd (Prod.snd (Prod.snd x)))) (ifB (decide (Prod.snd (Prod.snd (Prod.snd x)) < (↑(List.length (Prod.fst x)) : Int))) (((0 : Int) ≤ Prod.snd (Prod.snd (Prod.snd x)) ∧ Prod.snd (Prod.snd (Prod.snd x)) < (↑(List.length (Prod.fst x)) : Int)) ∧ Q (SV.tup [SV.int IntKind.i64 (Prod.snd (Prod.snd (Prod.snd x))), SV.bool (Body.Id (Ty.ix Ty.body (Prod.fst x) (Int.toNat (Prod.snd (Prod.snd (Prod.snd x))))) == Prod.fst (Prod.snd (Prod.snd x)))]) [(false, Blk.vec Ty.body (Prod.fst x))]) (Q (SV.tup [SV.int IntKind.i64 (Prod.snd (Prod.snd (Prod.snd x))), SV.bool false]) [(false, Blk.vec Ty.body (Prod.fst x))]))) (ifB (decide (Prod.snd (Prod.snd (Prod.snd x)) < (↑(List.length (Prod.fst x)) : Int))) (((0 : Int) ≤ Prod.snd (Prod.snd (Prod.snd x)) ∧ Prod.snd (Prod.snd (Prod.snd x)) < (↑(List.length (Prod.fst x)) : Int)) ∧ Q (SV.tup [SV.int IntKind.i64 (Prod.snd (Prod.snd (Prod.snd x))), SV.bool (Body.Id (Ty.ix Ty.body (Prod.fst x) (Int.toNat (Prod.snd (Prod.snd (Prod.snd x))))) == Prod.fst (Prod.snd (Prod.snd x)))]) [(false, Blk.vec Ty.body (Prod.fst x))]) (Q (SV.tup [SV.int IntKind.i64 (Prod.snd (Prod.snd (Prod.snd x))), SV.bool false]) [(false, Blk.vec Ty.body (Prod.fst x))]))) := by kernel_rfl

theorem ok_l10At : FsOk Tryz.prog 123 fs_l10At := fsOk_of tt_ok tabFs_nil mixed Tryz.func123 (by kernel_rfl) (by kernel_rfl) (by
    intro args LL p r HH h hp
    unfold fs_l10At at h
    dsimp only at h
    split at h
    case h_2 => cases h
    rename_i id xs
    simp only [Option.some.injEq, Prod.mk.injEq] at h
    obtain ⟨rfl, rfl, rfl⟩ := h
    refine ⟨by simp [Form, stays], (L_l10At), ?_⟩
    rw [vc_l10At]
    try dsimp only
    have hb := hp _ rfl
    refine ⟨⟨(by trivial), (by trivial), by omega, by omega, fun e he => absurd he (by simp)⟩, ?_⟩
    rintro ⟨xs', u, id', k⟩ ⟨h⟩
    dsimp only at h ⊢
    obtain ⟨rfl, rfl, h0, h1, h2⟩ := h
    have fin : (k.toNat < xs'.length → decide ((Ty.ix .body xs' k.toNat).Id < id') = false) → atB xs' id' = k.toNat := fun h => pref_eq (T := .body) (by omega) h2 h
    refine ifB_of (fun c => ?_) (fun c => ?_)
    · have hi := of_decide_eq_true c
      refine ⟨⟨h0, hi⟩, ifB_of (fun c2 => ?_) (fun c2 => ?_)⟩
      · have e1 : (k + 1).toNat = k.toNat + 1 := by omega
        simp (disch := omega) only [wrap_small, e1]
        refine ⟨⟨(by trivial), (by trivial), by omega, by omega, fun e he => ?_⟩, by omega⟩
        by_cases q : e = k.toNat
        · rw [q]; exact c2
        · exact h2 e (by omega)
      · have hk := fin fun _ => c2
        refine ifB_of (fun _ => ⟨⟨h0, hi⟩, ?_⟩) (fun c3 => ?_)
        · unfold hasB
          rw [hk]
          have : ((k.toNat : Nat) : Int) = k := by omega
          simp [this, show k.toNat < xs'.length by omega]
        · have := of_decide_eq_false c3
          omega
    · have hi := of_decide_eq_false c
      have hk := fin fun h => by omega
      refine ifB_of (fun c3 => ?_) (fun c3 => ?_)
      · have := of_decide_eq_true c3
        omega
      · unfold hasB
        rw [hk]
        have : ((k.toNat : Nat) : Int) = k := by omega
        simp [this, show ¬ k.toNat < xs'.length by omega])

noncomputable def fs_notAhead : Fs := ⟨[], fun args H => match args, H with
  | [.agg [.int .i64 aI, .int .i64 aK, .int .i64 aW, .int .i64 aH, .int .i64 aX, .int .i64 aY, .int .i64 aU, .int .i64 aV, .int .i64 aM, .int .i64 aB, .int .i64 aR, .int .i64 aQ], .ptr 0 0 0], [(true, .box [.int .i64 id])] => some (none, .bool (decide (aI ≥ id)), [(true, .box [.int .i64 id])])
  | _, _ => none⟩

theorem vc_notAhead (aI : Int) (aK : Int) (aW : Int) (aH : Int) (aX : Int) (aY : Int) (aU : Int) (aV : Int) (aM : Int) (aB : Int) (aR : Int) (aQ : Int) (id : Int) (Q : SV → List Ent → Prop) :
    fnVC tt (look []) L0 Tryz.f210 [.agg [.int .i64 aI, .int .i64 aK, .int .i64 aW, .int .i64 aH, .int .i64 aX, .int .i64 aY, .int .i64 aU, .int .i64 aV, .int .i64 aM, .int .i64 aB, .int .i64 aR, .int .i64 aQ], .ptr 0 0 0] [(true, .box [.int .i64 id])] Q =
    (Q (SV.bool (decide (aI ≥ id))) [(true, Blk.box [SV.int IntKind.i64 id])]) := by kernel_rfl

theorem ok_notAhead : FsOk Tryz.prog 210 fs_notAhead := fsOk_of tt_ok tabFs_nil mixed Tryz.func210 (by kernel_rfl) (by kernel_rfl) (by
    intro args LL p r HH h hp
    unfold fs_notAhead at h
    dsimp only at h
    split at h
    case h_2 => cases h
    rename_i aI aK aW aH aX aY aU aV aM aB aR aQ id
    simp only [Option.some.injEq, Prod.mk.injEq] at h
    obtain ⟨rfl, rfl, rfl⟩ := h
    refine ⟨by simp [Form, stays], L0, ?_⟩
    rw [vc_notAhead]
    try dsimp only
    exact ⟨rfl, rfl⟩)

def LSidxPlace  : LS where
  S := List Body × Int × Unit × Unit × Int × Int
  live := [(0, [none]), (1, [none]), (7, [none]), (8, [none])]
  shape := fun s => ([.vec 0, .fn 210 (some 1), .int .i64 s.2.2.2.2.1, .int .i64 s.2.2.2.2.2], [(false, .vec .body s.1), (true, .box [.int .i64 s.2.1])])
  get := fun v h => match v, h with
    | [.vec 0, .fn 210 (some 1), .int .i64 n, .int .i64 i], [(false, .vec .body xs), (true, .box [.int .i64 id])] => some (xs, id, (), (), n, i)
    | _, _ => none
  inv := fun s0 s => Holds (s.1 = s0.1 ∧ s.2.1 = s0.2.1 ∧ s.2.2.2.2.1 = s0.1.length ∧ 0 ≤ s.2.2.2.2.2 ∧ s.2.2.2.2.2 ≤ s0.1.length ∧ (∀ k, k < s.2.2.2.2.2.toNat → decide ((Ty.ix .body s0.1 k).Id ≥ s0.2.1) = false))
  mu := fun s => ((s.1.length : Int) - s.2.2.2.2.2).toNat
  ok := by
    intro v h s hg
    try dsimp only at hg
    split at hg <;> cases hg
    rfl

def L_idxPlace : Loops := fun n => match n with
  | 2 => some LSidxPlace
  | _ => none
noncomputable def fs_idxPlace : Fs := ⟨[], fun args H => match args, H with
  | [.vec 0, .fn 210 (some 1)], [(false, .vec .body xs), (true, .box [.int .i64 id])] => some ((some (xs.length ≤ 4611686018427387904)), .int .i64 (firstI (fun y : Body => decide (y.Id ≥ id)) xs), [(false, .vec .body xs), (true, .box [.int .i64 id])])
  | _, _ => none⟩

theorem vc_idxPlace (xs : List Body) (id : Int) (Q : SV → List Ent → Prop) :
    fnVC tt (look [(210, fs_notAhead)]) (L_idxPlace) Tryz.f209 [.vec 0, .fn 210 (some 1)] [(false, .vec .body xs), (true, .box [.int .i64 id])] Q =
    (Holds (xs = xs ∧ id = id ∧ (↑(List.length xs) : Int) = (↑(List.length xs) : Int) ∧ (0 : Int) ≤ (0 : Int) ∧ (0 : Int) ≤ (↑(List.length xs) : Int) ∧ ∀ (k : Nat), k < Int.toNat (0 : Int) → decide (Body.Id (Ty.ix Ty.body xs k) ≥ id) = false) ∧ ∀ (x : List Body × Int × Unit × Unit × Int × Int), Holds (Prod.fst x = xs ∧ Prod.fst (Prod.snd x) = id ∧ Prod.fst (Prod.snd (Prod.snd (Prod.snd (Prod.snd x)))) = (↑(List.length xs) : Int) ∧ (0 : Int) ≤ Prod.snd (Prod.snd (Prod.snd (Prod.snd (Prod.snd x)))) ∧ Prod.snd (Prod.snd (Prod.snd (Prod.snd (Prod.snd x)))) ≤ (↑(List.length xs) : Int) ∧ ∀ (k : Nat), k < Int.toNat (Prod.snd (Prod.snd (Prod.snd (Prod.snd (Prod.snd x))))) → decide (Body.Id (Ty.ix Ty.body xs k) ≥ id) = false) → ifB (decide (Prod.snd (Prod.snd (Prod.snd (Prod.snd (Prod.snd x)))) < Prod.fst (Prod.snd (Prod.snd (Prod.snd (Prod.snd x)))))) (((0 : Int) ≤ Prod.snd (Prod.snd (Prod.snd (Prod.snd (Prod.snd x)))) ∧ Prod.snd (Prod.snd (Prod.snd (Prod.snd (Prod.snd x)))) < (↑(List.length (Prod.fst x)) : Int)) ∧ ifB (decide (Body.Id (Ty.ix Ty.body (Prod.fst x) (Int.toNat (Prod.snd (Prod.snd (Prod.snd (Prod.snd (Prod.snd x))))))) ≥ Prod.fst (Prod.snd x))) (Q (SV.int IntKind.i64 (Prod.snd (Prod.snd (Prod.snd (Prod.snd (Prod.snd x)))))) [(false, Blk.vec Ty.body (Prod.fst x)), (true, Blk.box [SV.int IntKind.i64 (Prod.fst (Prod.snd x))])]) (Holds (Prod.fst x = xs ∧ Prod.fst (Prod.snd x) = id ∧ Prod.fst (Prod.snd (Prod.snd (Prod.snd (Prod.snd x)))) = (↑(List.length xs) : Int) ∧ (0 : Int) ≤ IntKind.wrap IntKind.i64 (Prod.snd (Prod.snd (Prod.snd (Prod.snd (Prod.snd x)))) + (1 : Int)) ∧ IntKind.wrap IntKind.i64 (Prod.snd (Prod.snd (Prod.snd (Prod.snd (Prod.snd x)))) + (1 : Int)) ≤ (↑(List.length xs) : Int) ∧ ∀ (k : Nat), k < Int.toNat (IntKind.wrap IntKind.i64 (Prod.snd (Prod.snd (Prod.snd (Prod.snd (Prod.snd x)))) + (1 : Int))) → decide (Body.Id (Ty.ix Ty.body xs k) ≥ id) = false) ∧ Int.toNat ((↑(List.length (Prod.fst x)) : Int) - IntKind.wrap IntKind.i64 (Prod.snd (Prod.snd (Prod.snd (Prod.snd (Prod.snd x)))) + (1 : Int))) < Int.toNat ((↑(List.length (Prod.fst x)) : Int) - Prod.snd (Prod.snd (Prod.snd (Prod.snd (Prod.snd x))))))) (Q (SV.int IntKind.i64 (-1 : Int)) [(false, Blk.vec Ty.body (Prod.fst x)), (true, Blk.box [SV.int IntKind.i64 (Prod.fst (Prod.snd x))])])) := by kernel_rfl

theorem ok_idxPlace : FsOk Tryz.prog 209 fs_idxPlace := fsOk_of tt_ok (tabFs_cons ok_notAhead tabFs_nil) mixed Tryz.func209 (by kernel_rfl) (by kernel_rfl) (by
    intro args LL p r HH h hp
    unfold fs_idxPlace at h
    dsimp only at h
    split at h
    case h_2 => cases h
    rename_i xs id
    simp only [Option.some.injEq, Prod.mk.injEq] at h
    obtain ⟨rfl, rfl, rfl⟩ := h
    refine ⟨by simp [Form, stays], (L_idxPlace), ?_⟩
    rw [vc_idxPlace]
    try dsimp only
    have hb := hp _ rfl
    refine ⟨⟨(by trivial), (by trivial), (by trivial), by omega, by omega, fun k hk => absurd hk (by simp)⟩, ?_⟩
    rintro ⟨xs', id', u, f, n, i⟩ ⟨h⟩
    dsimp only at h ⊢
    obtain ⟨rfl, rfl, rfl, h0, h1, h3⟩ := h
    refine ifB_of (fun c => ?_) (fun c => ?_)
    · have hi : i < xs'.length := of_decide_eq_true c
      have e1 : (i + 1).toNat = i.toNat + 1 := by omega
      refine ⟨⟨h0, hi⟩, ifB_of (fun c1 => ?_) (fun c1 => ?_)⟩
      · rw [firstI_at (T := .body) (p := fun y : Body => decide (y.Id ≥ id')) (i := i.toNat) (by omega) c1 h3]
        refine ⟨?_, (by trivial)⟩
        congr 1
        omega
      · simp (disch := omega) only [wrap_small, e1]
        refine ⟨⟨(by trivial), (by trivial), (by trivial), by omega, by omega, fun k hk => ?_⟩, by omega⟩
        by_cases e : k = i.toNat
        · rw [e]; exact c1
        · exact h3 k (by omega)
    · have hi : ¬ i < xs'.length := of_decide_eq_false c
      rw [firstI_no (T := .body) (p := fun y : Body => decide (y.Id ≥ id')) fun k hk => h3 k (by omega)]
      exact ⟨rfl, rfl⟩)

theorem firstI_place (xs : List Body) (id : Int) : firstI (fun y : Body => decide (y.Id ≥ id)) xs = bif decide (atB xs id < xs.length) then (atB xs id : Int) else -1 := by
  obtain ⟨k1, k2, k3⟩ := pref_spec (T := .body) (p := fun y : Body => decide (y.Id < id)) xs
  change atB xs id ≤ xs.length at k1
  change ∀ e, e < atB xs id → decide ((Ty.ix .body xs e).Id < id) = true at k2
  change atB xs id < xs.length → decide ((Ty.ix .body xs (atB xs id)).Id < id) = false at k3
  cases hh : decide (atB xs id < xs.length) with
  | true =>
    have hlt := of_decide_eq_true hh
    have := of_decide_eq_false (k3 hlt)
    simp only [cond_true]
    refine firstI_at (T := .body) (p := fun y : Body => decide (y.Id ≥ id)) hlt (decide_eq_true (by omega)) fun e he => ?_
    have := of_decide_eq_true (k2 e he)
    exact decide_eq_false (by omega)
  | false =>
    have hlt := of_decide_eq_false hh
    simp only [cond_false]
    refine firstI_no (T := .body) (p := fun y : Body => decide (y.Id ≥ id)) fun e he => ?_
    have := of_decide_eq_true (k2 e (by omega))
    exact decide_eq_false (by omega)
noncomputable def fs_place : Fs := ⟨[], fun args H => match args, H with
  | [.vec 0, .int .i64 id], [(false, .vec .body xs)] => some ((some (xs.length ≤ 4611686018427387904)), .tup [.int .i64 (atB xs id), .bool (hasB xs id)], [(false, .vec .body xs)])
  | _, _ => none⟩

theorem vc_place (id : Int) (xs : List Body) (Q : SV → List Ent → Prop) :
    fnVC tt (look [(209, fs_idxPlace)]) L0 Tryz.f155 [.vec 0, .int .i64 id] [(false, .vec .body xs)] Q =
    (List.length xs ≤ (4611686018427387904 : Nat) ∧ ifB (decide (firstI (fun y => decide (Body.Id y ≥ id)) xs < (0 : Int))) (Q (SV.tup [SV.int IntKind.i64 (↑(List.length xs) : Int), SV.bool false]) [(false, Blk.vec Ty.body xs)]) (((0 : Int) ≤ firstI (fun y => decide (Body.Id y ≥ id)) xs ∧ firstI (fun y => decide (Body.Id y ≥ id)) xs < (↑(List.length xs) : Int)) ∧ Q (SV.tup [SV.int IntKind.i64 (firstI (fun y => decide (Body.Id y ≥ id)) xs), SV.bool (Body.Id (Ty.ix Ty.body xs (Int.toNat (firstI (fun y => decide (Body.Id y ≥ id)) xs))) == id)]) [(false, Blk.vec Ty.body xs)])) := by kernel_rfl

theorem ok_place : FsOk Tryz.prog 155 fs_place := fsOk_of tt_ok (tabFs_cons ok_idxPlace tabFs_nil) mixed Tryz.func155 (by kernel_rfl) (by kernel_rfl) (by
    intro args LL p r HH h hp
    unfold fs_place at h
    dsimp only at h
    split at h
    case h_2 => cases h
    rename_i id xs
    simp only [Option.some.injEq, Prod.mk.injEq] at h
    obtain ⟨rfl, rfl, rfl⟩ := h
    refine ⟨by simp [Form, stays], L0, ?_⟩
    rw [vc_place]
    try dsimp only
    have hb := hp _ rfl
    refine ⟨hb, ?_⟩
    rw [firstI_place]
    have hk := atB_le xs id
    unfold hasB
    cases hh : decide (atB xs id < xs.length) with
    | true =>
      have hlt := of_decide_eq_true hh
      simp only [cond_true]
      refine ifB_of (fun c => ?_) (fun c => ⟨by omega, ?_⟩)
      · have := of_decide_eq_true c
        omega
      · exact ⟨rfl, (by trivial)⟩
    | false =>
      have hlt := of_decide_eq_false hh
      simp only [cond_false]
      refine ifB_of (fun c => ?_) (fun c => ?_)
      · rw [show atB xs id = xs.length by omega]
        exact ⟨rfl, (by trivial)⟩
      · simp at c)


def ahead (a b : Pair) : Bool := decide (a.A < b.A) || a.A == b.A && decide (a.B < b.B)
noncomputable def fs_l10Ahead : Fs := ⟨[], fun args H => match args, H with
  | [.agg [.int .i64 aA, .int .i64 aB], .agg [.int .i64 bA, .int .i64 bB]], [] => some (none, .bool (ahead (Pair.mk aA aB) (Pair.mk bA bB)), [])
  | _, _ => none⟩

theorem vc_l10Ahead (aA : Int) (aB : Int) (bA : Int) (bB : Int) (Q : SV → List Ent → Prop) :
    fnVC tt (look []) L0 Tryz.f124 [.agg [.int .i64 aA, .int .i64 aB], .agg [.int .i64 bA, .int .i64 bB]] [] Q =
    (ifB (decide (aA < bA)) (Q (SV.bool true) []) (ifB (aA == bA) (Q (SV.bool (decide (aB < bB))) []) (Q (SV.bool false) []))) := by kernel_rfl

theorem ok_l10Ahead : FsOk Tryz.prog 124 fs_l10Ahead := fsOk_of tt_ok tabFs_nil mixed Tryz.func124 (by kernel_rfl) (by kernel_rfl) (by
    intro args LL p r HH h hp
    unfold fs_l10Ahead at h
    dsimp only at h
    split at h
    case h_2 => cases h
    rename_i aA aB bA bB
    simp only [Option.some.injEq, Prod.mk.injEq] at h
    obtain ⟨rfl, rfl, rfl⟩ := h
    refine ⟨by simp [Form, stays], L0, ?_⟩
    rw [vc_l10Ahead]
    try dsimp only

    repeat' (first | refine ifB_of (fun _ => ?_) (fun _ => ?_) | refine pre_of ?_ (fun _ => ?_))
    all_goals first
      | rfl
      | (simp only [W, ahead, *, cond_true, cond_false, Bool.true_and, Bool.false_and, Bool.and_true, Bool.and_false, Bool.not_true, Bool.not_false, and_self, true_and]; done)
      | (simp_all [W, ahead]; done)
      | (simp_all [W, ahead] <;> omega))

def pairAt (xs : List Body) (ps : List Pair) (i : Nat) : Bool :=
  hasB xs (Ty.ix .pair ps i).A && hasB xs (Ty.ix .pair ps i).B && decide ((Ty.ix .pair ps i).A < (Ty.ix .pair ps i).B) && (i == 0 || ahead (Ty.ix .pair ps (i - 1)) (Ty.ix .pair ps i))
def worldOk (t p : Int) (xs : List Body) (ps : List Pair) : Bool := isIn t 0 100000 && isIn p 0 2560 && bodiesOk xs && allTo (pairAt xs ps) ps.length
def LSspecWok  : LS where
  S := List Body × List Pair × (Int × Int) × Int
  live := [(1, [none]), (3, [none])]
  shape := fun s => ([.ptr 2 0 0, .int .i64 s.2.2.2], [(false, .vec .body s.1), (false, .vec .pair s.2.1), (true, .box [.int .i64 s.2.2.1.1, .int .i64 s.2.2.1.2, .vec 0, .vec 1])])
  get := fun v h => match v, h with
    | [.ptr 2 0 0, .int .i64 i], [(false, .vec .body xs), (false, .vec .pair ps), (true, .box [.int .i64 w_0, .int .i64 w_1, .vec 0, .vec 1])] => some (xs, ps, (w_0, w_1), i)
    | _, _ => none
  inv := fun s0 s => Holds (s.1 = s0.1 ∧ s.2.1 = s0.2.1 ∧ s.2.2.1 = s0.2.2.1 ∧ 0 ≤ s.2.2.2 ∧ s.2.2.2 ≤ s0.2.1.length ∧ allTo (pairAt s0.1 s0.2.1) s.2.2.2.toNat = true)
  mu := fun s => ((s.2.1.length : Int) - s.2.2.2).toNat
  ok := by
    intro v h s hg
    try dsimp only at hg
    split at hg <;> cases hg
    rfl

def L_specWok : Loops := fun n => match n with
  | 4 => some LSspecWok
  | _ => none
noncomputable def fs_specWorldOk : Fs := ⟨[], fun args H => match args, H with
  | [.agg [.int .i64 t, .int .i64 p, .vec 0, .vec 1]], [(false, .vec .body xs), (false, .vec .pair ps)] => some ((some (xs.length ≤ 1048576 ∧ ps.length ≤ 1048576)), .bool (worldOk t p xs ps), [(false, .vec .body xs), (false, .vec .pair ps)])
  | _, _ => none⟩

theorem vc_specWorldOk (t : Int) (p : Int) (xs : List Body) (ps : List Pair) (Q : SV → List Ent → Prop) :
    fnVC tt (look [(74, fs_l1In), (37, fs_specBodiesOk), (123, fs_l10At), (124, fs_l10Ahead)]) (L_specWok) Tryz.f46 [.agg [.int .i64 t, .int .i64 p, .vec 0, .vec 1]] [(false, .vec .body xs), (false, .vec .pair ps)] Q =
    (let w_ := IntKind.wrap IntKind.i64; let n_ := Int.toNat; ifB (!isIn t (0 : Int) (100000 : Int)) (Q (SV.bool false) [(false, Blk.vec Ty.body xs), (false, Blk.vec Ty.pair ps)]) (ifB (!isIn p (0 : Int) (2560 : Int)) (Q (SV.bool false) [(false, Blk.vec Ty.body xs), (false, Blk.vec Ty.pair ps)]) (List.length xs ≤ (4611686018427387904 : Nat) ∧ ifB (!bodiesOk xs) (Q (SV.bool false) [(false, Blk.vec Ty.body xs), (false, Blk.vec Ty.pair ps)]) (Holds (xs = xs ∧ ps = ps ∧ (t, p) = (t, p) ∧ (0 : Int) ≤ (0 : Int) ∧ (0 : Int) ≤ (↑(List.length ps) : Int) ∧ allTo (pairAt xs ps) (n_ (0 : Int)) = true) ∧ ∀ (y1 : List Body × List Pair × (Int × Int) × Int), let y1f0_ := Prod.fst y1; let y1s1_ := Prod.snd y1; let y1f1_ := Prod.fst (Prod.snd y1); let y1s2_ := Prod.snd (Prod.snd y1); let y1f2_ := Prod.fst (Prod.snd (Prod.snd y1)); let y1s3_ := Prod.snd (Prod.snd (Prod.snd y1)); let A6_ := (false, Blk.vec Ty.pair y1f1_); let A5_ := (false, Blk.vec Ty.body y1f0_); let A4_ := (Ty.ix Ty.pair y1f1_ (n_ y1s3_)); let A3_ := (↑(List.length y1f1_) : Int); let A2_ := (Prod.snd y1s2_ + (1 : Int)); Holds (Prod.fst y1 = xs ∧ y1f1_ = ps ∧ y1f2_ = (t, p) ∧ (0 : Int) ≤ y1s3_ ∧ y1s3_ ≤ (↑(List.length ps) : Int) ∧ allTo (pairAt xs ps) (n_ y1s3_) = true) → ifB (decide (Prod.snd y1s2_ < A3_)) (((0 : Int) ≤ y1s3_ ∧ y1s3_ < A3_) ∧ List.length y1f0_ ≤ (4611686018427387904 : Nat) ∧ List.length y1f0_ ≤ (4611686018427387904 : Nat) ∧ ifB (!hasB y1f0_ (Pair.A A4_)) (Q (SV.bool false) [A5_, A6_]) (ifB (!hasB y1f0_ (Pair.B A4_)) (Q (SV.bool false) [A5_, A6_]) (ifB (decide (Pair.A A4_ ≥ Pair.B A4_)) (Q (SV.bool false) [A5_, A6_]) (ifB (decide (Prod.snd y1s2_ > (0 : Int))) (((0 : Int) ≤ w_ (Prod.snd y1s2_ - (1 : Int)) ∧ w_ (Prod.snd y1s2_ - (1 : Int)) < A3_) ∧ ifB (!ahead (Ty.ix Ty.pair y1f1_ (n_ (w_ (Prod.snd y1s2_ - (1 : Int))))) A4_) (Q (SV.bool false) [A5_, A6_]) (Holds (Prod.fst y1 = xs ∧ y1f1_ = ps ∧ y1f2_ = (t, p) ∧ (0 : Int) ≤ w_ A2_ ∧ w_ A2_ ≤ (↑(List.length ps) : Int) ∧ allTo (pairAt xs ps) (n_ (w_ A2_)) = true) ∧ n_ (A3_ - w_ A2_) < n_ (A3_ - y1s3_))) (Holds (Prod.fst y1 = xs ∧ y1f1_ = ps ∧ y1f2_ = (t, p) ∧ (0 : Int) ≤ w_ A2_ ∧ w_ A2_ ≤ (↑(List.length ps) : Int) ∧ allTo (pairAt xs ps) (n_ (w_ A2_)) = true) ∧ n_ (A3_ - w_ A2_) < n_ (A3_ - y1s3_)))))) (Q (SV.bool true) [A5_, A6_]))))) := by kernel_rfl

theorem ok_specWorldOk : FsOk Tryz.prog 46 fs_specWorldOk := fsOk_of tt_ok (tabFs_cons ok_l1In (tabFs_cons ok_specBodiesOk (tabFs_cons ok_l10At (tabFs_cons ok_l10Ahead tabFs_nil)))) mixed Tryz.func46 (by kernel_rfl) (by kernel_rfl) (by
    intro args LL p r HH h hp
    unfold fs_specWorldOk at h
    dsimp only at h
    split at h
    case h_2 => cases h
    rename_i t p xs ps
    simp only [Option.some.injEq, Prod.mk.injEq] at h
    obtain ⟨rfl, rfl, rfl⟩ := h
    refine ⟨by simp [Form, stays], (L_specWok), ?_⟩
    rw [vc_specWorldOk]
    try dsimp only
    obtain ⟨hb, hb2⟩ := hp _ rfl
    refine ifB_of (fun c => ?_) (fun c => ifB_of (fun c2 => ?_) (fun c2 => ⟨by omega, ifB_of (fun c3 => ?_) (fun c3 => ⟨⟨(by trivial), (by trivial), (by trivial), by omega, by omega, rfl⟩, ?_⟩)⟩))
    · simp [worldOk, not_true c]
    · simp [worldOk, not_true c2]
    · simp [worldOk, not_true c3]
    rintro ⟨xs', ps', w, i⟩ ⟨h⟩
    dsimp only at h ⊢
    obtain ⟨rfl, rfl, rfl, h0, h1, h2⟩ := h
    refine ifB_of (fun c4 => ?_) (fun c4 => ?_)
    · have hi : i < ps'.length := of_decide_eq_true c4
      have hw1 : IntKind.i64.wrap (i + 1) = i + 1 := wrap_small (by omega) (by omega)
      have hw2 : IntKind.i64.wrap (i - 1) = i - 1 := wrap_small (by omega) (by omega)
      have e1 : (i + 1).toNat = i.toNat + 1 := by omega
      have e2 : (i - 1).toNat = i.toNat - 1 := by omega
      have fl : pairAt xs' ps' i.toNat = false → worldOk t p xs' ps' = false := fun h => by simp [worldOk, allTo_false h (show i.toNat < ps'.length by omega)]
      have nx : pairAt xs' ps' i.toNat = true → allTo (pairAt xs' ps') (i.toNat + 1) = true := fun h => by simp [allTo, h2, h]
      rw [hw1, hw2, e1, e2]
      refine ⟨⟨h0, hi⟩, by omega, by omega, ifB_of (fun d1 => ?_) (fun d1 => ifB_of (fun d2 => ?_) (fun d2 => ifB_of (fun d3 => ?_) (fun d3 => ifB_of (fun d4 => ?_) (fun d4 => ?_))))⟩
      · rw [fl (by simp [pairAt, not_true d1])]
        exact ⟨rfl, rfl⟩
      · rw [fl (by simp [pairAt, not_true d2])]
        exact ⟨rfl, rfl⟩
      · have d3' : decide ((Ty.ix .pair ps' i.toNat).A < (Ty.ix .pair ps' i.toNat).B) = false := decide_eq_false (by have := of_decide_eq_true d3; omega)
        rw [fl (by simp only [pairAt, d3', Bool.and_false, Bool.false_and])]
        exact ⟨rfl, rfl⟩
      · have d3' : decide ((Ty.ix .pair ps' i.toNat).A < (Ty.ix .pair ps' i.toNat).B) = true := decide_eq_true (by have := of_decide_eq_false d3; omega)
        have d4 := of_decide_eq_true d4
        have hz : (i.toNat == 0) = false := by simp; omega
        have pa : pairAt xs' ps' i.toNat = ahead (Ty.ix .pair ps' (i.toNat - 1)) (Ty.ix .pair ps' i.toNat) := by simp only [pairAt, not_false d1, not_false d2, d3', hz, Bool.true_and, Bool.false_or]
        rw [pa] at fl nx
        refine ⟨⟨by omega, by omega⟩, ifB_of (fun d5 => ?_) (fun d5 => ?_)⟩
        · rw [fl (not_true d5)]
          exact ⟨rfl, rfl⟩
        · exact ⟨⟨(by trivial), (by trivial), (by trivial), by omega, by omega, nx (not_false d5)⟩, by omega⟩
      · have d3' : decide ((Ty.ix .pair ps' i.toNat).A < (Ty.ix .pair ps' i.toNat).B) = true := decide_eq_true (by have := of_decide_eq_false d3; omega)
        have d4 := of_decide_eq_false d4
        have hz : (i.toNat == 0) = true := by simp; omega
        exact ⟨⟨(by trivial), (by trivial), (by trivial), by omega, by omega, nx (by simp only [pairAt, not_false d1, not_false d2, d3', hz, Bool.true_and, Bool.true_or])⟩, by omega⟩
    · have hi : ¬ i < ps'.length := of_decide_eq_false c4
      have e1 : i.toNat = ps'.length := by omega
      rw [e1] at h2
      simp [worldOk, not_false c, not_false c2, not_false c3, h2])

def LSimplWok  : LS where
  S := List Body × List Pair × (Int × Int) × Unit × Int × Int
  live := [(1, [none]), (26, [none]), (27, [none]), (28, [none])]
  shape := fun s => ([.ptr 2 0 0, .vec 1, .int .i64 s.2.2.2.2.1, .int .i64 s.2.2.2.2.2], [(false, .vec .body s.1), (false, .vec .pair s.2.1), (true, .box [.int .i64 s.2.2.1.1, .int .i64 s.2.2.1.2, .vec 0, .vec 1])])
  get := fun v h => match v, h with
    | [.ptr 2 0 0, .vec 1, .int .i64 n, .int .i64 i], [(false, .vec .body xs), (false, .vec .pair ps), (true, .box [.int .i64 w_0, .int .i64 w_1, .vec 0, .vec 1])] => some (xs, ps, (w_0, w_1), (), n, i)
    | _, _ => none
  inv := fun s0 s => Holds (s.1 = s0.1 ∧ s.2.1 = s0.2.1 ∧ s.2.2.1 = s0.2.2.1 ∧ s.2.2.2.2.1 = s0.2.1.length ∧ 0 ≤ s.2.2.2.2.2 ∧ s.2.2.2.2.2 ≤ s0.2.1.length ∧ allTo (pairAt s0.1 s0.2.1) s.2.2.2.2.2.toNat = true)
  mu := fun s => ((s.2.1.length : Int) - s.2.2.2.2.2).toNat
  ok := by
    intro v h s hg
    try dsimp only at hg
    split at hg <;> cases hg
    rfl

def L_implWok : Loops := fun n => match n with
  | 4 => some LSimplWok
  | _ => none
noncomputable def fs_implWorldOk : Fs := ⟨[], fun args H => match args, H with
  | [.agg [.int .i64 t, .int .i64 p, .vec 0, .vec 1]], [(false, .vec .body xs), (false, .vec .pair ps)] => some ((some (xs.length ≤ 1048576 ∧ ps.length ≤ 1048576)), .bool (worldOk t p xs ps), [(false, .vec .body xs), (false, .vec .pair ps)])
  | _, _ => none⟩

theorem vc_implWorldOk (t : Int) (p : Int) (xs : List Body) (ps : List Pair) (Q : SV → List Ent → Prop) :
    fnVC tt (look [(77, fs_in_), (38, fs_implBodiesOk), (155, fs_place)]) (L_implWok) Tryz.f73 [.agg [.int .i64 t, .int .i64 p, .vec 0, .vec 1]] [(false, .vec .body xs), (false, .vec .pair ps)] Q =
    (let w_ := IntKind.wrap IntKind.i64; let n_ := Int.toNat; ifB (!isIn t (0 : Int) (100000 : Int)) (Q (SV.bool false) [(false, Blk.vec Ty.body xs), (false, Blk.vec Ty.pair ps)]) (ifB (!isIn p (0 : Int) (2560 : Int)) (Q (SV.bool false) [(false, Blk.vec Ty.body xs), (false, Blk.vec Ty.pair ps)]) (List.length xs ≤ (4611686018427387904 : Nat) ∧ ifB (!bodiesOk xs) (Q (SV.bool false) [(false, Blk.vec Ty.body xs), (false, Blk.vec Ty.pair ps)]) (Holds (xs = xs ∧ ps = ps ∧ (t, p) = (t, p) ∧ (↑(List.length ps) : Int) = (↑(List.length ps) : Int) ∧ (0 : Int) ≤ (0 : Int) ∧ (0 : Int) ≤ (↑(List.length ps) : Int) ∧ allTo (pairAt xs ps) (n_ (0 : Int)) = true) ∧ ∀ (y1 : List Body × List Pair × (Int × Int) × Unit × Int × Int), let y1f0_ := Prod.fst y1; let y1s1_ := Prod.snd y1; let y1f1_ := Prod.fst (Prod.snd y1); let y1f2_ := Prod.fst (Prod.snd (Prod.snd y1)); let y1s4_ := Prod.snd (Prod.snd (Prod.snd (Prod.snd y1))); let y1f4_ := Prod.fst (Prod.snd (Prod.snd (Prod.snd (Prod.snd y1)))); let y1s5_ := Prod.snd (Prod.snd (Prod.snd (Prod.snd (Prod.snd y1)))); let A8_ := (false, Blk.vec Ty.pair y1f1_); let A7_ := (false, Blk.vec Ty.body y1f0_); let A6_ := (↑(List.length ps) : Int); let A5_ := (Prod.snd y1s4_ - (1 : Int)); let A9_ := (Ty.ix Ty.pair y1f1_ (n_ (w_ A5_))); let A4_ := (Ty.ix Ty.pair y1f1_ (n_ y1s5_)); let A3_ := (↑(List.length y1f1_) : Int); let A2_ := (Prod.snd y1s4_ + (1 : Int)); Holds (Prod.fst y1 = xs ∧ y1f1_ = ps ∧ y1f2_ = (t, p) ∧ y1f4_ = A6_ ∧ (0 : Int) ≤ y1s5_ ∧ y1s5_ ≤ A6_ ∧ allTo (pairAt xs ps) (n_ y1s5_) = true) → ifB (decide (Prod.snd y1s4_ < y1f4_)) (((0 : Int) ≤ y1s5_ ∧ y1s5_ < A3_) ∧ List.length y1f0_ ≤ (4611686018427387904 : Nat) ∧ List.length y1f0_ ≤ (4611686018427387904 : Nat) ∧ ifB (!hasB y1f0_ (Pair.A A4_)) (Q (SV.bool false) [A7_, A8_]) (ifB (!hasB y1f0_ (Pair.B A4_)) (Q (SV.bool false) [A7_, A8_]) (ifB (decide (Pair.A A4_ ≥ Pair.B A4_)) (Q (SV.bool false) [A7_, A8_]) (ifB (decide (Prod.snd y1s4_ > (0 : Int))) (((0 : Int) ≤ w_ A5_ ∧ w_ A5_ < A3_) ∧ ifB (decide (Pair.A A4_ < Pair.A A9_)) (Q (SV.bool false) [A7_, A8_]) (((0 : Int) ≤ w_ A5_ ∧ w_ A5_ < A3_) ∧ ifB (Pair.A A4_ == Pair.A A9_) (((0 : Int) ≤ w_ A5_ ∧ w_ A5_ < A3_) ∧ ifB (decide (Pair.B A4_ ≤ Pair.B A9_)) (Q (SV.bool false) [A7_, A8_]) (Holds (Prod.fst y1 = xs ∧ y1f1_ = ps ∧ y1f2_ = (t, p) ∧ y1f4_ = A6_ ∧ (0 : Int) ≤ w_ A2_ ∧ w_ A2_ ≤ A6_ ∧ allTo (pairAt xs ps) (n_ (w_ A2_)) = true) ∧ n_ (A3_ - w_ A2_) < n_ (A3_ - y1s5_))) (Holds (Prod.fst y1 = xs ∧ y1f1_ = ps ∧ y1f2_ = (t, p) ∧ y1f4_ = A6_ ∧ (0 : Int) ≤ w_ A2_ ∧ w_ A2_ ≤ A6_ ∧ allTo (pairAt xs ps) (n_ (w_ A2_)) = true) ∧ n_ (A3_ - w_ A2_) < n_ (A3_ - y1s5_)))) (Holds (Prod.fst y1 = xs ∧ y1f1_ = ps ∧ y1f2_ = (t, p) ∧ y1f4_ = A6_ ∧ (0 : Int) ≤ w_ A2_ ∧ w_ A2_ ≤ A6_ ∧ allTo (pairAt xs ps) (n_ (w_ A2_)) = true) ∧ n_ (A3_ - w_ A2_) < n_ (A3_ - y1s5_)))))) (Q (SV.bool true) [A7_, A8_]))))) := by kernel_rfl

theorem ok_implWorldOk : FsOk Tryz.prog 73 fs_implWorldOk := fsOk_of tt_ok (tabFs_cons ok_in_ (tabFs_cons ok_implBodiesOk (tabFs_cons ok_place tabFs_nil))) mixed Tryz.func73 (by kernel_rfl) (by kernel_rfl) (by
    intro args LL p r HH h hp
    unfold fs_implWorldOk at h
    dsimp only at h
    split at h
    case h_2 => cases h
    rename_i t p xs ps
    simp only [Option.some.injEq, Prod.mk.injEq] at h
    obtain ⟨rfl, rfl, rfl⟩ := h
    refine ⟨by simp [Form, stays], (L_implWok), ?_⟩
    rw [vc_implWorldOk]
    try dsimp only
    obtain ⟨hb, hb2⟩ := hp _ rfl
    refine ifB_of (fun c => ?_) (fun c => ifB_of (fun c2 => ?_) (fun c2 => ⟨by omega, ifB_of (fun c3 => ?_) (fun c3 => ⟨⟨(by trivial), (by trivial), (by trivial), (by trivial), by omega, by omega, rfl⟩, ?_⟩)⟩))
    · simp [worldOk, not_true c]
    · simp [worldOk, not_true c2]
    · simp [worldOk, not_true c3]
    rintro ⟨xs', ps', w, v, n, i⟩ ⟨h⟩
    dsimp only at h ⊢
    obtain ⟨rfl, rfl, rfl, rfl, h0, h1, h2⟩ := h
    refine ifB_of (fun c4 => ?_) (fun c4 => ?_)
    · have hi : i < ps'.length := of_decide_eq_true c4
      have hw1 : IntKind.i64.wrap (i + 1) = i + 1 := wrap_small (by omega) (by omega)
      have hw2 : IntKind.i64.wrap (i - 1) = i - 1 := wrap_small (by omega) (by omega)
      have e1 : (i + 1).toNat = i.toNat + 1 := by omega
      have e2 : (i - 1).toNat = i.toNat - 1 := by omega
      have fl : pairAt xs' ps' i.toNat = false → worldOk t p xs' ps' = false := fun h => by simp [worldOk, allTo_false h (show i.toNat < ps'.length by omega)]
      have nx : pairAt xs' ps' i.toNat = true → allTo (pairAt xs' ps') (i.toNat + 1) = true := fun h => by simp [allTo, h2, h]
      rw [hw1, hw2, e1, e2]
      refine ⟨⟨h0, hi⟩, by omega, by omega, ifB_of (fun d1 => ?_) (fun d1 => ifB_of (fun d2 => ?_) (fun d2 => ifB_of (fun d3 => ?_) (fun d3 => ifB_of (fun d4 => ?_) (fun d4 => ?_))))⟩
      · rw [fl (by simp [pairAt, not_true d1])]
        exact ⟨rfl, rfl⟩
      · rw [fl (by simp [pairAt, not_true d2])]
        exact ⟨rfl, rfl⟩
      · have d3' : decide ((Ty.ix .pair ps' i.toNat).A < (Ty.ix .pair ps' i.toNat).B) = false := decide_eq_false (by have := of_decide_eq_true d3; omega)
        rw [fl (by simp only [pairAt, d3', Bool.and_false, Bool.false_and])]
        exact ⟨rfl, rfl⟩
      · have d3' : decide ((Ty.ix .pair ps' i.toNat).A < (Ty.ix .pair ps' i.toNat).B) = true := decide_eq_true (by have := of_decide_eq_false d3; omega)
        have d4 := of_decide_eq_true d4
        have hz : (i.toNat == 0) = false := by simp; omega
        have pa : pairAt xs' ps' i.toNat = ahead (Ty.ix .pair ps' (i.toNat - 1)) (Ty.ix .pair ps' i.toNat) := by simp only [pairAt, not_false d1, not_false d2, d3', hz, Bool.true_and, Bool.false_or]
        rw [pa] at fl nx
        unfold ahead at fl nx
        refine ⟨⟨by omega, by omega⟩, ifB_of (fun d5 => ?_) (fun d5 => ⟨⟨by omega, by omega⟩, ifB_of (fun d6 => ⟨⟨by omega, by omega⟩, ifB_of (fun d7 => ?_) (fun d7 => ?_)⟩) (fun d6 => ?_)⟩)⟩
        · have d5 := of_decide_eq_true d5
          rw [fl (by simp; omega)]
          exact ⟨rfl, rfl⟩
        · have d5 := of_decide_eq_false d5
          have d7 := of_decide_eq_true d7
          simp only [beq_iff_eq] at d6
          rw [fl (by simp; omega)]
          exact ⟨rfl, rfl⟩
        · have d5 := of_decide_eq_false d5
          have d7 := of_decide_eq_false d7
          simp only [beq_iff_eq] at d6
          exact ⟨⟨(by trivial), (by trivial), (by trivial), (by trivial), by omega, by omega, nx (by simp; omega)⟩, by omega⟩
        · have d5 := of_decide_eq_false d5
          simp only [beq_eq_false_iff_ne] at d6
          exact ⟨⟨(by trivial), (by trivial), (by trivial), (by trivial), by omega, by omega, nx (by simp; omega)⟩, by omega⟩
      · have d3' : decide ((Ty.ix .pair ps' i.toNat).A < (Ty.ix .pair ps' i.toNat).B) = true := decide_eq_true (by have := of_decide_eq_false d3; omega)
        have d4 := of_decide_eq_false d4
        have hz : (i.toNat == 0) = true := by simp; omega
        exact ⟨⟨(by trivial), (by trivial), (by trivial), (by trivial), by omega, by omega, nx (by simp only [pairAt, not_false d1, not_false d2, d3', hz, Bool.true_and, Bool.true_or])⟩, by omega⟩
    · have hi : ¬ i < ps'.length := of_decide_eq_false c4
      have e1 : i.toNat = ps'.length := by omega
      rw [e1] at h2
      simp [worldOk, not_false c, not_false c2, not_false c3, h2])


def szW (b : Int) (n m : Nat) : Int := if szLeft b n < 0 then -1 else szLeft (szLeft b n) m
theorem szLeft_neg {b n : Int} (h : szLeft b n < 0) : szLeft b n = -1 := by
  unfold szLeft at h ⊢
  split
  · rfl
  · rename_i h2
    rw [if_neg h2] at h
    omega
noncomputable def fs_szWorld : Fs := ⟨[], fun args H => match args, H with
  | [.agg [.int .i64 t, .int .i64 p, .vec 0, .vec 1], .int .i64 b], [(false, .vec .body xs), (false, .vec .pair ps)] => some (none, .int .i64 (szW b xs.length ps.length), [(false, .vec .body xs), (false, .vec .pair ps)])
  | _, _ => none⟩

theorem vc_szWorld (t : Int) (p : Int) (b : Int) (xs : List Body) (ps : List Pair) (Q : SV → List Ent → Prop) :
    fnVC tt (look [(14, fs_lawsSzBodyS), (91, fs_lawsSzPairS)]) L0 Tryz.f23 [.agg [.int .i64 t, .int .i64 p, .vec 0, .vec 1], .int .i64 b] [(false, .vec .body xs), (false, .vec .pair ps)] Q =
    (ifB (decide (szLeft b (↑(List.length xs) : Int) < (0 : Int))) (Q (SV.int IntKind.i64 (-1 : Int)) [(false, Blk.vec Ty.body xs), (false, Blk.vec Ty.pair ps)]) (ifB (decide (szLeft (szLeft b (↑(List.length xs) : Int)) (↑(List.length ps) : Int) < (0 : Int))) (Q (SV.int IntKind.i64 (-1 : Int)) [(false, Blk.vec Ty.body xs), (false, Blk.vec Ty.pair ps)]) (Q (SV.int IntKind.i64 (szLeft (szLeft b (↑(List.length xs) : Int)) (↑(List.length ps) : Int))) [(false, Blk.vec Ty.body xs), (false, Blk.vec Ty.pair ps)]))) := by kernel_rfl

theorem ok_szWorld : FsOk Tryz.prog 23 fs_szWorld := fsOk_of tt_ok (tabFs_cons ok_lawsSzBodyS (tabFs_cons ok_lawsSzPairS tabFs_nil)) mixed Tryz.func23 (by kernel_rfl) (by kernel_rfl) (by
    intro args LL p r HH h hp
    unfold fs_szWorld at h
    dsimp only at h
    split at h
    case h_2 => cases h
    rename_i t p b xs ps
    simp only [Option.some.injEq, Prod.mk.injEq] at h
    obtain ⟨rfl, rfl, rfl⟩ := h
    refine ⟨by simp [Form, stays], L0, ?_⟩
    rw [vc_szWorld]
    try dsimp only
    refine ifB_of (fun c => ?_) (fun c => ifB_of (fun c2 => ?_) (fun c2 => ?_))
    · simp [szW, of_decide_eq_true c]
    · have c2 := of_decide_eq_true c2
      have c := of_decide_eq_false c
      simp only [szW, if_neg c]
      rw [szLeft_neg c2]
      exact ⟨(by trivial), (by trivial)⟩
    · simp [szW, of_decide_eq_false c])

noncomputable def fs_toWorld : Fs := ⟨[], fun args H => match args, H with
  | [.agg [.int .i64 t, .int .i64 p, .vec 0, .vec 1]], [(false, .vec .body xs), (false, .vec .pair ps)] => some ((some (xs.length ≤ 1048576 ∧ ps.length ≤ 1048576)), .agg [.int .i64 t, .int .i64 p, .vec 2, .vec 3], [(false, .vec .body xs), (false, .vec .pair ps), (true, .vec .body xs), (true, .vec .pair ps)])
  | _, _ => none⟩

theorem vc_toWorld (t : Int) (p : Int) (xs : List Body) (ps : List Pair) (Q : SV → List Ent → Prop) :
    fnVC tt (look [(16, fs_lawsToBodyS), (95, fs_lawsToPairS)]) L0 Tryz.f25 [.agg [.int .i64 t, .int .i64 p, .vec 0, .vec 1]] [(false, .vec .body xs), (false, .vec .pair ps)] Q =
    (List.length xs ≤ (1048576 : Nat) ∧ List.length ps ≤ (1048576 : Nat) ∧ Q (SV.agg [SV.int IntKind.i64 t, SV.int IntKind.i64 p, SV.vec (2 : Nat), SV.vec (3 : Nat)]) [(false, Blk.vec Ty.body xs), (false, Blk.vec Ty.pair ps), (true, Blk.vec Ty.body xs), (true, Blk.vec Ty.pair ps)]) := by kernel_rfl

theorem ok_toWorld : FsOk Tryz.prog 25 fs_toWorld := fsOk_of tt_ok (tabFs_cons ok_lawsToBodyS (tabFs_cons ok_lawsToPairS tabFs_nil)) mixed Tryz.func25 (by kernel_rfl) (by kernel_rfl) (by
    intro args LL p r HH h hp
    unfold fs_toWorld at h
    dsimp only at h
    split at h
    case h_2 => cases h
    rename_i t p xs ps
    simp only [Option.some.injEq, Prod.mk.injEq] at h
    obtain ⟨rfl, rfl, rfl⟩ := h
    refine ⟨by simp [Form, stays], L0, ?_⟩
    rw [vc_toWorld]
    try dsimp only
    obtain ⟨hb, hb2⟩ := hp _ rfl
    exact ⟨hb, hb2, rfl, rfl⟩)

theorem szW_le {n m : Nat} (c : decide (szW 1048576 n m < 0) = false) (hn : n ≤ 9223372036854775807) (hm : m ≤ 9223372036854775807) : n ≤ 1048576 ∧ m ≤ 1048576 := by
  have c := of_decide_eq_false c
  unfold szW at c
  by_cases h : szLeft 1048576 (n : Int) < 0
  · rw [if_pos h] at c
    omega
  · rw [if_neg h] at c
    have k1 := szLeft_le2 (b := 1048576) (by omega) (by omega) (decide_eq_false h) hn
    rw [k1.2] at c
    have k2 := szLeft_le2 (b := 1048576 - (n : Int)) (by omega) (by omega) (decide_eq_false c) hm
    omega
end Go.Proofs.YtdhbkcaaijgocaaGreat.Sym

namespace Go.Proofs.YtdhbkcaaijgocaaGreat.Sym
open Go
set_option linter.unusedVariables false
set_option linter.unusedSimpArgs false
set_option maxRecDepth 100000

theorem worldOk_bodies {t p : Int} {xs : List Body} {ps : List Pair} (h : worldOk t p xs ps = true) : bodiesOk xs = true := by
  simp only [worldOk, Bool.and_eq_true] at h
  exact h.1.2
end Go.Proofs.YtdhbkcaaijgocaaGreat.Sym

namespace Go.Proofs.YtdhbkcaaijgocaaGreat.Sym
open Go
set_option linter.unusedVariables false
set_option linter.unusedSimpArgs false
set_option maxRecDepth 100000

noncomputable def fs_clonePairs : Fs := ⟨[], fun args H => match args, H with
  | [.vec 0], [(false, .vec .pair xs)] => some ((some (xs.length ≤ 1048576)), .vec 1, [(false, .vec .pair xs), (true, .vec .pair xs)])
  | _, _ => none⟩

theorem vc_clonePairs (xs : List Pair) (Q : SV → List Ent → Prop) :
    fnVC tt (look []) L0 Tryz.f179 [.vec 0] [(false, .vec .pair xs)] Q =
    (∀ (b : Bool), (b = true → List.length xs = (0 : Nat)) → ifB b (Q (SV.vec (1 : Nat)) [(false, Blk.vec Ty.pair xs), (true, Blk.vec Ty.pair [])]) (((0 : Nat) + List.length xs) * (16 : Nat) ≤ room ∧ Q (SV.vec (1 : Nat)) [(false, Blk.vec Ty.pair xs), (true, Blk.vec Ty.pair ([] ++ xs))])) := by kernel_rfl

theorem ok_clonePairs : FsOk Tryz.prog 179 fs_clonePairs := fsOk_of tt_ok tabFs_nil mixed Tryz.func179 (by kernel_rfl) (by kernel_rfl) (by
    intro args LL p r HH h hp
    unfold fs_clonePairs at h
    dsimp only at h
    split at h
    case h_2 => cases h
    rename_i xs
    simp only [Option.some.injEq, Prod.mk.injEq] at h
    obtain ⟨rfl, rfl, rfl⟩ := h
    refine ⟨by simp [Form, stays], L0, ?_⟩
    rw [vc_clonePairs]
    try dsimp only
    have hb := hp _ rfl
    intro z hz
    refine ifB_of (fun c => ?_) (fun c => ⟨by simp only [room]; omega, ?_⟩)
    · have := List.length_eq_zero_iff.1 (hz c)
      subst this
      exact ⟨rfl, rfl⟩
    · simp)

noncomputable def fs_specCopyW : Fs := ⟨[], fun args H => match args, H with
  | [.agg [.int .i64 t, .int .i64 p, .vec 0, .vec 1]], [(false, .vec .body xs), (false, .vec .pair ps)] => some ((some (xs.length ≤ 1048576 ∧ ps.length ≤ 1048576)), .agg [.int .i64 t, .int .i64 p, .vec 2, .vec 3], [(false, .vec .body xs), (false, .vec .pair ps), (true, .vec .body xs), (true, .vec .pair ps)])
  | _, _ => none⟩

theorem vc_specCopyW (t : Int) (p : Int) (xs : List Body) (ps : List Pair) (Q : SV → List Ent → Prop) :
    fnVC tt (look [(90, fs_specCopyB)]) L0 Tryz.f92 [.agg [.int .i64 t, .int .i64 p, .vec 0, .vec 1]] [(false, .vec .body xs), (false, .vec .pair ps)] Q =
    (List.length xs ≤ (1048576 : Nat) ∧ ((0 : Nat) + List.length ps) * (16 : Nat) ≤ room ∧ Q (SV.agg [SV.int IntKind.i64 t, SV.int IntKind.i64 p, SV.vec (2 : Nat), SV.vec (3 : Nat)]) [(false, Blk.vec Ty.body xs), (false, Blk.vec Ty.pair ps), (true, Blk.vec Ty.body xs), (true, Blk.vec Ty.pair ([] ++ ps))]) := by kernel_rfl

theorem ok_specCopyW : FsOk Tryz.prog 92 fs_specCopyW := fsOk_of tt_ok (tabFs_cons ok_specCopyB tabFs_nil) mixed Tryz.func92 (by kernel_rfl) (by kernel_rfl) (by
    intro args LL p r HH h hp
    unfold fs_specCopyW at h
    dsimp only at h
    split at h
    case h_2 => cases h
    rename_i t p xs ps
    simp only [Option.some.injEq, Prod.mk.injEq] at h
    obtain ⟨rfl, rfl, rfl⟩ := h
    refine ⟨by simp [Form, stays], L0, ?_⟩
    rw [vc_specCopyW]
    try dsimp only
    obtain ⟨hb, hb2⟩ := hp _ rfl
    refine ⟨hb, by simp only [room]; omega, ?_⟩
    simp)

noncomputable def fs_implCopyW : Fs := ⟨[], fun args H => match args, H with
  | [.agg [.int .i64 t, .int .i64 p, .vec 0, .vec 1]], [(false, .vec .body xs), (false, .vec .pair ps)] => some ((some (xs.length ≤ 1048576 ∧ ps.length ≤ 1048576)), .agg [.int .i64 t, .int .i64 p, .vec 2, .vec 3], [(false, .vec .body xs), (false, .vec .pair ps), (true, .vec .body xs), (true, .vec .pair ps)])
  | _, _ => none⟩

theorem vc_implCopyW (t : Int) (p : Int) (xs : List Body) (ps : List Pair) (Q : SV → List Ent → Prop) :
    fnVC tt (look [(78, fs_cloneBodies), (179, fs_clonePairs)]) L0 Tryz.f96 [.agg [.int .i64 t, .int .i64 p, .vec 0, .vec 1]] [(false, .vec .body xs), (false, .vec .pair ps)] Q =
    (List.length xs ≤ (1048576 : Nat) ∧ List.length ps ≤ (1048576 : Nat) ∧ Q (SV.agg [SV.int IntKind.i64 t, SV.int IntKind.i64 p, SV.vec (2 : Nat), SV.vec (3 : Nat)]) [(false, Blk.vec Ty.body xs), (false, Blk.vec Ty.pair ps), (true, Blk.vec Ty.body xs), (true, Blk.vec Ty.pair ps)]) := by kernel_rfl

theorem ok_implCopyW : FsOk Tryz.prog 96 fs_implCopyW := fsOk_of tt_ok (tabFs_cons ok_cloneBodies (tabFs_cons ok_clonePairs tabFs_nil)) mixed Tryz.func96 (by kernel_rfl) (by kernel_rfl) (by
    intro args LL p r HH h hp
    unfold fs_implCopyW at h
    dsimp only at h
    split at h
    case h_2 => cases h
    rename_i t p xs ps
    simp only [Option.some.injEq, Prod.mk.injEq] at h
    obtain ⟨rfl, rfl, rfl⟩ := h
    refine ⟨by simp [Form, stays], L0, ?_⟩
    rw [vc_implCopyW]
    try dsimp only
    obtain ⟨hb, hb2⟩ := hp _ rfl
    exact ⟨hb, hb2, (by trivial), (by trivial)⟩)

def orI (ok : Bool) (n : Int) : Int := bif ok then n else 0
end Go.Proofs.YtdhbkcaaijgocaaGreat.Sym

namespace Go.Proofs.YtdhbkcaaijgocaaGreat.Sym
open Go
set_option linter.unusedVariables false
set_option linter.unusedSimpArgs false
set_option maxRecDepth 100000
noncomputable section

def evs (b : Bool) (ps : List Pair) : List Event := ps.map fun q => ⟨b, q⟩
theorem evs_drop {b : Bool} {ps : List Pair} {i : Nat} (h : i < ps.length) : evs b (ps.drop i) = ⟨b, Ty.ix .pair ps i⟩ :: evs b (ps.drop (i + 1)) := by
  rw [drop_ix (T := .pair) h]
  rfl
theorem length_evs (b : Bool) (ps : List Pair) : (evs b ps).length = ps.length := by simp [evs]
def stepEvs (was now : List Pair) : List Event := evs false (newF now was) ++ evs true (newF was now)
def stepTick (ok : Bool) (t : Int) : Int := bif ok then bif t == 100000 then t else W (t + 1) else 0
def stepBodies (ok : Bool) (t p : Int) (xs : List Body) : List Body := bif ok then bif t == 100000 then xs else stepOf xs p else []
def stepPs (ok : Bool) (t p : Int) (xs : List Body) (ps : List Pair) : List Pair := bif ok then bif t == 100000 then ps else stepPairs (stepOf xs p) else []
def stepEs (ok : Bool) (t p : Int) (xs : List Body) (ps : List Pair) : List Event := bif ok then bif t == 100000 then [] else stepEvs ps (stepPairs (stepOf xs p)) else []
theorem length_stepOf (xs : List Body) (pull : Int) : (stepOf xs pull).length ≤ 12 := by
  unfold stepOf
  cases q : bodiesOk xs && isIn pull 0 2560 with
  | true =>
    rw [Bool.and_eq_true] at q
    have := bodiesOk_len q.1
    simp only [cond_true, stepF, length_settleF, length_mapX, length_apartF, length_pushAllF]
    exact this
  | false => simp
def LSws1  : LS where
  S := List Body × List Pair × (Int × Int) × (Int × Int) × (Int × Int × List Body × List Pair) × List Event × List Pair × Int × Int
  live := [(1, [none]), (2, [none]), (4, [none]), (5, [some .event]), (38, [some .pair]), (39, [none]), (40, [none])]
  shape := fun s => ([.ptr 2 0 0, .ptr 3 0 0, .ptr 6 0 0, .vec 7, .vec 8, .int .i64 s.2.2.2.2.2.2.2.1, .int .i64 s.2.2.2.2.2.2.2.2], [(false, .vec .body s.1), (false, .vec .pair s.2.1), (true, .box [.int .i64 s.2.2.1.1, .int .i64 s.2.2.1.2, .vec 0, .vec 1]), (true, .box [.int .i64 s.2.2.2.1.1, .int .i64 s.2.2.2.1.2, .nilsl, .nilsl]), (true, .vec .body s.2.2.2.2.1.2.2.1), (true, .vec .pair s.2.2.2.2.1.2.2.2), (true, .box [.int .i64 s.2.2.2.2.1.1, .int .i64 s.2.2.2.2.1.2.1, .vec 4, .vec 5]), (true, .vec .event s.2.2.2.2.2.1), (true, .vec .pair s.2.2.2.2.2.2.1)])
  get := fun v h => match v, h with
    | [.ptr 2 0 0, .ptr 3 0 0, .ptr 6 0 0, .vec 7, .vec 8, .int .i64 n, .int .i64 i], [(false, .vec .body xs), (false, .vec .pair ps), (true, .box [.int .i64 w_0, .int .i64 w_1, .vec 0, .vec 1]), (true, .box [.int .i64 r_0, .int .i64 r_1, .nilsl, .nilsl]), (true, .vec .body v_2), (true, .vec .pair v_3), (true, .box [.int .i64 v_0, .int .i64 v_1, .vec 4, .vec 5]), (true, .vec .event out), (true, .vec .pair os)] => some (xs, ps, (w_0, w_1), (r_0, r_1), (v_0, v_1, v_2, v_3), out, os, n, i)
    | _, _ => none
  inv := fun s0 s => Holds (s.1 = s0.1 ∧ s.2.1 = s0.2.1 ∧ s.2.2.1 = s0.2.2.1 ∧ s.2.2.2.1 = s0.2.2.2.1 ∧ s.2.2.2.2.1 = s0.2.2.2.2.1 ∧ s.2.2.2.2.2.2.1 = s0.2.2.2.2.2.2.1 ∧ s.2.2.2.2.2.2.2.1 = s0.2.2.2.2.2.2.1.length ∧ 0 ≤ s.2.2.2.2.2.2.2.2 ∧ s.2.2.2.2.2.2.2.2 ≤ s0.2.2.2.2.2.2.1.length ∧ s.2.2.2.2.2.1 ++ evs false (s0.2.2.2.2.2.2.1.drop s.2.2.2.2.2.2.2.2.toNat) = evs false s0.2.2.2.2.2.2.1)
  mu := fun s => (s.2.2.2.2.2.2.2.1 - s.2.2.2.2.2.2.2.2).toNat
  ok := by
    intro v h s hg
    try dsimp only at hg
    split at hg <;> cases hg
    rfl

def LSws2  : LS where
  S := List Body × List Pair × (Int × Int) × (Int × Int × List Body × List Pair) × List Event × List Pair × Int × Int
  live := [(2, [none]), (4, [none]), (5, [some .event]), (54, [some .pair]), (55, [none]), (56, [none])]
  shape := fun s => ([.ptr 2 0 0, .ptr 5 0 0, .vec 6, .vec 7, .int .i64 s.2.2.2.2.2.2.1, .int .i64 s.2.2.2.2.2.2.2], [(false, .vec .body s.1), (false, .vec .pair s.2.1), (true, .box [.int .i64 s.2.2.1.1, .int .i64 s.2.2.1.2, .nilsl, .nilsl]), (true, .vec .body s.2.2.2.1.2.2.1), (true, .vec .pair s.2.2.2.1.2.2.2), (true, .box [.int .i64 s.2.2.2.1.1, .int .i64 s.2.2.2.1.2.1, .vec 3, .vec 4]), (true, .vec .event s.2.2.2.2.1), (true, .vec .pair s.2.2.2.2.2.1)])
  get := fun v h => match v, h with
    | [.ptr 2 0 0, .ptr 5 0 0, .vec 6, .vec 7, .int .i64 n, .int .i64 i], [(false, .vec .body xs), (false, .vec .pair ps), (true, .box [.int .i64 r_0, .int .i64 r_1, .nilsl, .nilsl]), (true, .vec .body v_2), (true, .vec .pair v_3), (true, .box [.int .i64 v_0, .int .i64 v_1, .vec 3, .vec 4]), (true, .vec .event out), (true, .vec .pair os)] => some (xs, ps, (r_0, r_1), (v_0, v_1, v_2, v_3), out, os, n, i)
    | _, _ => none
  inv := fun s0 s => Holds (s.1 = s0.1 ∧ s.2.1 = s0.2.1 ∧ s.2.2.1 = s0.2.2.1 ∧ s.2.2.2.1 = s0.2.2.2.1 ∧ s.2.2.2.2.2.1 = s0.2.2.2.2.2.1 ∧ s.2.2.2.2.2.2.1 = s0.2.2.2.2.2.1.length ∧ 0 ≤ s.2.2.2.2.2.2.2 ∧ s.2.2.2.2.2.2.2 ≤ s0.2.2.2.2.2.1.length ∧ s.2.2.2.2.1 ++ evs true (s0.2.2.2.2.2.1.drop s.2.2.2.2.2.2.2.toNat) = s0.2.2.2.2.1 ++ evs true (s0.2.2.2.2.2.1.drop s0.2.2.2.2.2.2.2.toNat))
  mu := fun s => (s.2.2.2.2.2.2.1 - s.2.2.2.2.2.2.2).toNat
  ok := by
    intro v h s hg
    try dsimp only at hg
    split at hg <;> cases hg
    rfl

def L_wstep : Loops := fun n => match n with
  | 9 => some LSws1
  | 14 => some LSws2
  | _ => none
noncomputable def fs_implWorldStep : Fs := ⟨[], fun args H => match args, H with
  | [.agg [.int .i64 t, .int .i64 p, .vec 0, .vec 1]], [(false, .vec .body xs), (false, .vec .pair ps)] => some ((some (xs.length ≤ 1048576 ∧ ps.length ≤ 1048576)), .tup [.agg [.int .i64 (stepTick (worldOk t p xs ps) t), .int .i64 (orI (worldOk t p xs ps) p), .vec 2, .vec 3], .vec 4], [(false, .vec .body xs), (false, .vec .pair ps), (true, .vec .body (stepBodies (worldOk t p xs ps) t p xs)), (true, .vec .pair (stepPs (worldOk t p xs ps) t p xs ps)), (true, .vec .event (stepEs (worldOk t p xs ps) t p xs ps))])
  | _, _ => none⟩

theorem vc_implWorldStep (t : Int) (p : Int) (xs : List Body) (ps : List Pair) (Q : SV → List Ent → Prop) :
    fnVC tt (look [(73, fs_implWorldOk), (96, fs_implCopyW), (17, fs_implStep), (56, fs_implStepPairs), (97, fs_others)]) (L_wstep) Tryz.f26 [.agg [.int .i64 t, .int .i64 p, .vec 0, .vec 1]] [(false, .vec .body xs), (false, .vec .pair ps)] Q =
    (let w_ := IntKind.wrap IntKind.i64; let s_ := SV.int IntKind.i64; let n_ := Int.toNat; let vb_ := Blk.vec Ty.body; let vp_ := Blk.vec Ty.pair; let A8_ := (stepPairs (stepOf xs p)); let A7_ := (w_ (t + (1 : Int)), p, stepOf xs p, stepPairs (stepOf xs p)); (List.length xs ≤ (1048576 : Nat) ∧ List.length ps ≤ (1048576 : Nat)) ∧ ifB (!worldOk t p xs ps) (Q (SV.tup [SV.agg [s_ (0 : Int), s_ (0 : Int), SV.vec (2 : Nat), SV.vec (3 : Nat)], SV.vec (4 : Nat)]) [(false, vb_ xs), (false, vp_ ps), (true, vb_ []), (true, vp_ []), (true, Blk.vec Ty.event [])]) (ifB (t == (100000 : Int)) ((List.length xs ≤ (1048576 : Nat) ∧ List.length ps ≤ (1048576 : Nat)) ∧ Q (SV.tup [SV.agg [s_ t, s_ p, SV.vec (2 : Nat), SV.vec (3 : Nat)], SV.vec (4 : Nat)]) [(false, vb_ xs), (false, vp_ ps), (true, vb_ xs), (true, vp_ ps), (true, Blk.vec Ty.event [])]) (List.length xs ≤ (1048576 : Nat) ∧ List.length (stepOf xs p) ≤ (1048576 : Nat) ∧ (List.length ps ≤ (1048576 : Nat) ∧ List.length A8_ ≤ (1048576 : Nat)) ∧ Holds (xs = xs ∧ ps = ps ∧ (t, p) = (t, p) ∧ ((0 : Int), (0 : Int)) = ((0 : Int), (0 : Int)) ∧ A7_ = A7_ ∧ newF A8_ ps = newF A8_ ps ∧ (↑(List.length (newF A8_ ps)) : Int) = (↑(List.length (newF A8_ ps)) : Int) ∧ (0 : Int) ≤ (0 : Int) ∧ (0 : Int) ≤ (↑(List.length (newF A8_ ps)) : Int) ∧ [] ++ evs false (List.drop (n_ (0 : Int)) (newF A8_ ps)) = evs false (newF A8_ ps)) ∧ ∀ (y4 : List Body × List Pair × (Int × Int) × (Int × Int) × (Int × Int × List Body × List Pair) × List Event × List Pair × Int × Int), let y4f0_ := Prod.fst y4; let y4s1_ := Prod.snd y4; let y4f1_ := Prod.fst (Prod.snd y4); let y4f2_ := Prod.fst (Prod.snd (Prod.snd y4)); let y4f3_ := Prod.fst (Prod.snd (Prod.snd (Prod.snd y4))); let y4f4_ := Prod.fst (Prod.snd (Prod.snd (Prod.snd (Prod.snd y4)))); let y4f5_ := Prod.fst (Prod.snd (Prod.snd (Prod.snd (Prod.snd (Prod.snd y4))))); let y4f6_ := Prod.fst (Prod.snd (Prod.snd (Prod.snd (Prod.snd (Prod.snd (Prod.snd y4)))))); let y4s7_ := Prod.snd (Prod.snd (Prod.snd (Prod.snd (Prod.snd (Prod.snd (Prod.snd y4)))))); let y4f7_ := Prod.fst (Prod.snd (Prod.snd (Prod.snd (Prod.snd (Prod.snd (Prod.snd (Prod.snd y4))))))); let y4s8_ := Prod.snd (Prod.snd (Prod.snd (Prod.snd (Prod.snd (Prod.snd (Prod.snd (Prod.snd y4))))))); let A6_ := (newF A8_ ps); let A5_ := (Prod.snd (Prod.snd (Prod.snd y4f4_))); Holds (Prod.fst y4 = xs ∧ y4f1_ = ps ∧ y4f2_ = (t, p) ∧ y4f3_ = ((0 : Int), (0 : Int)) ∧ y4f4_ = A7_ ∧ y4f6_ = newF A8_ ps ∧ y4f7_ = (↑(List.length A6_) : Int) ∧ (0 : Int) ≤ y4s8_ ∧ y4s8_ ≤ (↑(List.length A6_) : Int) ∧ y4f5_ ++ evs false (List.drop (n_ y4s8_) A6_) = evs false A6_) → ifB (decide (Prod.snd y4s7_ < y4f7_)) (((0 : Int) ≤ y4s8_ ∧ y4s8_ < (↑(List.length y4f6_) : Int)) ∧ (List.length y4f5_ + List.length [Event.mk false (Ty.ix Ty.pair y4f6_ (n_ y4s8_))]) * (24 : Nat) ≤ room ∧ Holds (Prod.fst y4 = xs ∧ y4f1_ = ps ∧ y4f2_ = (t, p) ∧ y4f3_ = ((0 : Int), (0 : Int)) ∧ y4f4_ = A7_ ∧ y4f6_ = newF A8_ ps ∧ y4f7_ = (↑(List.length A6_) : Int) ∧ (0 : Int) ≤ w_ (Prod.snd y4s7_ + (1 : Int)) ∧ w_ (Prod.snd y4s7_ + (1 : Int)) ≤ (↑(List.length A6_) : Int) ∧ y4f5_ ++ [Event.mk false (Ty.ix Ty.pair y4f6_ (n_ y4s8_))] ++ evs false (List.drop (n_ (w_ (Prod.snd y4s7_ + (1 : Int)))) A6_) = evs false A6_) ∧ n_ (Prod.fst y4s7_ - w_ (Prod.snd y4s7_ + (1 : Int))) < n_ (Prod.fst y4s7_ - y4s8_)) ((List.length A5_ ≤ (1048576 : Nat) ∧ List.length y4f1_ ≤ (1048576 : Nat)) ∧ Holds (Prod.fst y4 = y4f0_ ∧ y4f1_ = y4f1_ ∧ y4f3_ = y4f3_ ∧ y4f4_ = y4f4_ ∧ newF y4f1_ A5_ = newF y4f1_ A5_ ∧ (↑(List.length (newF y4f1_ A5_)) : Int) = (↑(List.length (newF y4f1_ A5_)) : Int) ∧ (0 : Int) ≤ (0 : Int) ∧ (0 : Int) ≤ (↑(List.length (newF y4f1_ A5_)) : Int) ∧ y4f5_ ++ evs true (List.drop (n_ (0 : Int)) (newF y4f1_ A5_)) = y4f5_ ++ evs true (List.drop (n_ (0 : Int)) (newF y4f1_ A5_))) ∧ ∀ (y1 : List Body × List Pair × (Int × Int) × (Int × Int × List Body × List Pair) × List Event × List Pair × Int × Int), let y1f0_ := Prod.fst y1; let y1s1_ := Prod.snd y1; let y1f1_ := Prod.fst (Prod.snd y1); let y1f2_ := Prod.fst (Prod.snd (Prod.snd y1)); let y1f3_ := Prod.fst (Prod.snd (Prod.snd (Prod.snd y1))); let y1f4_ := Prod.fst (Prod.snd (Prod.snd (Prod.snd (Prod.snd y1)))); let y1f5_ := Prod.fst (Prod.snd (Prod.snd (Prod.snd (Prod.snd (Prod.snd y1))))); let y1s6_ := Prod.snd (Prod.snd (Prod.snd (Prod.snd (Prod.snd (Prod.snd y1))))); let y1f6_ := Prod.fst (Prod.snd (Prod.snd (Prod.snd (Prod.snd (Prod.snd (Prod.snd y1)))))); let y1s7_ := Prod.snd (Prod.snd (Prod.snd (Prod.snd (Prod.snd (Prod.snd (Prod.snd y1)))))); let A3_ := (Prod.snd (Prod.snd (Prod.snd y4s1_))); let A2_ := (newF y4f1_ (Prod.snd (Prod.snd (Prod.snd (Prod.fst A3_))))); Holds (Prod.fst y1 = y4f0_ ∧ y1f1_ = y4f1_ ∧ y1f2_ = y4f3_ ∧ y1f3_ = Prod.fst A3_ ∧ y1f5_ = newF y4f1_ (Prod.snd (Prod.snd (Prod.snd (Prod.fst A3_)))) ∧ y1f6_ = (↑(List.length A2_) : Int) ∧ (0 : Int) ≤ y1s7_ ∧ y1s7_ ≤ (↑(List.length A2_) : Int) ∧ y1f4_ ++ evs true (List.drop (n_ y1s7_) A2_) = Prod.fst (Prod.snd A3_) ++ evs true (List.drop (n_ (0 : Int)) A2_)) → ifB (decide (Prod.snd y1s6_ < y1f6_)) (((0 : Int) ≤ y1s7_ ∧ y1s7_ < (↑(List.length y1f5_) : Int)) ∧ (List.length y1f4_ + List.length [Event.mk true (Ty.ix Ty.pair y1f5_ (n_ y1s7_))]) * (24 : Nat) ≤ room ∧ Holds (Prod.fst y1 = y4f0_ ∧ y1f1_ = y4f1_ ∧ y1f2_ = y4f3_ ∧ y1f3_ = Prod.fst A3_ ∧ y1f5_ = newF y4f1_ (Prod.snd (Prod.snd (Prod.snd (Prod.fst A3_)))) ∧ y1f6_ = (↑(List.length A2_) : Int) ∧ (0 : Int) ≤ w_ (Prod.snd y1s6_ + (1 : Int)) ∧ w_ (Prod.snd y1s6_ + (1 : Int)) ≤ (↑(List.length A2_) : Int) ∧ y1f4_ ++ [Event.mk true (Ty.ix Ty.pair y1f5_ (n_ y1s7_))] ++ evs true (List.drop (n_ (w_ (Prod.snd y1s6_ + (1 : Int)))) A2_) = Prod.fst (Prod.snd A3_) ++ evs true (List.drop (n_ (0 : Int)) A2_)) ∧ n_ (Prod.fst y1s6_ - w_ (Prod.snd y1s6_ + (1 : Int))) < n_ (Prod.fst y1s6_ - y1s7_)) (Q (SV.tup [SV.agg [s_ (Prod.fst y1f3_), s_ (Prod.fst (Prod.snd y1f3_)), SV.vec (2 : Nat), SV.vec (3 : Nat)], SV.vec (4 : Nat)]) [(false, vb_ y1f0_), (false, vp_ y1f1_), (true, vb_ (Prod.fst (Prod.snd (Prod.snd y1f3_)))), (true, vp_ (Prod.snd (Prod.snd (Prod.snd y1f3_)))), (true, Blk.vec Ty.event y1f4_)]))))) := by kernel_rfl

theorem ok_implWorldStep : FsOk Tryz.prog 26 fs_implWorldStep := fsOk_of tt_ok (tabFs_cons ok_implWorldOk (tabFs_cons ok_implCopyW (tabFs_cons ok_implStep (tabFs_cons ok_implStepPairs (tabFs_cons ok_others tabFs_nil))))) mixed Tryz.func26 (by kernel_rfl) (by kernel_rfl) (by
    intro args LL p r HH h hp
    unfold fs_implWorldStep at h
    dsimp only at h
    split at h
    case h_2 => cases h
    rename_i t p xs ps
    simp only [Option.some.injEq, Prod.mk.injEq] at h
    obtain ⟨rfl, rfl, rfl⟩ := h
    refine ⟨by simp [Form, stays], (L_wstep), ?_⟩
    rw [vc_implWorldStep]
    try dsimp only
    obtain ⟨hb, hb2⟩ := hp _ rfl
    have hso := length_stepOf xs p
    have hsp := length_stepPairs (stepOf xs p)
    have n1 := length_newF (stepPairs (stepOf xs p)) ps
    have n2 := length_newF ps (stepPairs (stepOf xs p))
    refine ⟨⟨hb, hb2⟩, ifB_of (fun c => ?_) (fun c => ifB_of (fun c2 => ⟨⟨hb, hb2⟩, ?_⟩) (fun c2 => ⟨hb, by omega, ⟨hb2, by omega⟩, ⟨(by trivial), (by trivial), (by trivial), (by trivial), (by trivial), (by trivial), (by trivial), by omega, by omega, (by trivial)⟩, ?_⟩))⟩
    · simp [stepTick, stepBodies, stepPs, stepEs, orI, not_true c]
    · simp [stepTick, stepBodies, stepPs, stepEs, orI, not_false c, c2]
    rintro ⟨xs1, ps1, w, r, v, out, os, n, i⟩ ⟨h⟩
    dsimp only at h ⊢
    obtain ⟨rfl, rfl, rfl, rfl, rfl, rfl, rfl, i0, i1, h5⟩ := h
    have hs := congrArg List.length h5
    rw [List.length_append, length_evs, length_evs, List.length_drop] at hs
    refine ifB_of (fun d => ?_) (fun d => ?_)
    · have d := of_decide_eq_true d
      have e1 : (i + 1).toNat = i.toNat + 1 := by omega
      have w1 : IntKind.i64.wrap (i + 1) = i + 1 := wrap_small (by omega) (by omega)
      rw [evs_drop (show i.toNat < (newF (stepPairs (stepOf xs1 p)) ps1).length by omega)] at h5
      rw [w1, e1]
      refine ⟨⟨i0, by omega⟩, by simp only [room, List.length_singleton]; omega, ⟨(by trivial), (by trivial), (by trivial), (by trivial), (by trivial), (by trivial), (by trivial), by omega, by omega, ?_⟩, by omega⟩
      rw [← h5, List.append_assoc]
      rfl
    · have d := of_decide_eq_false d
      rw [drop_end (by omega)] at h5
      have h5 : out = evs false (newF (stepPairs (stepOf xs1 p)) ps1) := by simpa [evs] using h5
      have ho : out.length = (newF (stepPairs (stepOf xs1 p)) ps1).length := by rw [h5, length_evs]
      dsimp only
      refine ⟨⟨by omega, hb2⟩, ⟨(by trivial), (by trivial), (by trivial), (by trivial), (by trivial), (by trivial), by omega, by omega, (by trivial)⟩, ?_⟩
      clear d i0 i1 hs
      rintro ⟨xs2, ps2, r2, v2, out2, os2, n, i⟩ ⟨h⟩
      dsimp only at h ⊢
      obtain ⟨rfl, rfl, rfl, rfl, rfl, rfl, i0, i1, h6⟩ := h
      have hs := congrArg List.length h6
      rw [List.length_append, List.length_append, length_evs, length_evs, List.length_drop, List.length_drop] at hs
      refine ifB_of (fun d => ?_) (fun d => ?_)
      · have d := of_decide_eq_true d
        have e1 : (i + 1).toNat = i.toNat + 1 := by omega
        have w1 : IntKind.i64.wrap (i + 1) = i + 1 := wrap_small (by omega) (by omega)
        rw [evs_drop (show i.toNat < (newF ps2 (stepPairs (stepOf xs2 p))).length by omega)] at h6
        rw [w1, e1]
        refine ⟨⟨i0, by omega⟩, by simp only [room, List.length_singleton]; omega, ⟨(by trivial), (by trivial), (by trivial), (by trivial), (by trivial), (by trivial), by omega, by omega, ?_⟩, by omega⟩
        rw [← h6, List.append_assoc]
        rfl
      · have d := of_decide_eq_false d
        rw [drop_end (by omega)] at h6
        have h6 : out2 = stepEvs ps2 (stepPairs (stepOf xs2 p)) := by
          have : out2 = out ++ evs true (newF ps2 (stepPairs (stepOf xs2 p))) := by simpa [evs] using h6
          rw [this, h5]
          rfl
        dsimp only
        rw [h6]
        simp only [stepTick, stepBodies, stepPs, stepEs, orI, not_false c, c2, cond_true, cond_false, W]
        exact ⟨(by trivial), (by trivial)⟩)

end
end Go.Proofs.YtdhbkcaaijgocaaGreat.Sym

namespace Go.Proofs.YtdhbkcaaijgocaaGreat.Sym
open Go
set_option linter.unusedVariables false
set_option linter.unusedSimpArgs false
set_option maxRecDepth 100000
noncomputable section

theorem in_pull {pull : Int} : isIn pull 0 2560 = true ↔ 0 ≤ pull ∧ pull ≤ 2560 := by simp [isIn]
theorem stepOf_ok {xs : List Body} {pull : Int} (h : bodiesOk xs = true) (p0 : 0 ≤ pull) (p1 : pull ≤ 2560) : stepOf xs pull = stepF xs pull := by simp [stepOf, h, in_pull.2 ⟨p0, p1⟩]
noncomputable def fs_specStep : Fs := ⟨[], fun args H => match args, H with
  | [.vec 0, .int .i64 pull], [(false, .vec .body xs)] => some ((some (xs.length ≤ 1048576)), .vec 1, [(false, .vec .body xs), (true, .vec .body (stepOf xs pull))])
  | _, _ => none⟩

theorem vc_specStep (xs : List Body) (pull : Int) (Q : SV → List Ent → Prop) :
    fnVC tt (look [(37, fs_specBodiesOk), (74, fs_l1In), (75, fs_l9Step)]) L0 Tryz.f15 [.vec 0, .int .i64 pull] [(false, .vec .body xs)] Q =
    (List.length xs ≤ (4611686018427387904 : Nat) ∧ ifB (!bodiesOk xs) (Q (SV.vec (1 : Nat)) [(false, Blk.vec Ty.body xs), (true, Blk.vec Ty.body [])]) (ifB (!isIn pull (0 : Int) (2560 : Int)) (Q (SV.vec (1 : Nat)) [(false, Blk.vec Ty.body xs), (true, Blk.vec Ty.body [])]) ((bodiesOk xs = true ∧ (0 : Int) ≤ pull ∧ pull ≤ (2560 : Int)) ∧ Q (SV.vec (1 : Nat)) [(false, Blk.vec Ty.body xs), (true, Blk.vec Ty.body (stepF xs pull))]))) := by kernel_rfl

theorem ok_specStep : FsOk Tryz.prog 15 fs_specStep := fsOk_of tt_ok (tabFs_cons ok_specBodiesOk (tabFs_cons ok_l1In (tabFs_cons ok_l9Step tabFs_nil))) mixed Tryz.func15 (by kernel_rfl) (by kernel_rfl) (by
    intro args LL p r HH h hp
    unfold fs_specStep at h
    dsimp only at h
    split at h
    case h_2 => cases h
    rename_i pull xs
    simp only [Option.some.injEq, Prod.mk.injEq] at h
    obtain ⟨rfl, rfl, rfl⟩ := h
    refine ⟨by simp [Form, stays], L0, ?_⟩
    rw [vc_specStep]
    try dsimp only
    have hb := hp _ rfl
    refine ⟨by omega, ifB_of (fun c => ?_) (fun c => ifB_of (fun c2 => ?_) (fun c2 => ?_))⟩
    · simp [stepOf, not_true c]
    · simp [stepOf, not_true c2]
    · have hok := not_false c
      have hpl := in_pull.1 (not_false c2)
      rw [stepOf_ok hok hpl.1 hpl.2]
      exact ⟨⟨hok, hpl.1, hpl.2⟩, (by trivial), (by trivial)⟩)

def stepsN (pull : Int) : Nat → List Body → List Body
  | 0, xs => xs
  | n + 1, xs => stepsN pull n (stepF xs pull)
def stepsOf (xs : List Body) (pull n : Int) : List Body := bif bodiesOk xs && isIn pull 0 2560 && isIn n 0 60 then stepsN pull n.toNat xs else []
theorem length_stepsN (pull : Int) : ∀ (n : Nat) (xs : List Body), (stepsN pull n xs).length = xs.length
  | 0, _ => rfl
  | n + 1, xs => (length_stepsN pull n _).trans (length_stepF xs pull)
theorem length_stepsOf (xs : List Body) (pull n : Int) : (stepsOf xs pull n).length ≤ 12 := by
  unfold stepsOf
  cases q : bodiesOk xs && isIn pull 0 2560 && isIn n 0 60 with
  | true =>
    rw [Bool.and_eq_true, Bool.and_eq_true] at q
    simp only [cond_true, length_stepsN]
    exact bodiesOk_len q.1.1
  | false => simp
def LSss  : LS where
  S := List Body × Int × Int × List Body
  live := [(1, [none]), (2, [none]), (7, [some .body])]
  shape := fun s => ([.int .i64 s.2.1, .int .i64 s.2.2.1, .vec 1], [(false, .vec .body s.1), (true, .vec .body s.2.2.2)])
  get := fun v h => match v, h with
    | [.int .i64 pull, .int .i64 n, .vec 1], [(false, .vec .body xs), (true, .vec .body ys)] => some (xs, pull, n, ys)
    | _, _ => none
  inv := fun s0 s => Holds (s.1 = s0.1 ∧ s.2.1 = s0.2.1 ∧ 0 ≤ s.2.2.1 ∧ s.2.2.1 ≤ 60 ∧ bodiesOk s.2.2.2 = true ∧ stepsN s0.2.1 s.2.2.1.toNat s.2.2.2 = stepsN s0.2.1 s0.2.2.1.toNat s0.2.2.2)
  mu := fun s => s.2.2.1.toNat
  ok := by
    intro v h s hg
    try dsimp only at hg
    split at hg <;> cases hg
    rfl

def L_ss : Loops := fun n => match n with
  | 4 => some LSss
  | _ => none
noncomputable def fs_specSteps : Fs := ⟨[], fun args H => match args, H with
  | [.vec 0, .int .i64 pull, .int .i64 n], [(false, .vec .body xs)] => some ((some (xs.length ≤ 1048576)), .vec 1, [(false, .vec .body xs), (true, .vec .body (stepsOf xs pull n))])
  | _, _ => none⟩

theorem vc_specSteps (xs : List Body) (pull : Int) (n : Int) (Q : SV → List Ent → Prop) :
    fnVC tt (look [(37, fs_specBodiesOk), (74, fs_l1In), (90, fs_specCopyB), (75, fs_l9Step)]) (L_ss) Tryz.f21 [.vec 0, .int .i64 pull, .int .i64 n] [(false, .vec .body xs)] Q =
    (List.length xs ≤ (4611686018427387904 : Nat) ∧ ifB (!bodiesOk xs) (Q (SV.vec (1 : Nat)) [(false, Blk.vec Ty.body xs), (true, Blk.vec Ty.body [])]) (ifB (!isIn pull (0 : Int) (2560 : Int)) (Q (SV.vec (1 : Nat)) [(false, Blk.vec Ty.body xs), (true, Blk.vec Ty.body [])]) (ifB (!isIn n (0 : Int) (60 : Int)) (Q (SV.vec (1 : Nat)) [(false, Blk.vec Ty.body xs), (true, Blk.vec Ty.body [])]) (List.length xs ≤ (1048576 : Nat) ∧ Holds (xs = xs ∧ pull = pull ∧ (0 : Int) ≤ n ∧ n ≤ (60 : Int) ∧ bodiesOk xs = true ∧ stepsN pull (Int.toNat n) xs = stepsN pull (Int.toNat n) xs) ∧ ∀ (x : List Body × Int × Int × List Body), Holds (Prod.fst x = xs ∧ Prod.fst (Prod.snd x) = pull ∧ (0 : Int) ≤ Prod.fst (Prod.snd (Prod.snd x)) ∧ Prod.fst (Prod.snd (Prod.snd x)) ≤ (60 : Int) ∧ bodiesOk (Prod.snd (Prod.snd (Prod.snd x))) = true ∧ stepsN pull (Int.toNat (Prod.fst (Prod.snd (Prod.snd x)))) (Prod.snd (Prod.snd (Prod.snd x))) = stepsN pull (Int.toNat n) xs) → ifB (decide (Prod.fst (Prod.snd (Prod.snd x)) > (0 : Int))) ((bodiesOk (Prod.snd (Prod.snd (Prod.snd x))) = true ∧ (0 : Int) ≤ Prod.fst (Prod.snd x) ∧ Prod.fst (Prod.snd x) ≤ (2560 : Int)) ∧ Holds (Prod.fst x = xs ∧ Prod.fst (Prod.snd x) = pull ∧ (0 : Int) ≤ IntKind.wrap IntKind.i64 (Prod.fst (Prod.snd (Prod.snd x)) - (1 : Int)) ∧ IntKind.wrap IntKind.i64 (Prod.fst (Prod.snd (Prod.snd x)) - (1 : Int)) ≤ (60 : Int) ∧ bodiesOk (stepF (Prod.snd (Prod.snd (Prod.snd x))) (Prod.fst (Prod.snd x))) = true ∧ stepsN pull (Int.toNat (IntKind.wrap IntKind.i64 (Prod.fst (Prod.snd (Prod.snd x)) - (1 : Int)))) (stepF (Prod.snd (Prod.snd (Prod.snd x))) (Prod.fst (Prod.snd x))) = stepsN pull (Int.toNat n) xs) ∧ Int.toNat (IntKind.wrap IntKind.i64 (Prod.fst (Prod.snd (Prod.snd x)) - (1 : Int))) < Int.toNat (Prod.fst (Prod.snd (Prod.snd x)))) (Q (SV.vec (1 : Nat)) [(false, Blk.vec Ty.body (Prod.fst x)), (true, Blk.vec Ty.body (Prod.snd (Prod.snd (Prod.snd x))))]))))) := by kernel_rfl

theorem ok_specSteps : FsOk Tryz.prog 21 fs_specSteps := fsOk_of tt_ok (tabFs_cons ok_specBodiesOk (tabFs_cons ok_l1In (tabFs_cons ok_specCopyB (tabFs_cons ok_l9Step tabFs_nil)))) mixed Tryz.func21 (by kernel_rfl) (by kernel_rfl) (by
    intro args LL p r HH h hp
    unfold fs_specSteps at h
    dsimp only at h
    split at h
    case h_2 => cases h
    rename_i pull n xs
    simp only [Option.some.injEq, Prod.mk.injEq] at h
    obtain ⟨rfl, rfl, rfl⟩ := h
    refine ⟨by simp [Form, stays], (L_ss), ?_⟩
    rw [vc_specSteps]
    try dsimp only
    have hb := hp _ rfl
    refine ⟨by omega, ifB_of (fun c => ?_) (fun c => ifB_of (fun c2 => ?_) (fun c2 => ifB_of (fun c3 => ?_) (fun c3 => ?_)))⟩
    · simp [stepsOf, not_true c]
    · simp [stepsOf, not_true c2]
    · simp [stepsOf, not_true c3]
    have hok := not_false c
    have hpl := in_pull.1 (not_false c2)
    have hn : 0 ≤ n ∧ n ≤ 60 := by simpa [isIn] using not_false c3
    have hS : stepsOf xs pull n = stepsN pull n.toNat xs := by simp [stepsOf, hok, not_false c2, not_false c3]
    rw [hS]
    refine ⟨hb, ⟨(by trivial), (by trivial), hn.1, hn.2, hok, (by trivial)⟩, ?_⟩
    rintro ⟨xs', pl, m, ys⟩ ⟨h⟩
    dsimp only at h ⊢
    obtain ⟨rfl, rfl, m0, m1, h3, h4⟩ := h
    refine ifB_of (fun d => ?_) (fun d => ?_)
    · have d := of_decide_eq_true d
      have w : IntKind.i64.wrap (m - 1) = m - 1 := wrap_small (by omega) (by omega)
      rw [w]
      refine ⟨⟨h3, hpl.1, hpl.2⟩, ⟨(by trivial), (by trivial), by omega, by omega, ok_stepF h3 hpl.1 hpl.2, ?_⟩, by omega⟩
      rw [← h4, show m.toNat = (m - 1).toNat + 1 by omega]
      rfl
    · have d := of_decide_eq_false d
      rw [show m.toNat = 0 by omega] at h4
      rw [← h4]
      exact ⟨(by trivial), (by trivial)⟩)

def LSis  : LS where
  S := List Body × Int × List Body × Int × Int
  live := [(1, [none]), (7, [some .body]), (23, [none]), (24, [none])]
  shape := fun s => ([.int .i64 s.2.1, .vec 1, .int .i64 s.2.2.2.1, .int .i64 s.2.2.2.2], [(false, .vec .body s.1), (true, .vec .body s.2.2.1)])
  get := fun v h => match v, h with
    | [.int .i64 pull, .vec 1, .int .i64 m, .int .i64 i], [(false, .vec .body xs), (true, .vec .body ys)] => some (xs, pull, ys, m, i)
    | _, _ => none
  inv := fun s0 s => Holds (s.1 = s0.1 ∧ s.2.1 = s0.2.1 ∧ s.2.2.2.1 = s0.2.2.2.1 ∧ 0 ≤ s.2.2.2.2 ∧ s.2.2.2.2 ≤ s.2.2.2.1 ∧ bodiesOk s.2.2.1 = true ∧ stepsN s0.2.1 (s.2.2.2.1 - s.2.2.2.2).toNat s.2.2.1 = stepsN s0.2.1 s0.2.2.2.1.toNat s0.2.2.1)
  mu := fun s => (s.2.2.2.1 - s.2.2.2.2).toNat
  ok := by
    intro v h s hg
    try dsimp only at hg
    split at hg <;> cases hg
    rfl

def L_is : Loops := fun n => match n with
  | 5 => some LSis
  | _ => none
noncomputable def fs_implSteps : Fs := ⟨[], fun args H => match args, H with
  | [.vec 0, .int .i64 pull, .int .i64 n], [(false, .vec .body xs)] => some ((some (xs.length ≤ 1048576)), .vec 1, [(false, .vec .body xs), (true, .vec .body (stepsOf xs pull n))])
  | _, _ => none⟩

theorem vc_implSteps (xs : List Body) (pull : Int) (n : Int) (Q : SV → List Ent → Prop) :
    fnVC tt (look [(38, fs_implBodiesOk), (77, fs_in_), (78, fs_cloneBodies), (17, fs_implStep)]) (L_is) Tryz.f22 [.vec 0, .int .i64 pull, .int .i64 n] [(false, .vec .body xs)] Q =
    (List.length xs ≤ (4611686018427387904 : Nat) ∧ ifB (!bodiesOk xs) (Q (SV.vec (1 : Nat)) [(false, Blk.vec Ty.body xs), (true, Blk.vec Ty.body [])]) (ifB (!isIn pull (0 : Int) (2560 : Int)) (Q (SV.vec (1 : Nat)) [(false, Blk.vec Ty.body xs), (true, Blk.vec Ty.body [])]) (ifB (!isIn n (0 : Int) (60 : Int)) (Q (SV.vec (1 : Nat)) [(false, Blk.vec Ty.body xs), (true, Blk.vec Ty.body [])]) (List.length xs ≤ (1048576 : Nat) ∧ Holds (xs = xs ∧ pull = pull ∧ n = n ∧ (0 : Int) ≤ (0 : Int) ∧ (0 : Int) ≤ n ∧ bodiesOk xs = true ∧ stepsN pull (Int.toNat (n - (0 : Int))) xs = stepsN pull (Int.toNat n) xs) ∧ ∀ (x : List Body × Int × List Body × Int × Int), Holds (Prod.fst x = xs ∧ Prod.fst (Prod.snd x) = pull ∧ Prod.fst (Prod.snd (Prod.snd (Prod.snd x))) = n ∧ (0 : Int) ≤ Prod.snd (Prod.snd (Prod.snd (Prod.snd x))) ∧ Prod.snd (Prod.snd (Prod.snd (Prod.snd x))) ≤ Prod.fst (Prod.snd (Prod.snd (Prod.snd x))) ∧ bodiesOk (Prod.fst (Prod.snd (Prod.snd x))) = true ∧ stepsN pull (Int.toNat (Prod.fst (Prod.snd (Prod.snd (Prod.snd x))) - Prod.snd (Prod.snd (Prod.snd (Prod.snd x))))) (Prod.fst (Prod.snd (Prod.snd x))) = stepsN pull (Int.toNat n) xs) → ifB (decide (Prod.snd (Prod.snd (Prod.snd (Prod.snd x))) < Prod.fst (Prod.snd (Prod.snd (Prod.snd x))))) (List.length (Prod.fst (Prod.snd (Prod.snd x))) ≤ (1048576 : Nat) ∧ Holds (Prod.fst x = xs ∧ Prod.fst (Prod.snd x) = pull ∧ Prod.fst (Prod.snd (Prod.snd (Prod.snd x))) = n ∧ (0 : Int) ≤ IntKind.wrap IntKind.i64 (Prod.snd (Prod.snd (Prod.snd (Prod.snd x))) + (1 : Int)) ∧ IntKind.wrap IntKind.i64 (Prod.snd (Prod.snd (Prod.snd (Prod.snd x))) + (1 : Int)) ≤ Prod.fst (Prod.snd (Prod.snd (Prod.snd x))) ∧ bodiesOk (stepOf (Prod.fst (Prod.snd (Prod.snd x))) (Prod.fst (Prod.snd x))) = true ∧ stepsN pull (Int.toNat (Prod.fst (Prod.snd (Prod.snd (Prod.snd x))) - IntKind.wrap IntKind.i64 (Prod.snd (Prod.snd (Prod.snd (Prod.snd x))) + (1 : Int)))) (stepOf (Prod.fst (Prod.snd (Prod.snd x))) (Prod.fst (Prod.snd x))) = stepsN pull (Int.toNat n) xs) ∧ Int.toNat (Prod.fst (Prod.snd (Prod.snd (Prod.snd x))) - IntKind.wrap IntKind.i64 (Prod.snd (Prod.snd (Prod.snd (Prod.snd x))) + (1 : Int))) < Int.toNat (Prod.fst (Prod.snd (Prod.snd (Prod.snd x))) - Prod.snd (Prod.snd (Prod.snd (Prod.snd x))))) (Q (SV.vec (1 : Nat)) [(false, Blk.vec Ty.body (Prod.fst x)), (true, Blk.vec Ty.body (Prod.fst (Prod.snd (Prod.snd x))))]))))) := by kernel_rfl

theorem ok_implSteps : FsOk Tryz.prog 22 fs_implSteps := fsOk_of tt_ok (tabFs_cons ok_implBodiesOk (tabFs_cons ok_in_ (tabFs_cons ok_cloneBodies (tabFs_cons ok_implStep tabFs_nil)))) mixed Tryz.func22 (by kernel_rfl) (by kernel_rfl) (by
    intro args LL p r HH h hp
    unfold fs_implSteps at h
    dsimp only at h
    split at h
    case h_2 => cases h
    rename_i pull n xs
    simp only [Option.some.injEq, Prod.mk.injEq] at h
    obtain ⟨rfl, rfl, rfl⟩ := h
    refine ⟨by simp [Form, stays], (L_is), ?_⟩
    rw [vc_implSteps]
    try dsimp only
    have hb := hp _ rfl
    refine ⟨by omega, ifB_of (fun c => ?_) (fun c => ifB_of (fun c2 => ?_) (fun c2 => ifB_of (fun c3 => ?_) (fun c3 => ?_)))⟩
    · simp [stepsOf, not_true c]
    · simp [stepsOf, not_true c2]
    · simp [stepsOf, not_true c3]
    have hok := not_false c
    have hpl := in_pull.1 (not_false c2)
    have hn : 0 ≤ n ∧ n ≤ 60 := by simpa [isIn] using not_false c3
    have hS : stepsOf xs pull n = stepsN pull n.toNat xs := by simp [stepsOf, hok, not_false c2, not_false c3]
    rw [hS]
    refine ⟨hb, ⟨(by trivial), (by trivial), (by trivial), by omega, by omega, hok, by rw [Int.sub_zero]⟩, ?_⟩
    rintro ⟨xs', pl, ys, m, i⟩ ⟨h⟩
    dsimp only at h ⊢
    obtain ⟨rfl, rfl, rfl, i0, i1, h3, h4⟩ := h
    refine ifB_of (fun d => ?_) (fun d => ?_)
    · have d := of_decide_eq_true d
      have hl := bodiesOk_len h3
      have w : IntKind.i64.wrap (i + 1) = i + 1 := wrap_small (by omega) (by omega)
      rw [w, stepOf_ok h3 hpl.1 hpl.2]
      refine ⟨by omega, ⟨(by trivial), (by trivial), (by trivial), by omega, by omega, ok_stepF h3 hpl.1 hpl.2, ?_⟩, by omega⟩
      rw [← h4, show (m - i).toNat = (m - (i + 1)).toNat + 1 by omega]
      rfl
    · have d := of_decide_eq_false d
      rw [show (m - i).toNat = 0 by omega] at h4
      rw [← h4]
      exact ⟨(by trivial), (by trivial)⟩)

def LSev1  : LS where
  S := List Pair × List Pair × Unit × Unit × List Event × Int
  live := [(0, [none]), (1, [none]), (5, [some .event]), (6, [none])]
  shape := fun s => ([.vec 0, .vec 1, .vec 2, .int .i64 s.2.2.2.2.2], [(false, .vec .pair s.1), (false, .vec .pair s.2.1), (true, .vec .event s.2.2.2.2.1)])
  get := fun v h => match v, h with
    | [.vec 0, .vec 1, .vec 2, .int .i64 i], [(false, .vec .pair ws), (false, .vec .pair ns), (true, .vec .event out)] => some (ws, ns, (), (), out, i)
    | _, _ => none
  inv := fun s0 s => Holds (s.1 = s0.1 ∧ s.2.1 = s0.2.1 ∧ 0 ≤ s.2.2.2.2.2 ∧ s.2.2.2.2.2 ≤ s0.1.length ∧ s.2.2.2.2.1 ++ evs false (newF s0.2.1 (s0.1.drop s.2.2.2.2.2.toNat)) = evs false (newF s0.2.1 s0.1))
  mu := fun s => ((s.1.length : Int) - s.2.2.2.2.2).toNat
  ok := by
    intro v h s hg
    try dsimp only at hg
    split at hg <;> cases hg
    rfl

def LSev2  : LS where
  S := List Pair × List Pair × Unit × Unit × List Event × Int
  live := [(0, [none]), (1, [none]), (5, [some .event]), (7, [none])]
  shape := fun s => ([.vec 0, .vec 1, .vec 2, .int .i64 s.2.2.2.2.2], [(false, .vec .pair s.1), (false, .vec .pair s.2.1), (true, .vec .event s.2.2.2.2.1)])
  get := fun v h => match v, h with
    | [.vec 0, .vec 1, .vec 2, .int .i64 i], [(false, .vec .pair ws), (false, .vec .pair ns), (true, .vec .event out)] => some (ws, ns, (), (), out, i)
    | _, _ => none
  inv := fun s0 s => Holds (s.1 = s0.1 ∧ s.2.1 = s0.2.1 ∧ 0 ≤ s.2.2.2.2.2 ∧ s.2.2.2.2.2 ≤ s0.2.1.length ∧ s.2.2.2.2.1 ++ evs true (newF s0.1 (s0.2.1.drop s.2.2.2.2.2.toNat)) = stepEvs s0.1 s0.2.1)
  mu := fun s => ((s.2.1.length : Int) - s.2.2.2.2.2).toNat
  ok := by
    intro v h s hg
    try dsimp only at hg
    split at hg <;> cases hg
    rfl

def L_ev : Loops := fun n => match n with
  | 3 => some LSev1
  | 8 => some LSev2
  | _ => none
theorem evs_new_drop {b : Bool} {was now : List Pair} {i : Nat} (h : i < now.length) : evs b (newF was (now.drop i)) = (bif !hasP was (Ty.ix .pair now i) then [⟨b, Ty.ix .pair now i⟩] else []) ++ evs b (newF was (now.drop (i + 1))) := by
  rw [newF_drop h]
  cases hasP was (Ty.ix .pair now i) <;> rfl
noncomputable def fs_l10Events : Fs := ⟨[], fun args H => match args, H with
  | [.vec 0, .vec 1], [(false, .vec .pair ws), (false, .vec .pair ns)] => some ((some (ws.length ≤ 1048576 ∧ ns.length ≤ 1048576)), .vec 2, [(false, .vec .pair ws), (false, .vec .pair ns), (true, .vec .event (stepEvs ws ns))])
  | _, _ => none⟩

theorem vc_l10Events (ws : List Pair) (ns : List Pair) (Q : SV → List Ent → Prop) :
    fnVC tt (look [(177, fs_l4In)]) (L_ev) Tryz.f94 [.vec 0, .vec 1] [(false, .vec .pair ws), (false, .vec .pair ns)] Q =
    (let w_ := IntKind.wrap IntKind.i64; let n_ := Int.toNat; let ip_ := Ty.ix Ty.pair; Holds (ws = ws ∧ ns = ns ∧ (0 : Int) ≤ (0 : Int) ∧ (0 : Int) ≤ (↑(List.length ws) : Int) ∧ [] ++ evs false (newF ns (List.drop (n_ (0 : Int)) ws)) = evs false (newF ns ws)) ∧ ∀ (y4 : List Pair × List Pair × Unit × Unit × List Event × Int), let y4f0_ := Prod.fst y4; let y4s1_ := Prod.snd y4; let y4f1_ := Prod.fst (Prod.snd y4); let y4s4_ := Prod.snd (Prod.snd (Prod.snd (Prod.snd y4))); let y4f4_ := Prod.fst (Prod.snd (Prod.snd (Prod.snd (Prod.snd y4)))); let y4s5_ := Prod.snd (Prod.snd (Prod.snd (Prod.snd (Prod.snd y4)))); let A6_ := (↑(List.length y4f0_) : Int); let A5_ := (Prod.snd y4s4_ + (1 : Int)); Holds (Prod.fst y4 = ws ∧ y4f1_ = ns ∧ (0 : Int) ≤ y4s5_ ∧ y4s5_ ≤ (↑(List.length ws) : Int) ∧ y4f4_ ++ evs false (newF ns (List.drop (n_ y4s5_) ws)) = evs false (newF ns ws)) → ifB (decide (Prod.snd y4s4_ < A6_)) (((0 : Int) ≤ y4s5_ ∧ y4s5_ < A6_) ∧ List.length y4f1_ ≤ (1048576 : Nat) ∧ ifB (!hasP y4f1_ (ip_ y4f0_ (n_ y4s5_))) (((0 : Int) ≤ y4s5_ ∧ y4s5_ < A6_) ∧ (List.length y4f4_ + List.length [Event.mk false (ip_ y4f0_ (n_ y4s5_))]) * (24 : Nat) ≤ room ∧ Holds (Prod.fst y4 = ws ∧ y4f1_ = ns ∧ (0 : Int) ≤ w_ A5_ ∧ w_ A5_ ≤ (↑(List.length ws) : Int) ∧ y4f4_ ++ [Event.mk false (ip_ y4f0_ (n_ y4s5_))] ++ evs false (newF ns (List.drop (n_ (w_ A5_)) ws)) = evs false (newF ns ws)) ∧ n_ (A6_ - w_ A5_) < n_ (A6_ - y4s5_)) (Holds (Prod.fst y4 = ws ∧ y4f1_ = ns ∧ (0 : Int) ≤ w_ A5_ ∧ w_ A5_ ≤ (↑(List.length ws) : Int) ∧ y4f4_ ++ evs false (newF ns (List.drop (n_ (w_ A5_)) ws)) = evs false (newF ns ws)) ∧ n_ (A6_ - w_ A5_) < n_ (A6_ - y4s5_))) (Holds (Prod.fst y4 = y4f0_ ∧ y4f1_ = y4f1_ ∧ (0 : Int) ≤ (0 : Int) ∧ (0 : Int) ≤ (↑(List.length y4f1_) : Int) ∧ y4f4_ ++ evs true (newF y4f0_ (List.drop (n_ (0 : Int)) y4f1_)) = stepEvs y4f0_ y4f1_) ∧ ∀ (y1 : List Pair × List Pair × Unit × Unit × List Event × Int), let y1f0_ := Prod.fst y1; let y1s1_ := Prod.snd y1; let y1f1_ := Prod.fst (Prod.snd y1); let y1s4_ := Prod.snd (Prod.snd (Prod.snd (Prod.snd y1))); let y1f4_ := Prod.fst (Prod.snd (Prod.snd (Prod.snd (Prod.snd y1)))); let y1s5_ := Prod.snd (Prod.snd (Prod.snd (Prod.snd (Prod.snd y1)))); let A3_ := (↑(List.length y1f1_) : Int); let A2_ := (Prod.snd y1s4_ + (1 : Int)); Holds (Prod.fst y1 = y4f0_ ∧ y1f1_ = y4f1_ ∧ (0 : Int) ≤ y1s5_ ∧ y1s5_ ≤ (↑(List.length y4f1_) : Int) ∧ y1f4_ ++ evs true (newF y4f0_ (List.drop (n_ y1s5_) y4f1_)) = stepEvs y4f0_ y4f1_) → ifB (decide (Prod.snd y1s4_ < A3_)) (((0 : Int) ≤ y1s5_ ∧ y1s5_ < A3_) ∧ List.length y1f0_ ≤ (1048576 : Nat) ∧ ifB (!hasP y1f0_ (ip_ y1f1_ (n_ y1s5_))) (((0 : Int) ≤ y1s5_ ∧ y1s5_ < A3_) ∧ (List.length y1f4_ + List.length [Event.mk true (ip_ y1f1_ (n_ y1s5_))]) * (24 : Nat) ≤ room ∧ Holds (Prod.fst y1 = y4f0_ ∧ y1f1_ = y4f1_ ∧ (0 : Int) ≤ w_ A2_ ∧ w_ A2_ ≤ (↑(List.length y4f1_) : Int) ∧ y1f4_ ++ [Event.mk true (ip_ y1f1_ (n_ y1s5_))] ++ evs true (newF y4f0_ (List.drop (n_ (w_ A2_)) y4f1_)) = stepEvs y4f0_ y4f1_) ∧ n_ (A3_ - w_ A2_) < n_ (A3_ - y1s5_)) (Holds (Prod.fst y1 = y4f0_ ∧ y1f1_ = y4f1_ ∧ (0 : Int) ≤ w_ A2_ ∧ w_ A2_ ≤ (↑(List.length y4f1_) : Int) ∧ y1f4_ ++ evs true (newF y4f0_ (List.drop (n_ (w_ A2_)) y4f1_)) = stepEvs y4f0_ y4f1_) ∧ n_ (A3_ - w_ A2_) < n_ (A3_ - y1s5_))) (Q (SV.vec (2 : Nat)) [(false, Blk.vec Ty.pair y1f0_), (false, Blk.vec Ty.pair y1f1_), (true, Blk.vec Ty.event y1f4_)]))) := by kernel_rfl

theorem ok_l10Events : FsOk Tryz.prog 94 fs_l10Events := fsOk_of tt_ok (tabFs_cons ok_l4In tabFs_nil) mixed Tryz.func94 (by kernel_rfl) (by kernel_rfl) (by
    intro args LL p r HH h hp
    unfold fs_l10Events at h
    dsimp only at h
    split at h
    case h_2 => cases h
    rename_i ws ns
    simp only [Option.some.injEq, Prod.mk.injEq] at h
    obtain ⟨rfl, rfl, rfl⟩ := h
    refine ⟨by simp [Form, stays], (L_ev), ?_⟩
    rw [vc_l10Events]
    try dsimp only
    obtain ⟨hb, hb2⟩ := hp _ rfl
    refine ⟨⟨(by trivial), (by trivial), by omega, by omega, (by trivial)⟩, ?_⟩
    rintro ⟨ws', ns', u, v, out, i⟩ ⟨h⟩
    dsimp only at h ⊢
    obtain ⟨rfl, rfl, i0, i1, h5⟩ := h
    have n1 := length_newF ns' ws'
    have n2 := length_newF ws' ns'
    have hs := congrArg List.length h5
    rw [List.length_append, length_evs, length_evs] at hs
    refine ifB_of (fun c => ?_) (fun c => ?_)
    · have c := of_decide_eq_true c
      have e1 : (i + 1).toNat = i.toNat + 1 := by omega
      have w : IntKind.i64.wrap (i + 1) = i + 1 := wrap_small (by omega) (by omega)
      rw [evs_new_drop (show i.toNat < ws'.length by omega)] at h5
      rw [w, e1]
      refine ⟨⟨i0, c⟩, by omega, ifB_of (fun d => ⟨⟨i0, c⟩, by simp only [room, List.length_singleton]; omega, ⟨(by trivial), (by trivial), by omega, by omega, ?_⟩, by omega⟩) (fun d => ⟨⟨(by trivial), (by trivial), by omega, by omega, ?_⟩, by omega⟩)⟩
      · have d : (!hasP ns' (Ty.ix .pair ws' i.toNat)) = true := d
        rw [d] at h5
        rw [← h5, List.append_assoc]
        rfl
      · have d : (!hasP ns' (Ty.ix .pair ws' i.toNat)) = false := d
        rw [d] at h5
        exact h5
    · have c := of_decide_eq_false c
      rw [drop_end (by omega)] at h5
      have h5 : out = evs false (newF ns' ws') := by simpa [evs, newF] using h5
      refine ⟨⟨(by trivial), (by trivial), by omega, by omega, ?_⟩, ?_⟩
      · rw [h5]
        rfl
      clear c h5 hs i0 i1
      rintro ⟨ws2, ns2, u2, v2, out2, i⟩ ⟨h⟩
      dsimp only at h ⊢
      obtain ⟨rfl, rfl, i0, i1, h5⟩ := h
      have hs := congrArg List.length h5
      unfold stepEvs at hs
      rw [List.length_append, List.length_append, length_evs, length_evs, length_evs] at hs
      refine ifB_of (fun c => ?_) (fun c => ?_)
      · have c := of_decide_eq_true c
        have e1 : (i + 1).toNat = i.toNat + 1 := by omega
        have w : IntKind.i64.wrap (i + 1) = i + 1 := wrap_small (by omega) (by omega)
        rw [evs_new_drop (show i.toNat < ns2.length by omega)] at h5
        rw [w, e1]
        refine ⟨⟨i0, c⟩, by omega, ifB_of (fun d => ⟨⟨i0, c⟩, by simp only [room, List.length_singleton]; omega, ⟨(by trivial), (by trivial), by omega, by omega, ?_⟩, by omega⟩) (fun d => ⟨⟨(by trivial), (by trivial), by omega, by omega, ?_⟩, by omega⟩)⟩
        · have d : (!hasP ws2 (Ty.ix .pair ns2 i.toNat)) = true := d
          rw [d] at h5
          rw [← h5, List.append_assoc]
          rfl
        · have d : (!hasP ws2 (Ty.ix .pair ns2 i.toNat)) = false := d
          rw [d] at h5
          exact h5
      · have c := of_decide_eq_false c
        rw [drop_end (by omega)] at h5
        have h5 : out2 = stepEvs ws2 ns2 := by simpa [evs, newF] using h5
        rw [h5]
        exact ⟨(by trivial), (by trivial)⟩)

theorem worldOk_t {t p : Int} {xs : List Body} {ps : List Pair} (h : worldOk t p xs ps = true) : 0 ≤ t ∧ t ≤ 100000 ∧ 0 ≤ p ∧ p ≤ 2560 := by
  unfold worldOk at h
  simp only [Bool.and_eq_true, isIn, decide_eq_true_eq] at h
  omega
noncomputable def fs_specWorldStep : Fs := ⟨[], fun args H => match args, H with
  | [.agg [.int .i64 t, .int .i64 p, .vec 0, .vec 1]], [(false, .vec .body xs), (false, .vec .pair ps)] => some ((some (xs.length ≤ 1048576 ∧ ps.length ≤ 1048576)), .tup [.agg [.int .i64 (stepTick (worldOk t p xs ps) t), .int .i64 (orI (worldOk t p xs ps) p), .vec 2, .vec 3], .vec 4], [(false, .vec .body xs), (false, .vec .pair ps), (true, .vec .body (stepBodies (worldOk t p xs ps) t p xs)), (true, .vec .pair (stepPs (worldOk t p xs ps) t p xs ps)), (true, .vec .event (stepEs (worldOk t p xs ps) t p xs ps))])
  | _, _ => none⟩

theorem vc_specWorldStep (t : Int) (p : Int) (xs : List Body) (ps : List Pair) (Q : SV → List Ent → Prop) :
    fnVC tt (look [(46, fs_specWorldOk), (92, fs_specCopyW), (75, fs_l9Step), (93, fs_l9Pairs), (94, fs_l10Events)]) L0 Tryz.f24 [.agg [.int .i64 t, .int .i64 p, .vec 0, .vec 1]] [(false, .vec .body xs), (false, .vec .pair ps)] Q =
    ((List.length xs ≤ (1048576 : Nat) ∧ List.length ps ≤ (1048576 : Nat)) ∧ ifB (!worldOk t p xs ps) (Q (SV.tup [SV.agg [SV.int IntKind.i64 (0 : Int), SV.int IntKind.i64 (0 : Int), SV.vec (2 : Nat), SV.vec (3 : Nat)], SV.vec (4 : Nat)]) [(false, Blk.vec Ty.body xs), (false, Blk.vec Ty.pair ps), (true, Blk.vec Ty.body []), (true, Blk.vec Ty.pair []), (true, Blk.vec Ty.event [])]) (ifB (decide (t ≥ (100000 : Int))) ((List.length xs ≤ (1048576 : Nat) ∧ List.length ps ≤ (1048576 : Nat)) ∧ Q (SV.tup [SV.agg [SV.int IntKind.i64 t, SV.int IntKind.i64 p, SV.vec (2 : Nat), SV.vec (3 : Nat)], SV.vec (4 : Nat)]) [(false, Blk.vec Ty.body xs), (false, Blk.vec Ty.pair ps), (true, Blk.vec Ty.body xs), (true, Blk.vec Ty.pair ps), (true, Blk.vec Ty.event [])]) ((bodiesOk xs = true ∧ (0 : Int) ≤ p ∧ p ≤ (2560 : Int)) ∧ bodiesOk (stepF xs p) = true ∧ (List.length ps ≤ (1048576 : Nat) ∧ List.length (pairsC (stepF xs p) (contactsF (stepF xs p))) ≤ (1048576 : Nat)) ∧ Q (SV.tup [SV.agg [SV.int IntKind.i64 (IntKind.wrap IntKind.i64 (t + (1 : Int))), SV.int IntKind.i64 p, SV.vec (2 : Nat), SV.vec (3 : Nat)], SV.vec (4 : Nat)]) [(false, Blk.vec Ty.body xs), (false, Blk.vec Ty.pair ps), (true, Blk.vec Ty.body (stepF xs p)), (true, Blk.vec Ty.pair (pairsC (stepF xs p) (contactsF (stepF xs p)))), (true, Blk.vec Ty.event (stepEvs ps (pairsC (stepF xs p) (contactsF (stepF xs p)))))]))) := by kernel_rfl

theorem ok_specWorldStep : FsOk Tryz.prog 24 fs_specWorldStep := fsOk_of tt_ok (tabFs_cons ok_specWorldOk (tabFs_cons ok_specCopyW (tabFs_cons ok_l9Step (tabFs_cons ok_l9Pairs (tabFs_cons ok_l10Events tabFs_nil))))) mixed Tryz.func24 (by kernel_rfl) (by kernel_rfl) (by
    intro args LL p r HH h hp
    unfold fs_specWorldStep at h
    dsimp only at h
    split at h
    case h_2 => cases h
    rename_i t p xs ps
    simp only [Option.some.injEq, Prod.mk.injEq] at h
    obtain ⟨rfl, rfl, rfl⟩ := h
    refine ⟨by simp [Form, stays], L0, ?_⟩
    rw [vc_specWorldStep]
    try dsimp only
    obtain ⟨hb, hb2⟩ := hp _ rfl
    refine ⟨⟨hb, hb2⟩, ifB_of (fun c => ?_) (fun c => ifB_of (fun c2 => ⟨⟨hb, hb2⟩, ?_⟩) (fun c2 => ?_))⟩
    · simp [stepTick, stepBodies, stepPs, stepEs, orI, not_true c]
    · have ht := worldOk_t (not_false c)
      have c2 := of_decide_eq_true c2
      have e : t = 100000 := by omega
      subst e
      simp [stepTick, stepBodies, stepPs, stepEs, orI, not_false c]
    · have hok := not_false c
      have ht := worldOk_t hok
      have hB := worldOk_bodies hok
      have c2 := of_decide_eq_false c2
      have e : (t == 100000) = false := beq_eq_false_iff_ne.2 (by omega)
      have hS := stepOf_ok hB ht.2.2.1 ht.2.2.2
      have hO := ok_stepF hB ht.2.2.1 ht.2.2.2
      have hP : pairsC (stepF xs p) (contactsF (stepF xs p)) = stepPairs (stepF xs p) := by simp [stepPairs, contactsOf, hO]
      have hsp := length_stepPairs (stepF xs p)
      rw [hP]
      simp only [stepTick, stepBodies, stepPs, stepEs, orI, hok, e, cond_true, cond_false, hS, W]
      exact ⟨⟨hB, ht.2.2.1, ht.2.2.2⟩, hO, ⟨hb2, by omega⟩, (by trivial), (by trivial)⟩)

noncomputable def fs_lawExactStep : Fs := ⟨[], fun args H => match args, H with
  | [.vec 0, .int .i64 n], [(false, .vec .body xs)] => some ((some (LOk .body xs)), .bool (true), [(false, .vec .body xs)])
  | _, _ => none⟩

theorem vc_lawExactStep (xs : List Body) (n : Int) (Q : SV → List Ent → Prop) :
    fnVC tt (look [(14, fs_lawsSzBodyS), (16, fs_lawsToBodyS), (15, fs_specStep), (17, fs_implStep), (18, fs_lawsEqBodyS), (19, fs_lawsMarkBodyS), (20, fs_lawsHeldBodyS)]) L0 Tryz.f3 [.vec 0, .int .i64 n] [(false, .vec .body xs)] Q =
    (let A2_ := (false, Blk.vec Ty.body xs); let A1_ := (List.length (stepOf xs n)); ifB (decide (szLeft (1048576 : Int) (↑(List.length xs) : Int) < (0 : Int))) (Q (SV.bool true) [A2_]) (List.length xs ≤ (1048576 : Nat) ∧ List.length xs ≤ (1048576 : Nat) ∧ List.length xs ≤ (1048576 : Nat) ∧ List.length xs ≤ (1048576 : Nat) ∧ List.length (stepOf xs n) ≤ (4611686018427387904 : Nat) ∧ ifB (!same (stepOf xs n) (stepOf xs n)) (Q (SV.bool false) [A2_]) (List.length xs ≤ (1048576 : Nat) ∧ List.length xs ≤ (4611686018427387904 : Nat) ∧ ifB (!same xs xs) (Q (SV.bool false) [A2_]) ((List.length xs ≤ (1048576 : Nat) ∧ (0 : Int) ≤ (1 : Int) ∧ (1 : Int) ≤ (1000000000000 : Int)) ∧ List.length (stepOf xs n) ≤ (4611686018427387904 : Nat) ∧ ifB (!same (stepOf xs n) (stepOf xs n)) (Q (SV.bool false) [A2_]) ((List.length (stepOf xs n) ≤ (1048576 : Nat) ∧ (0 : Int) ≤ (1 : Int) ∧ (1 : Int) ≤ (1000000000000 : Int)) ∧ (List.length (gen (fun e => mkBody ((1 : Int) + (12 : Int) * (↑e : Int))) A1_) ≤ (1048576 : Nat) ∧ (0 : Int) ≤ (1 : Int) ∧ (1 : Int) ≤ (1000000000000 : Int)) ∧ ifB (decide ((bif same (gen (fun e => mkBody ((1 : Int) + (12 : Int) * (↑e : Int))) A1_) (gen (fun e => mkBody ((1 : Int) + (12 : Int) * (↑e : Int))) (List.length (gen (fun e => mkBody ((1 : Int) + (12 : Int) * (↑e : Int))) A1_))) then (1 : Int) + (12 : Int) * (↑(List.length (gen (fun e => mkBody ((1 : Int) + (12 : Int) * (↑e : Int))) A1_)) : Int) else (-1 : Int)) < (0 : Int))) (Q (SV.bool false) [A2_]) (ifB ((bif same (gen (fun e => mkBody ((1 : Int) + (12 : Int) * (↑e : Int))) A1_) (gen (fun e => mkBody ((1 : Int) + (12 : Int) * (↑e : Int))) (List.length (gen (fun e => mkBody ((1 : Int) + (12 : Int) * (↑e : Int))) A1_))) then (1 : Int) + (12 : Int) * (↑(List.length (gen (fun e => mkBody ((1 : Int) + (12 : Int) * (↑e : Int))) A1_)) : Int) else (-1 : Int)) != (1 : Int) + (12 : Int) * (↑A1_ : Int)) (Q (SV.bool false) [A2_]) (List.length xs ≤ (1048576 : Nat) ∧ List.length xs ≤ (1048576 : Nat) ∧ List.length (stepOf xs n) ≤ (4611686018427387904 : Nat) ∧ ifB (!same (stepOf xs n) (stepOf xs n)) (Q (SV.bool false) [A2_]) ((List.length (gen (fun e => mkBody ((1 : Int) + (12 : Int) * (↑e : Int))) A1_) ≤ (1048576 : Nat) ∧ (0 : Int) ≤ (1 : Int) ∧ (1 : Int) ≤ (1000000000000 : Int)) ∧ ifB (decide ((bif same (gen (fun e => mkBody ((1 : Int) + (12 : Int) * (↑e : Int))) A1_) (gen (fun e => mkBody ((1 : Int) + (12 : Int) * (↑e : Int))) (List.length (gen (fun e => mkBody ((1 : Int) + (12 : Int) * (↑e : Int))) A1_))) then (1 : Int) + (12 : Int) * (↑(List.length (gen (fun e => mkBody ((1 : Int) + (12 : Int) * (↑e : Int))) A1_)) : Int) else (-1 : Int)) < (0 : Int))) (Q (SV.bool false) [A2_]) (ifB ((bif same (gen (fun e => mkBody ((1 : Int) + (12 : Int) * (↑e : Int))) A1_) (gen (fun e => mkBody ((1 : Int) + (12 : Int) * (↑e : Int))) (List.length (gen (fun e => mkBody ((1 : Int) + (12 : Int) * (↑e : Int))) A1_))) then (1 : Int) + (12 : Int) * (↑(List.length (gen (fun e => mkBody ((1 : Int) + (12 : Int) * (↑e : Int))) A1_)) : Int) else (-1 : Int)) != (1 : Int) + (12 : Int) * (↑A1_ : Int)) (Q (SV.bool false) [A2_]) (Q (SV.bool true) [A2_])))))))))) := by kernel_rfl

theorem ok_lawExactStep : FsOk Tryz.prog 3 fs_lawExactStep := fsOk_of tt_ok (tabFs_cons ok_lawsSzBodyS (tabFs_cons ok_lawsToBodyS (tabFs_cons ok_specStep (tabFs_cons ok_implStep (tabFs_cons ok_lawsEqBodyS (tabFs_cons ok_lawsMarkBodyS (tabFs_cons ok_lawsHeldBodyS tabFs_nil))))))) mixed Tryz.func3 (by kernel_rfl) (by kernel_rfl) (by
    intro args LL p r HH h hp
    unfold fs_lawExactStep at h
    dsimp only at h
    split at h
    case h_2 => cases h
    rename_i n xs
    simp only [Option.some.injEq, Prod.mk.injEq] at h
    obtain ⟨rfl, rfl, rfl⟩ := h
    refine ⟨by simp [Form, stays], L0, ?_⟩
    rw [vc_lawExactStep]
    try dsimp only
    have hb := (hp _ rfl).1
    refine ifB_of (fun c => ⟨rfl, rfl⟩) (fun c => ?_)
    have hl := szLeft_le c hb
    have hg := length_stepOf xs n

    simp only [same_self, length_gen, Bool.not_true, beq_self_eq_true, cond_true, bne_self_eq_false, ifB]
    repeat' (first | refine pre_of ?_ (fun _ => ?_) | refine ifB_of (fun c => ?_) (fun c => ?_) | fail)
    all_goals first
      | omega
      | trivial
      | (rename_i c; have c := of_decide_eq_true c; omega))

noncomputable def fs_lawExactSteps : Fs := ⟨[], fun args H => match args, H with
  | [.vec 0, .int .i64 n, .int .i64 m], [(false, .vec .body xs)] => some ((some (LOk .body xs)), .bool (true), [(false, .vec .body xs)])
  | _, _ => none⟩

theorem vc_lawExactSteps (xs : List Body) (n : Int) (m : Int) (Q : SV → List Ent → Prop) :
    fnVC tt (look [(14, fs_lawsSzBodyS), (16, fs_lawsToBodyS), (21, fs_specSteps), (22, fs_implSteps), (18, fs_lawsEqBodyS), (19, fs_lawsMarkBodyS), (20, fs_lawsHeldBodyS)]) L0 Tryz.f4 [.vec 0, .int .i64 n, .int .i64 m] [(false, .vec .body xs)] Q =
    (let A2_ := (false, Blk.vec Ty.body xs); let A1_ := (List.length (stepsOf xs n m)); ifB (decide (szLeft (1048576 : Int) (↑(List.length xs) : Int) < (0 : Int))) (Q (SV.bool true) [A2_]) (List.length xs ≤ (1048576 : Nat) ∧ List.length xs ≤ (1048576 : Nat) ∧ List.length xs ≤ (1048576 : Nat) ∧ List.length xs ≤ (1048576 : Nat) ∧ List.length (stepsOf xs n m) ≤ (4611686018427387904 : Nat) ∧ ifB (!same (stepsOf xs n m) (stepsOf xs n m)) (Q (SV.bool false) [A2_]) (List.length xs ≤ (1048576 : Nat) ∧ List.length xs ≤ (4611686018427387904 : Nat) ∧ ifB (!same xs xs) (Q (SV.bool false) [A2_]) ((List.length xs ≤ (1048576 : Nat) ∧ (0 : Int) ≤ (1 : Int) ∧ (1 : Int) ≤ (1000000000000 : Int)) ∧ List.length (stepsOf xs n m) ≤ (4611686018427387904 : Nat) ∧ ifB (!same (stepsOf xs n m) (stepsOf xs n m)) (Q (SV.bool false) [A2_]) ((List.length (stepsOf xs n m) ≤ (1048576 : Nat) ∧ (0 : Int) ≤ (1 : Int) ∧ (1 : Int) ≤ (1000000000000 : Int)) ∧ (List.length (gen (fun e => mkBody ((1 : Int) + (12 : Int) * (↑e : Int))) A1_) ≤ (1048576 : Nat) ∧ (0 : Int) ≤ (1 : Int) ∧ (1 : Int) ≤ (1000000000000 : Int)) ∧ ifB (decide ((bif same (gen (fun e => mkBody ((1 : Int) + (12 : Int) * (↑e : Int))) A1_) (gen (fun e => mkBody ((1 : Int) + (12 : Int) * (↑e : Int))) (List.length (gen (fun e => mkBody ((1 : Int) + (12 : Int) * (↑e : Int))) A1_))) then (1 : Int) + (12 : Int) * (↑(List.length (gen (fun e => mkBody ((1 : Int) + (12 : Int) * (↑e : Int))) A1_)) : Int) else (-1 : Int)) < (0 : Int))) (Q (SV.bool false) [A2_]) (ifB ((bif same (gen (fun e => mkBody ((1 : Int) + (12 : Int) * (↑e : Int))) A1_) (gen (fun e => mkBody ((1 : Int) + (12 : Int) * (↑e : Int))) (List.length (gen (fun e => mkBody ((1 : Int) + (12 : Int) * (↑e : Int))) A1_))) then (1 : Int) + (12 : Int) * (↑(List.length (gen (fun e => mkBody ((1 : Int) + (12 : Int) * (↑e : Int))) A1_)) : Int) else (-1 : Int)) != (1 : Int) + (12 : Int) * (↑A1_ : Int)) (Q (SV.bool false) [A2_]) (List.length xs ≤ (1048576 : Nat) ∧ List.length xs ≤ (1048576 : Nat) ∧ List.length (stepsOf xs n m) ≤ (4611686018427387904 : Nat) ∧ ifB (!same (stepsOf xs n m) (stepsOf xs n m)) (Q (SV.bool false) [A2_]) ((List.length (gen (fun e => mkBody ((1 : Int) + (12 : Int) * (↑e : Int))) A1_) ≤ (1048576 : Nat) ∧ (0 : Int) ≤ (1 : Int) ∧ (1 : Int) ≤ (1000000000000 : Int)) ∧ ifB (decide ((bif same (gen (fun e => mkBody ((1 : Int) + (12 : Int) * (↑e : Int))) A1_) (gen (fun e => mkBody ((1 : Int) + (12 : Int) * (↑e : Int))) (List.length (gen (fun e => mkBody ((1 : Int) + (12 : Int) * (↑e : Int))) A1_))) then (1 : Int) + (12 : Int) * (↑(List.length (gen (fun e => mkBody ((1 : Int) + (12 : Int) * (↑e : Int))) A1_)) : Int) else (-1 : Int)) < (0 : Int))) (Q (SV.bool false) [A2_]) (ifB ((bif same (gen (fun e => mkBody ((1 : Int) + (12 : Int) * (↑e : Int))) A1_) (gen (fun e => mkBody ((1 : Int) + (12 : Int) * (↑e : Int))) (List.length (gen (fun e => mkBody ((1 : Int) + (12 : Int) * (↑e : Int))) A1_))) then (1 : Int) + (12 : Int) * (↑(List.length (gen (fun e => mkBody ((1 : Int) + (12 : Int) * (↑e : Int))) A1_)) : Int) else (-1 : Int)) != (1 : Int) + (12 : Int) * (↑A1_ : Int)) (Q (SV.bool false) [A2_]) (Q (SV.bool true) [A2_])))))))))) := by kernel_rfl

theorem ok_lawExactSteps : FsOk Tryz.prog 4 fs_lawExactSteps := fsOk_of tt_ok (tabFs_cons ok_lawsSzBodyS (tabFs_cons ok_lawsToBodyS (tabFs_cons ok_specSteps (tabFs_cons ok_implSteps (tabFs_cons ok_lawsEqBodyS (tabFs_cons ok_lawsMarkBodyS (tabFs_cons ok_lawsHeldBodyS tabFs_nil))))))) mixed Tryz.func4 (by kernel_rfl) (by kernel_rfl) (by
    intro args LL p r HH h hp
    unfold fs_lawExactSteps at h
    dsimp only at h
    split at h
    case h_2 => cases h
    rename_i n m xs
    simp only [Option.some.injEq, Prod.mk.injEq] at h
    obtain ⟨rfl, rfl, rfl⟩ := h
    refine ⟨by simp [Form, stays], L0, ?_⟩
    rw [vc_lawExactSteps]
    try dsimp only
    have hb := (hp _ rfl).1
    refine ifB_of (fun c => ⟨rfl, rfl⟩) (fun c => ?_)
    have hl := szLeft_le c hb
    have hg := length_stepsOf xs n m

    simp only [same_self, length_gen, Bool.not_true, beq_self_eq_true, cond_true, bne_self_eq_false, ifB]
    repeat' (first | refine pre_of ?_ (fun _ => ?_) | refine ifB_of (fun c => ?_) (fun c => ?_) | fail)
    all_goals first
      | omega
      | trivial
      | (rename_i c; have c := of_decide_eq_true c; omega))

theorem length_stepBodies (ok : Bool) (t p : Int) (xs : List Body) (h : xs.length ≤ 1048576) : (stepBodies ok t p xs).length ≤ 1048576 := by
  unfold stepBodies
  have := length_stepOf xs p
  cases ok <;> cases t == 100000 <;> simp only [cond_true, cond_false, List.length_nil] <;> omega
theorem length_stepPs (ok : Bool) (t p : Int) (xs : List Body) (ps : List Pair) (h : ps.length ≤ 1048576) : (stepPs ok t p xs ps).length ≤ 1048576 := by
  unfold stepPs
  have := length_stepPairs (stepOf xs p)
  cases ok <;> cases t == 100000 <;> simp only [cond_true, cond_false, List.length_nil] <;> omega
theorem bodies_lt {xs : List Body} (h : bodiesOk xs = true) : ∀ {b a : Nat}, a < b → b < xs.length → (Ty.ix .body xs a).Id < (Ty.ix .body xs b).Id
  | b + 1, a, hab, hb => by
    have h3 := (bodiesOk_iff.1 h).2.2 b hb
    by_cases e : a = b
    · subst e
      exact h3
    · exact Int.lt_trans (bodies_lt h (b := b) (a := a) (by omega) (by omega)) h3
theorem hasB_id {xs : List Body} {id : Int} (h : hasB xs id = true) : atB xs id < xs.length ∧ (Ty.ix .body xs (atB xs id)).Id = id := by
  simp only [hasB, Bool.and_eq_true, decide_eq_true_eq, beq_iff_eq] at h
  exact h
theorem atB_lt {xs : List Body} (h : bodiesOk xs = true) {a b : Int} (ha : hasB xs a = true) (hb : hasB xs b = true) (hab : a < b) : atB xs a < atB xs b := by
  obtain ⟨a1, a2⟩ := hasB_id ha
  obtain ⟨b1, b2⟩ := hasB_id hb
  refine Nat.lt_of_not_le fun hle => ?_
  by_cases e : atB xs b = atB xs a
  · rw [e] at b2
    omega
  · have := bodies_lt h (a := atB xs b) (b := atB xs a) (by omega) a1
    omega
theorem pairAt_of {t p : Int} {xs : List Body} {ps : List Pair} (h : worldOk t p xs ps = true) {i : Nat} (hi : i < ps.length) : hasB xs (Ty.ix .pair ps i).A = true ∧ hasB xs (Ty.ix .pair ps i).B = true ∧ (Ty.ix .pair ps i).A < (Ty.ix .pair ps i).B ∧
    (0 < i → (Ty.ix .pair ps (i - 1)).A < (Ty.ix .pair ps i).A ∨ (Ty.ix .pair ps (i - 1)).A = (Ty.ix .pair ps i).A ∧ (Ty.ix .pair ps (i - 1)).B < (Ty.ix .pair ps i).B) := by
  unfold worldOk at h
  simp only [Bool.and_eq_true, allTo_iff] at h
  have h2 := h.2 i hi
  simp only [pairAt, ahead, Bool.and_eq_true, Bool.or_eq_true, decide_eq_true_eq, beq_iff_eq] at h2
  refine ⟨h2.1.1.1, h2.1.1.2, h2.1.2, fun h0 => ?_⟩
  rcases h2.2 with q | q
  · omega
  · exact q
theorem worldOk_pairs {t p : Int} {xs : List Body} {ps : List Pair} (h : worldOk t p xs ps = true) : ps.length ≤ 144 := by
  have hB := worldOk_bodies h
  have hl := bodiesOk_len hB
  have key : ∀ i, i < ps.length → i ≤ 12 * atB xs (Ty.ix .pair ps i).A + atB xs (Ty.ix .pair ps i).B := by
    intro i
    induction i with
    | zero => intro _; omega
    | succ i ih =>
      intro hi
      have h1 := ih (by omega)
      obtain ⟨a1, a2, a3, a4⟩ := pairAt_of h hi
      obtain ⟨b1, b2, _, _⟩ := pairAt_of h (i := i) (by omega)
      have c1 := (hasB_id b2).1
      rcases a4 (by omega) with q | ⟨q1, q2⟩
      · have := atB_lt hB b1 a1 q
        omega
      · simp only [Nat.add_sub_cancel] at q1 q2
        have := atB_lt hB b2 a2 q2
        rw [← q1]
        omega
  refine Nat.le_of_not_lt fun hlt => ?_
  have h1 := key 144 hlt
  obtain ⟨a1, a2, a3, a4⟩ := pairAt_of h (i := 144) hlt
  have c1 := (hasB_id a1).1
  have c2 := (hasB_id a2).1
  omega
theorem length_stepEs (t p : Int) (xs : List Body) (ps : List Pair) : (stepEs (worldOk t p xs ps) t p xs ps).length ≤ 288 := by
  unfold stepEs stepEvs
  have hq := worldOk_pairs (t := t) (p := p) (xs := xs) (ps := ps)
  generalize worldOk t p xs ps = ok at *
  have := length_stepPairs (stepOf xs p)
  have h1 := length_newF (stepPairs (stepOf xs p)) ps
  have h2 := length_newF ps (stepPairs (stepOf xs p))
  cases ok with
  | false => simp
  | true =>
    have := hq rfl
    cases t == 100000 <;> simp only [cond_true, cond_false, List.length_nil, List.length_append, length_evs] <;> omega
noncomputable def fs_lawExactWorldStep : Fs := ⟨[], fun args H => match args, H with
  | [.agg [.int .i64 t, .int .i64 p, .vec 0, .vec 1]], [(false, .vec .body xs), (false, .vec .pair ps)] => some ((some (LOk .body xs ∧ LOk .pair ps)), .bool true, [(false, .vec .body xs), (false, .vec .pair ps)])
  | _, _ => none⟩

theorem vc_lawExactWorldStep (t : Int) (p : Int) (xs : List Body) (ps : List Pair) (Q : SV → List Ent → Prop) :
    fnVC tt (look [(23, fs_szWorld), (25, fs_toWorld), (24, fs_specWorldStep), (26, fs_implWorldStep), (27, fs_lawsEqWorld), (28, fs_lawsEqEventS), (29, fs_lawsMarkWorld), (30, fs_lawsMarkEventS), (31, fs_lawsHeldWorld), (32, fs_lawsHeldEventS)]) L0 Tryz.f5 [.agg [.int .i64 t, .int .i64 p, .vec 0, .vec 1]] [(false, .vec .body xs), (false, .vec .pair ps)] Q =
    (let A9_ := (stepPs (worldOk t p xs ps) t p xs ps); let A8_ := (stepBodies (worldOk t p xs ps) t p xs); let A7_ := (4611686018427387904 : Nat); let A6_ := (false, Blk.vec Ty.pair ps); let A5_ := (false, Blk.vec Ty.body xs); let A4_ := (!eqW4 (stepTick (worldOk t p xs ps) t) (orI (worldOk t p xs ps) p) A8_ A9_ (stepTick (worldOk t p xs ps) t) (orI (worldOk t p xs ps) p) A8_ A9_); let A3_ := (stepEs (worldOk t p xs ps) t p xs ps); let A2_ := (List.length A9_); let A1_ := (List.length A8_); ifB (decide (szW (1048576 : Int) (List.length xs) (List.length ps) < (0 : Int))) (Q (SV.bool true) [A5_, A6_]) ((List.length xs ≤ (1048576 : Nat) ∧ List.length ps ≤ (1048576 : Nat)) ∧ (List.length xs ≤ (1048576 : Nat) ∧ List.length ps ≤ (1048576 : Nat)) ∧ (List.length xs ≤ (1048576 : Nat) ∧ List.length ps ≤ (1048576 : Nat)) ∧ (List.length xs ≤ (1048576 : Nat) ∧ List.length ps ≤ (1048576 : Nat)) ∧ (List.length A8_ ≤ A7_ ∧ List.length A9_ ≤ A7_) ∧ ifB A4_ (Q (SV.bool false) [A5_, A6_]) (List.length A3_ ≤ A7_ ∧ ifB (!same A3_ A3_) (Q (SV.bool false) [A5_, A6_]) ((List.length xs ≤ (1048576 : Nat) ∧ List.length ps ≤ (1048576 : Nat)) ∧ (List.length xs ≤ A7_ ∧ List.length ps ≤ A7_) ∧ ifB (!eqW4 t p xs ps t p xs ps) (Q (SV.bool false) [A5_, A6_]) ((List.length xs ≤ (1048576 : Nat) ∧ List.length ps ≤ (1048576 : Nat) ∧ (0 : Int) ≤ (1 : Int) ∧ (1 : Int) ≤ (10000000000 : Int)) ∧ (List.length A8_ ≤ A7_ ∧ List.length A9_ ≤ A7_) ∧ ifB A4_ (Q (SV.bool false) [A5_, A6_]) (List.length A3_ ≤ A7_ ∧ ifB (!same A3_ A3_) (Q (SV.bool false) [A5_, A6_]) ((List.length A8_ ≤ (1048576 : Nat) ∧ List.length A9_ ≤ (1048576 : Nat) ∧ (0 : Int) ≤ (1 : Int) ∧ (1 : Int) ≤ (10000000000 : Int)) ∧ (List.length A3_ ≤ (1048576 : Nat) ∧ (0 : Int) ≤ (1 : Int) + (12 : Int) * (↑A1_ : Int) + (2 : Int) * (↑A2_ : Int) ∧ (1 : Int) + (12 : Int) * (↑A1_ : Int) + (2 : Int) * (↑A2_ : Int) ≤ (1000000000000 : Int)) ∧ (List.length (gen (fun e => mkBody ((1 : Int) + (12 : Int) * (↑e : Int))) A1_) ≤ (1048576 : Nat) ∧ List.length (gen (fun e => mkPair ((1 : Int) + (12 : Int) * (↑A1_ : Int) + (2 : Int) * (↑e : Int))) A2_) ≤ (1048576 : Nat) ∧ (0 : Int) ≤ (1 : Int) ∧ (1 : Int) ≤ (10000000000 : Int)) ∧ ifB (decide (heldW (1 : Int) (gen (fun e => mkBody ((1 : Int) + (12 : Int) * (↑e : Int))) A1_) (gen (fun e => mkPair ((1 : Int) + (12 : Int) * (↑A1_ : Int) + (2 : Int) * (↑e : Int))) A2_) < (0 : Int))) (Q (SV.bool false) [A5_, A6_]) ((List.length (gen (fun e => mkEvent ((1 : Int) + (12 : Int) * (↑A1_ : Int) + (2 : Int) * (↑A2_ : Int) + (3 : Int) * (↑e : Int))) (List.length A3_)) ≤ (1048576 : Nat) ∧ (0 : Int) ≤ heldW (1 : Int) (gen (fun e => mkBody ((1 : Int) + (12 : Int) * (↑e : Int))) A1_) (gen (fun e => mkPair ((1 : Int) + (12 : Int) * (↑A1_ : Int) + (2 : Int) * (↑e : Int))) A2_) ∧ heldW (1 : Int) (gen (fun e => mkBody ((1 : Int) + (12 : Int) * (↑e : Int))) A1_) (gen (fun e => mkPair ((1 : Int) + (12 : Int) * (↑A1_ : Int) + (2 : Int) * (↑e : Int))) A2_) ≤ (1000000000000 : Int)) ∧ ifB (decide ((bif same (gen (fun e => mkEvent ((1 : Int) + (12 : Int) * (↑A1_ : Int) + (2 : Int) * (↑A2_ : Int) + (3 : Int) * (↑e : Int))) (List.length A3_)) (gen (fun e => mkEvent (heldW (1 : Int) (gen (fun e => mkBody ((1 : Int) + (12 : Int) * (↑e : Int))) A1_) (gen (fun e => mkPair ((1 : Int) + (12 : Int) * (↑A1_ : Int) + (2 : Int) * (↑e : Int))) A2_) + (3 : Int) * (↑e : Int))) (List.length (gen (fun e => mkEvent ((1 : Int) + (12 : Int) * (↑A1_ : Int) + (2 : Int) * (↑A2_ : Int) + (3 : Int) * (↑e : Int))) (List.length A3_)))) then heldW (1 : Int) (gen (fun e => mkBody ((1 : Int) + (12 : Int) * (↑e : Int))) A1_) (gen (fun e => mkPair ((1 : Int) + (12 : Int) * (↑A1_ : Int) + (2 : Int) * (↑e : Int))) A2_) + (3 : Int) * (↑(List.length (gen (fun e => mkEvent ((1 : Int) + (12 : Int) * (↑A1_ : Int) + (2 : Int) * (↑A2_ : Int) + (3 : Int) * (↑e : Int))) (List.length A3_))) : Int) else (-1 : Int)) < (0 : Int))) (Q (SV.bool false) [A5_, A6_]) (ifB ((bif same (gen (fun e => mkEvent ((1 : Int) + (12 : Int) * (↑A1_ : Int) + (2 : Int) * (↑A2_ : Int) + (3 : Int) * (↑e : Int))) (List.length A3_)) (gen (fun e => mkEvent (heldW (1 : Int) (gen (fun e => mkBody ((1 : Int) + (12 : Int) * (↑e : Int))) A1_) (gen (fun e => mkPair ((1 : Int) + (12 : Int) * (↑A1_ : Int) + (2 : Int) * (↑e : Int))) A2_) + (3 : Int) * (↑e : Int))) (List.length (gen (fun e => mkEvent ((1 : Int) + (12 : Int) * (↑A1_ : Int) + (2 : Int) * (↑A2_ : Int) + (3 : Int) * (↑e : Int))) (List.length A3_)))) then heldW (1 : Int) (gen (fun e => mkBody ((1 : Int) + (12 : Int) * (↑e : Int))) A1_) (gen (fun e => mkPair ((1 : Int) + (12 : Int) * (↑A1_ : Int) + (2 : Int) * (↑e : Int))) A2_) + (3 : Int) * (↑(List.length (gen (fun e => mkEvent ((1 : Int) + (12 : Int) * (↑A1_ : Int) + (2 : Int) * (↑A2_ : Int) + (3 : Int) * (↑e : Int))) (List.length A3_))) : Int) else (-1 : Int)) != (1 : Int) + (12 : Int) * (↑A1_ : Int) + (2 : Int) * (↑A2_ : Int) + (3 : Int) * (↑(List.length A3_) : Int)) (Q (SV.bool false) [A5_, A6_]) ((List.length xs ≤ (1048576 : Nat) ∧ List.length ps ≤ (1048576 : Nat)) ∧ (List.length xs ≤ (1048576 : Nat) ∧ List.length ps ≤ (1048576 : Nat)) ∧ (List.length A8_ ≤ A7_ ∧ List.length A9_ ≤ A7_) ∧ ifB A4_ (Q (SV.bool false) [A5_, A6_]) (List.length A3_ ≤ A7_ ∧ ifB (!same A3_ A3_) (Q (SV.bool false) [A5_, A6_]) ((List.length (gen (fun e => mkBody ((1 : Int) + (12 : Int) * (↑e : Int))) A1_) ≤ (1048576 : Nat) ∧ List.length (gen (fun e => mkPair ((1 : Int) + (12 : Int) * (↑A1_ : Int) + (2 : Int) * (↑e : Int))) A2_) ≤ (1048576 : Nat) ∧ (0 : Int) ≤ (1 : Int) ∧ (1 : Int) ≤ (10000000000 : Int)) ∧ ifB (decide (heldW (1 : Int) (gen (fun e => mkBody ((1 : Int) + (12 : Int) * (↑e : Int))) A1_) (gen (fun e => mkPair ((1 : Int) + (12 : Int) * (↑A1_ : Int) + (2 : Int) * (↑e : Int))) A2_) < (0 : Int))) (Q (SV.bool false) [A5_, A6_]) ((List.length (gen (fun e => mkEvent ((1 : Int) + (12 : Int) * (↑A1_ : Int) + (2 : Int) * (↑A2_ : Int) + (3 : Int) * (↑e : Int))) (List.length A3_)) ≤ (1048576 : Nat) ∧ (0 : Int) ≤ heldW (1 : Int) (gen (fun e => mkBody ((1 : Int) + (12 : Int) * (↑e : Int))) A1_) (gen (fun e => mkPair ((1 : Int) + (12 : Int) * (↑A1_ : Int) + (2 : Int) * (↑e : Int))) A2_) ∧ heldW (1 : Int) (gen (fun e => mkBody ((1 : Int) + (12 : Int) * (↑e : Int))) A1_) (gen (fun e => mkPair ((1 : Int) + (12 : Int) * (↑A1_ : Int) + (2 : Int) * (↑e : Int))) A2_) ≤ (1000000000000 : Int)) ∧ ifB (decide ((bif same (gen (fun e => mkEvent ((1 : Int) + (12 : Int) * (↑A1_ : Int) + (2 : Int) * (↑A2_ : Int) + (3 : Int) * (↑e : Int))) (List.length A3_)) (gen (fun e => mkEvent (heldW (1 : Int) (gen (fun e => mkBody ((1 : Int) + (12 : Int) * (↑e : Int))) A1_) (gen (fun e => mkPair ((1 : Int) + (12 : Int) * (↑A1_ : Int) + (2 : Int) * (↑e : Int))) A2_) + (3 : Int) * (↑e : Int))) (List.length (gen (fun e => mkEvent ((1 : Int) + (12 : Int) * (↑A1_ : Int) + (2 : Int) * (↑A2_ : Int) + (3 : Int) * (↑e : Int))) (List.length A3_)))) then heldW (1 : Int) (gen (fun e => mkBody ((1 : Int) + (12 : Int) * (↑e : Int))) A1_) (gen (fun e => mkPair ((1 : Int) + (12 : Int) * (↑A1_ : Int) + (2 : Int) * (↑e : Int))) A2_) + (3 : Int) * (↑(List.length (gen (fun e => mkEvent ((1 : Int) + (12 : Int) * (↑A1_ : Int) + (2 : Int) * (↑A2_ : Int) + (3 : Int) * (↑e : Int))) (List.length A3_))) : Int) else (-1 : Int)) < (0 : Int))) (Q (SV.bool false) [A5_, A6_]) (ifB ((bif same (gen (fun e => mkEvent ((1 : Int) + (12 : Int) * (↑A1_ : Int) + (2 : Int) * (↑A2_ : Int) + (3 : Int) * (↑e : Int))) (List.length A3_)) (gen (fun e => mkEvent (heldW (1 : Int) (gen (fun e => mkBody ((1 : Int) + (12 : Int) * (↑e : Int))) A1_) (gen (fun e => mkPair ((1 : Int) + (12 : Int) * (↑A1_ : Int) + (2 : Int) * (↑e : Int))) A2_) + (3 : Int) * (↑e : Int))) (List.length (gen (fun e => mkEvent ((1 : Int) + (12 : Int) * (↑A1_ : Int) + (2 : Int) * (↑A2_ : Int) + (3 : Int) * (↑e : Int))) (List.length A3_)))) then heldW (1 : Int) (gen (fun e => mkBody ((1 : Int) + (12 : Int) * (↑e : Int))) A1_) (gen (fun e => mkPair ((1 : Int) + (12 : Int) * (↑A1_ : Int) + (2 : Int) * (↑e : Int))) A2_) + (3 : Int) * (↑(List.length (gen (fun e => mkEvent ((1 : Int) + (12 : Int) * (↑A1_ : Int) + (2 : Int) * (↑A2_ : Int) + (3 : Int) * (↑e : Int))) (List.length A3_))) : Int) else (-1 : Int)) != (1 : Int) + (12 : Int) * (↑A1_ : Int) + (2 : Int) * (↑A2_ : Int) + (3 : Int) * (↑(List.length A3_) : Int)) (Q (SV.bool false) [A5_, A6_]) (Q (SV.bool true) [A5_, A6_]))))))))))))))) := by kernel_rfl

theorem ok_lawExactWorldStep : FsOk Tryz.prog 5 fs_lawExactWorldStep := fsOk_of tt_ok (tabFs_cons ok_szWorld (tabFs_cons ok_toWorld (tabFs_cons ok_specWorldStep (tabFs_cons ok_implWorldStep (tabFs_cons ok_lawsEqWorld (tabFs_cons ok_lawsEqEventS (tabFs_cons ok_lawsMarkWorld (tabFs_cons ok_lawsMarkEventS (tabFs_cons ok_lawsHeldWorld (tabFs_cons ok_lawsHeldEventS tabFs_nil)))))))))) mixed Tryz.func5 (by kernel_rfl) (by kernel_rfl) (by
    intro args LL p r HH h hp
    unfold fs_lawExactWorldStep at h
    dsimp only at h
    split at h
    case h_2 => cases h
    rename_i t p xs ps
    simp only [Option.some.injEq, Prod.mk.injEq] at h
    obtain ⟨rfl, rfl, rfl⟩ := h
    refine ⟨by simp [Form, stays], L0, ?_⟩
    rw [vc_lawExactWorldStep]
    try dsimp only
    obtain ⟨⟨hb, _⟩, hb2, _⟩ := hp _ rfl
    refine ifB_of (fun c => ⟨rfl, rfl⟩) (fun c => ?_)
    obtain ⟨k1, k2⟩ := szW_le c hb hb2
    have h1 := length_stepBodies (worldOk t p xs ps) t p xs k1
    have h2 := length_stepPs (worldOk t p xs ps) t p xs ps k2
    have h3 := length_stepEs t p xs ps
    have hh := heldW_marked (k := 1) (m := (stepBodies (worldOk t p xs ps) t p xs).length) (n := (stepPs (worldOk t p xs ps) t p xs ps).length)
    simp only [eqW4_self, hh]

    simp only [same_self, length_gen, Bool.not_true, beq_self_eq_true, cond_true, bne_self_eq_false, ifB]
    repeat' (first | refine pre_of ?_ (fun _ => ?_) | refine ifB_of (fun c => ?_) (fun c => ?_) | fail)
    all_goals first
      | omega
      | trivial
      | (rename_i c; have c := of_decide_eq_true c; omega))

end
end Go.Proofs.YtdhbkcaaijgocaaGreat.Sym

