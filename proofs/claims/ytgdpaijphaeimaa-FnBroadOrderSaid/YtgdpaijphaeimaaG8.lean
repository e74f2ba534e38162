/-
  A box put by the program.
  No condition.
-/
import Derived.Test.YtgdpaijphaeimaaG5
import Derived.Test.YtgdpaijphaeimaaI1
namespace Go.Proofs.Ytgdpaijphaeimaa.Sym
open Go
set_option linter.unusedVariables false
set_option linter.unusedSimpArgs false
set_option maxRecDepth 100000

theorem wrap_u64 {n : Int} (h1 : 0 ≤ n) (h2 : n ≤ 9223372036854775807) : IntKind.u64.wrap n = n := by
  have : IntKind.u64.wrap n = n % 18446744073709551616 := rfl
  rw [this]
  omega
noncomputable def fs_cmpId : Fs := ⟨[], fun args H => match args, H with
  | [.agg [.int .i64 xI, .int .i64 xLX, .int .i64 xLY, .int .i64 xHX, .int .i64 xHY], .int .i64 id], [] => some (none, .int .i64 (W ((Item.mk xI (Box.mk (Vec.mk xLX xLY) (Vec.mk xHX xHY))).Id - id)), [])
  | _, _ => none⟩

theorem vc_cmpId (xI : Int) (xLX : Int) (xLY : Int) (xHX : Int) (xHY : Int) (id : Int) (Q : SV → List Ent → Prop) :
    fnVC tt (look []) L0 Try.f167 [.agg [.int .i64 xI, .int .i64 xLX, .int .i64 xLY, .int .i64 xHX, .int .i64 xHY], .int .i64 id] [] Q =
    (Q (SV.int IntKind.i64 (IntKind.wrap IntKind.i64 (xI - id))) []) := by kernel_rfl

theorem ok_cmpId : FsOk Try.prog 167 fs_cmpId := fsOk_of tt_ok tabFs_nil mixed Try.func167 (by kernel_rfl) (by kernel_rfl) (by
    intro args LL p r HH h hp
    unfold fs_cmpId at h
    dsimp only at h
    split at h
    case h_2 => cases h
    rename_i xI xLX xLY xHX xHY id
    simp only [Option.some.injEq, Prod.mk.injEq] at h
    obtain ⟨rfl, rfl, rfl⟩ := h
    refine ⟨by simp [Form, stays], L0, ?_⟩
    rw [vc_cmpId]
    try dsimp only
    exact ⟨rfl, rfl⟩)

def LSbsItems  : LS where
  S := List Item × Unit × Int × Unit × Int × Int × Int
  live := [(0, [none]), (1, [none]), (2, [none]), (8, [none]), (9, [none]), (10, [none])]
  shape := fun s => ([.vec 0, .int .i64 s.2.2.1, .fn 167 none, .int .i64 s.2.2.2.2.1, .int .i64 s.2.2.2.2.2.1, .int .i64 s.2.2.2.2.2.2], [(false, .vec .item s.1)])
  get := fun v h => match v, h with
    | [.vec 0, .int .i64 id, .fn 167 none, .int .i64 n, .int .i64 i, .int .i64 j], [(false, .vec .item xs)] => some (xs, (), id, (), n, i, j)
    | _, _ => none
  inv := fun s0 s => Holds (s.1 = s0.1 ∧ s.2.2.1 = s0.2.2.1 ∧ s.2.2.2.2.1 = s0.1.length ∧ 0 ≤ s.2.2.2.2.2.1 ∧ s.2.2.2.2.2.1 ≤ s.2.2.2.2.2.2 ∧ s.2.2.2.2.2.2 ≤ s0.1.length ∧ (∀ e, e < s.2.2.2.2.2.1.toNat → (Ty.ix .item s0.1 e).Id < s0.2.2.1) ∧ (∀ e, s.2.2.2.2.2.2.toNat ≤ e → e < s0.1.length → s0.2.2.1 ≤ (Ty.ix .item s0.1 e).Id))
  mu := fun s => (s.2.2.2.2.2.2 - s.2.2.2.2.2.1).toNat
  ok := by
    intro v h s hg
    try dsimp only at hg
    split at hg <;> cases hg
    rfl

def L_bsItems : Loops := fun n => match n with
  | 3 => some LSbsItems
  | _ => none
noncomputable def fs_bsItems : Fs := ⟨[], fun args H => match args, H with
  | [.vec 0, .int .i64 id, .fn 167 none], [(false, .vec .item xs)] => some ((some (itemsOk xs = true ∧ 0 ≤ id ∧ id ≤ 1000000000)), .tup [.int .i64 (atI xs id), .bool (hasI xs id)], [(false, .vec .item xs)])
  | _, _ => none⟩

theorem vc_bsItems (id : Int) (xs : List Item) (Q : SV → List Ent → Prop) :
    fnVC tt (look [(167, fs_cmpId)]) (L_bsItems) Try.f166 [.vec 0, .int .i64 id, .fn 167 none] [(false, .vec .item xs)] Q =
    (Holds (xs = xs ∧ id = id ∧ (↑(List.length xs) : Int) = (↑(List.length xs) : Int) ∧ (0 : Int) ≤ (0 : Int) ∧ (0 : Int) ≤ (↑(List.length xs) : Int) ∧ (↑(List.length xs) : Int) ≤ (↑(List.length xs) : Int) ∧ (∀ (e : Nat), e < Int.toNat (0 : Int) → Item.Id (Ty.ix Ty.item xs e) < id) ∧ ∀ (e : Nat), Int.toNat (↑(List.length xs) : Int) ≤ e → e < List.length xs → id ≤ Item.Id (Ty.ix Ty.item xs e)) ∧ ∀ (x : List Item × Unit × Int × Unit × Int × Int × Int), Holds (Prod.fst x = xs ∧ Prod.fst (Prod.snd (Prod.snd x)) = id ∧ Prod.fst (Prod.snd (Prod.snd (Prod.snd (Prod.snd x)))) = (↑(List.length xs) : Int) ∧ (0 : Int) ≤ Prod.fst (Prod.snd (Prod.snd (Prod.snd (Prod.snd (Prod.snd x))))) ∧ Prod.fst (Prod.snd (Prod.snd (Prod.snd (Prod.snd (Prod.snd x))))) ≤ Prod.snd (Prod.snd (Prod.snd (Prod.snd (Prod.snd (Prod.snd x))))) ∧ Prod.snd (Prod.snd (Prod.snd (Prod.snd (Prod.snd (Prod.snd x))))) ≤ (↑(List.length xs) : Int) ∧ (∀ (e : Nat), e < Int.toNat (Prod.fst (Prod.snd (Prod.snd (Prod.snd (Prod.snd (Prod.snd x)))))) → Item.Id (Ty.ix Ty.item xs e) < id) ∧ ∀ (e : Nat), Int.toNat (Prod.snd (Prod.snd (Prod.snd (Prod.snd (Prod.snd (Prod.snd x)))))) ≤ e → e < List.length xs → id ≤ Item.Id (Ty.ix Ty.item xs e)) → ifB (decide (Prod.fst (Prod.snd (Prod.snd (Prod.snd (Prod.snd (Prod.snd x))))) < Prod.snd (Prod.snd (Prod.snd (Prod.snd (Prod.snd (Prod.snd x))))))) (((0 : Int) ≤ IntKind.wrap IntKind.i64 (Int.fdiv (IntKind.wrap IntKind.u64 (IntKind.wrap IntKind.i64 (Prod.fst (Prod.snd (Prod.snd (Prod.snd (Prod.snd (Prod.snd x))))) + Prod.snd (Prod.snd (Prod.snd (Prod.snd (Prod.snd (Prod.snd x)))))))) (2 : Int)) ∧ IntKind.wrap IntKind.i64 (Int.fdiv (IntKind.wrap IntKind.u64 (IntKind.wrap IntKind.i64 (Prod.fst (Prod.snd (Prod.snd (Prod.snd (Prod.snd (Prod.snd x))))) + Prod.snd (Prod.snd (Prod.snd (Prod.snd (Prod.snd (Prod.snd x)))))))) (2 : Int)) < (↑(List.length (Prod.fst x)) : Int)) ∧ ifB (decide (W (Item.Id (Ty.ix Ty.item (Prod.fst x) (Int.toNat (IntKind.wrap IntKind.i64 (Int.fdiv (IntKind.wrap IntKind.u64 (IntKind.wrap IntKind.i64 (Prod.fst (Prod.snd (Prod.snd (Prod.snd (Prod.snd (Prod.snd x))))) + Prod.snd (Prod.snd (Prod.snd (Prod.snd (Prod.snd (Prod.snd x)))))))) (2 : Int))))) - Prod.fst (Prod.snd (Prod.snd x))) < (0 : Int))) (Holds (Prod.fst x = xs ∧ Prod.fst (Prod.snd (Prod.snd x)) = id ∧ Prod.fst (Prod.snd (Prod.snd (Prod.snd (Prod.snd x)))) = (↑(List.length xs) : Int) ∧ (0 : Int) ≤ IntKind.wrap IntKind.i64 (IntKind.wrap IntKind.i64 (Int.fdiv (IntKind.wrap IntKind.u64 (IntKind.wrap IntKind.i64 (Prod.fst (Prod.snd (Prod.snd (Prod.snd (Prod.snd (Prod.snd x))))) + Prod.snd (Prod.snd (Prod.snd (Prod.snd (Prod.snd (Prod.snd x)))))))) (2 : Int)) + (1 : Int)) ∧ IntKind.wrap IntKind.i64 (IntKind.wrap IntKind.i64 (Int.fdiv (IntKind.wrap IntKind.u64 (IntKind.wrap IntKind.i64 (Prod.fst (Prod.snd (Prod.snd (Prod.snd (Prod.snd (Prod.snd x))))) + Prod.snd (Prod.snd (Prod.snd (Prod.snd (Prod.snd (Prod.snd x)))))))) (2 : Int)) + (1 : Int)) ≤ Prod.snd (Prod.snd (Prod.snd (Prod.snd (Prod.snd (Prod.snd x))))) ∧ Prod.snd (Prod.snd (Prod.snd (Prod.snd (Prod.snd (Prod.snd x))))) ≤ (↑(List.length xs) : Int) ∧ (∀ (e : Nat), e < Int.toNat (IntKind.wrap IntKind.i64 (IntKind.wrap IntKind.i64 (Int.fdiv (IntKind.wrap IntKind.u64 (IntKind.wrap IntKind.i64 (Prod.fst (Prod.snd (Prod.snd (Prod.snd (Prod.snd (Prod.snd x))))) + Prod.snd (Prod.snd (Prod.snd (Prod.snd (Prod.snd (Prod.snd x)))))))) (2 : Int)) + (1 : Int))) → Item.Id (Ty.ix Ty.item xs e) < id) ∧ ∀ (e : Nat), Int.toNat (Prod.snd (Prod.snd (Prod.snd (Prod.snd (Prod.snd (Prod.snd x)))))) ≤ e → e < List.length xs → id ≤ Item.Id (Ty.ix Ty.item xs e)) ∧ Int.toNat (Prod.snd (Prod.snd (Prod.snd (Prod.snd (Prod.snd (Prod.snd x))))) - IntKind.wrap IntKind.i64 (IntKind.wrap IntKind.i64 (Int.fdiv (IntKind.wrap IntKind.u64 (IntKind.wrap IntKind.i64 (Prod.fst (Prod.snd (Prod.snd (Prod.snd (Prod.snd (Prod.snd x))))) + Prod.snd (Prod.snd (Prod.snd (Prod.snd (Prod.snd (Prod.snd x)))))))) (2 : Int)) + (1 : Int))) < Int.toNat (Prod.snd (Prod.snd (Prod.snd (Prod.snd (Prod.snd (Prod.snd x))))) - Prod.fst (Prod.snd (Prod.snd (Prod.snd (Prod.snd (Prod.snd x))))))) (Holds (Prod.fst x = xs ∧ Prod.fst (Prod.snd (Prod.snd x)) = id ∧ Prod.fst (Prod.snd (Prod.snd (Prod.snd (Prod.snd x)))) = (↑(List.length xs) : Int) ∧ (0 : Int) ≤ Prod.fst (Prod.snd (Prod.snd (Prod.snd (Prod.snd (Prod.snd x))))) ∧ Prod.fst (Prod.snd (Prod.snd (Prod.snd (Prod.snd (Prod.snd x))))) ≤ IntKind.wrap IntKind.i64 (Int.fdiv (IntKind.wrap IntKind.u64 (IntKind.wrap IntKind.i64 (Prod.fst (Prod.snd (Prod.snd (Prod.snd (Prod.snd (Prod.snd x))))) + Prod.snd (Prod.snd (Prod.snd (Prod.snd (Prod.snd (Prod.snd x)))))))) (2 : Int)) ∧ IntKind.wrap IntKind.i64 (Int.fdiv (IntKind.wrap IntKind.u64 (IntKind.wrap IntKind.i64 (Prod.fst (Prod.snd (Prod.snd (Prod.snd (Prod.snd (Prod.snd x))))) + Prod.snd (Prod.snd (Prod.snd (Prod.snd (Prod.snd (Prod.snd x)))))))) (2 : Int)) ≤ (↑(List.length xs) : Int) ∧ (∀ (e : Nat), e < Int.toNat (Prod.fst (Prod.snd (Prod.snd (Prod.snd (Prod.snd (Prod.snd x)))))) → Item.Id (Ty.ix Ty.item xs e) < id) ∧ ∀ (e : Nat), Int.toNat (IntKind.wrap IntKind.i64 (Int.fdiv (IntKind.wrap IntKind.u64 (IntKind.wrap IntKind.i64 (Prod.fst (Prod.snd (Prod.snd (Prod.snd (Prod.snd (Prod.snd x))))) + Prod.snd (Prod.snd (Prod.snd (Prod.snd (Prod.snd (Prod.snd x)))))))) (2 : Int))) ≤ e → e < List.length xs → id ≤ Item.Id (Ty.ix Ty.item xs e)) ∧ Int.toNat (IntKind.wrap IntKind.i64 (Int.fdiv (IntKind.wrap IntKind.u64 (IntKind.wrap IntKind.i64 (Prod.fst (Prod.snd (Prod.snd (Prod.snd (Prod.snd (Prod.snd x))))) + Prod.snd (Prod.snd (Prod.snd (Prod.snd (Prod.snd (Prod.snd x)))))))) (2 : Int)) - Prod.fst (Prod.snd (Prod.snd (Prod.snd (Prod.snd (Prod.snd x)))))) < Int.toNat (Prod.snd (Prod.snd (Prod.snd (Prod.snd (Prod.snd (Prod.snd x))))) - Prod.fst (Prod.snd (Prod.snd (Prod.snd (Prod.snd (Prod.snd x)))))))) (ifB (decide (Prod.fst (Prod.snd (Prod.snd (Prod.snd (Prod.snd (Prod.snd x))))) < Prod.fst (Prod.snd (Prod.snd (Prod.snd (Prod.snd x)))))) (((0 : Int) ≤ Prod.fst (Prod.snd (Prod.snd (Prod.snd (Prod.snd (Prod.snd x))))) ∧ Prod.fst (Prod.snd (Prod.snd (Prod.snd (Prod.snd (Prod.snd x))))) < (↑(List.length (Prod.fst x)) : Int)) ∧ Q (SV.tup [SV.int IntKind.i64 (Prod.fst (Prod.snd (Prod.snd (Prod.snd (Prod.snd (Prod.snd x)))))), SV.bool (W (Item.Id (Ty.ix Ty.item (Prod.fst x) (Int.toNat (Prod.fst (Prod.snd (Prod.snd (Prod.snd (Prod.snd (Prod.snd x)))))))) - Prod.fst (Prod.snd (Prod.snd x))) == (0 : Int))]) [(false, Blk.vec Ty.item (Prod.fst x))]) (Q (SV.tup [SV.int IntKind.i64 (Prod.fst (Prod.snd (Prod.snd (Prod.snd (Prod.snd (Prod.snd x)))))), SV.bool false]) [(false, Blk.vec Ty.item (Prod.fst x))]))) := by kernel_rfl

theorem ok_bsItems : FsOk Try.prog 166 fs_bsItems := fsOk_of tt_ok (tabFs_cons ok_cmpId tabFs_nil) mixed Try.func166 (by kernel_rfl) (by kernel_rfl) (by
    intro args LL p r HH h hp
    unfold fs_bsItems at h
    dsimp only at h
    split at h
    case h_2 => cases h
    rename_i id xs
    simp only [Option.some.injEq, Prod.mk.injEq] at h
    obtain ⟨rfl, rfl, rfl⟩ := h
    refine ⟨by simp [Form, stays], (L_bsItems), ?_⟩
    rw [vc_bsItems]
    try dsimp only
    obtain ⟨hok, hi0, hi1⟩ := hp _ rfl
    have hl := itemsOk_len hok
    refine ⟨⟨(by trivial), (by trivial), (by trivial), by omega, by omega, by omega, fun e he => absurd he (by simp), fun e he he2 => by omega⟩, ?_⟩
    rintro ⟨xs', u, id', f, n, i, j⟩ ⟨h⟩
    dsimp only at h ⊢
    obtain ⟨rfl, rfl, rfl, h0, h1, h2, h3, h4⟩ := h
    have hid : ∀ e, e < xs'.length → 0 ≤ (Ty.ix .item xs' e).Id ∧ (Ty.ix .item xs' e).Id ≤ 1000000000 := fun e he => by
      have := (itemsOk_iff.1 hok).2.1 e he
      simp only [itemOk, isIn, Bool.and_eq_true, decide_eq_true_eq] at this
      exact this.1
    have w1 : IntKind.i64.wrap (i + j) = i + j := wrap_small (by omega) (by omega)
    have w2 : IntKind.u64.wrap (i + j) = i + j := wrap_u64 (by omega) (by omega)
    have w3 : (i + j).fdiv 2 = (i + j) / 2 := Int.fdiv_eq_ediv_of_nonneg _ (by omega)
    have w4 : IntKind.i64.wrap ((i + j) / 2) = (i + j) / 2 := wrap_small (by omega) (by omega)
    have w5 : IntKind.i64.wrap ((i + j) / 2 + 1) = (i + j) / 2 + 1 := wrap_small (by omega) (by omega)
    simp only [w1, w2, w3, w4, w5]
    refine ifB_of (fun c => ?_) (fun c => ?_)
    · have c := of_decide_eq_true c
      have hm : ((i + j) / 2).toNat < xs'.length := by omega
      have hb := hid _ hm
      have w6 : W ((Ty.ix .item xs' ((i + j) / 2).toNat).Id - id') = (Ty.ix .item xs' ((i + j) / 2).toNat).Id - id' := wrap_small (by omega) (by omega)
      refine ⟨⟨by omega, by omega⟩, ifB_of (fun c2 => ?_) (fun c2 => ?_)⟩
      · have c2 := of_decide_eq_true c2
        rw [w6] at c2
        refine ⟨⟨(by trivial), (by trivial), (by trivial), by omega, by omega, by omega, fun e he => ?_, h4⟩, by omega⟩
        by_cases q : e = ((i + j) / 2).toNat
        · rw [q]; omega
        · have := items_lt hok (a := e) (b := ((i + j) / 2).toNat) (by omega) hm
          omega
      · have c2 := of_decide_eq_false c2
        rw [w6] at c2
        refine ⟨⟨(by trivial), (by trivial), (by trivial), by omega, by omega, by omega, h3, fun e he he2 => ?_⟩, by omega⟩
        by_cases q : e = ((i + j) / 2).toNat
        · rw [q]; omega
        · have := items_lt hok (a := ((i + j) / 2).toNat) (b := e) (by omega) he2
          omega
    · have c := of_decide_eq_false c
      have e : i = j := by omega
      subst e
      have hk : atI xs' id' = i.toNat := pref_eq (T := .item) (by omega) (fun e he => decide_eq_true (h3 e he)) (fun hlt => decide_eq_false (by have := h4 i.toNat (by omega) hlt; omega))
      refine ifB_of (fun c2 => ⟨⟨by omega, of_decide_eq_true c2⟩, ?_⟩) (fun c2 => ?_)
      · have c2 := of_decide_eq_true c2
        have hm : i.toNat < xs'.length := by omega
        have hb := hid _ hm
        have w6 : W ((Ty.ix .item xs' i.toNat).Id - id') = (Ty.ix .item xs' i.toNat).Id - id' := wrap_small (by omega) (by omega)
        unfold hasI
        rw [hk, w6]
        have e1 : ((i.toNat : Nat) : Int) = i := by omega
        have e2 : ((Ty.ix .item xs' i.toNat).Id - id' == 0) = ((Ty.ix .item xs' i.toNat).Id == id') := by
          rw [Bool.eq_iff_iff]
          simp only [beq_iff_eq]
          omega
        rw [e1, e2]
        simp [hm]
      · have c2 := of_decide_eq_false c2
        unfold hasI
        rw [hk]
        have e1 : ((i.toNat : Nat) : Int) = i := by omega
        rw [e1]
        simp [show ¬ i.toNat < xs'.length by omega])

noncomputable def fs_findId : Fs := ⟨[], fun args H => match args, H with
  | [.agg [.vec 0], .int .i64 id], [(false, .vec .item xs)] => some ((some (itemsOk xs = true ∧ 0 ≤ id ∧ id ≤ 1000000000)), .tup [.int .i64 (atI xs id), .bool (hasI xs id)], [(false, .vec .item xs)])
  | _, _ => none⟩

theorem vc_findId (id : Int) (xs : List Item) (Q : SV → List Ent → Prop) :
    fnVC tt (look [(166, fs_bsItems)]) L0 Try.f119 [.agg [.vec 0], .int .i64 id] [(false, .vec .item xs)] Q =
    ((itemsOk xs = true ∧ (0 : Int) ≤ id ∧ id ≤ (1000000000 : Int)) ∧ Q (SV.tup [SV.int IntKind.i64 (↑(atI xs id) : Int), SV.bool (hasI xs id)]) [(false, Blk.vec Ty.item xs)]) := by kernel_rfl

theorem ok_findId : FsOk Try.prog 119 fs_findId := fsOk_of tt_ok (tabFs_cons ok_bsItems tabFs_nil) mixed Try.func119 (by kernel_rfl) (by kernel_rfl) (by
    intro args LL p r HH h hp
    unfold fs_findId at h
    dsimp only at h
    split at h
    case h_2 => cases h
    rename_i id xs
    simp only [Option.some.injEq, Prod.mk.injEq] at h
    obtain ⟨rfl, rfl, rfl⟩ := h
    refine ⟨by simp [Form, stays], L0, ?_⟩
    rw [vc_findId]
    try dsimp only
    exact ⟨hp _ rfl, rfl, rfl⟩)

noncomputable def fs_implBroadPut : Fs := ⟨[], fun args H => match args, H with
  | [.agg [.vec 0], .agg [.int .i64 i, .int .i64 a, .int .i64 b, .int .i64 c, .int .i64 d]], [(false, .vec .item xs)] => some ((some (xs.length ≤ 1048576)), .tup [.agg [.vec 1], .bool (putF xs ⟨i, ⟨⟨a, b⟩, ⟨c, d⟩⟩⟩).2], [(false, .vec .item xs), (true, .vec .item (putF xs ⟨i, ⟨⟨a, b⟩, ⟨c, d⟩⟩⟩).1)])
  | _, _ => none⟩

theorem vc_implBroadPut (i : Int) (a : Int) (b : Int) (c : Int) (d : Int) (xs : List Item) (Q : SV → List Ent → Prop) :
    fnVC tt (look [(53, fs_implBroadOk), (117, fs_cloneItems), (118, fs_implItemOk), (119, fs_findId), (120, fs_insItems)]) L0 Try.f44 [.agg [.vec 0], .agg [.int .i64 i, .int .i64 a, .int .i64 b, .int .i64 c, .int .i64 d]] [(false, .vec .item xs)] Q =
    (List.length xs ≤ (1048576 : Nat) ∧ ifB (!itemsOk xs) (Q (SV.tup [SV.agg [SV.vec (1 : Nat)], SV.bool false]) [(false, Blk.vec Ty.item xs), (true, Blk.vec Ty.item [])]) (List.length xs ≤ (1048576 : Nat) ∧ ifB (!itemOk (Item.mk i (Box.mk (Vec.mk a b) (Vec.mk c d)))) (Q (SV.tup [SV.agg [SV.vec (1 : Nat)], SV.bool false]) [(false, Blk.vec Ty.item xs), (true, Blk.vec Ty.item xs)]) ((itemsOk xs = true ∧ (0 : Int) ≤ i ∧ i ≤ (1000000000 : Int)) ∧ ifB (hasI xs i) (((0 : Int) ≤ (↑(atI xs i) : Int) ∧ (↑(atI xs i) : Int) < (↑(List.length xs) : Int)) ∧ Q (SV.tup [SV.agg [SV.vec (1 : Nat)], SV.bool true]) [(false, Blk.vec Ty.item xs), (true, Blk.vec Ty.item (List.set xs (Int.toNat (↑(atI xs i) : Int)) (Item.mk i (Box.mk (Vec.mk a b) (Vec.mk c d)))))]) (ifB ((↑(List.length xs) : Int) == (24 : Int)) (Q (SV.tup [SV.agg [SV.vec (1 : Nat)], SV.bool false]) [(false, Blk.vec Ty.item xs), (true, Blk.vec Ty.item xs)]) (((0 : Int) ≤ (↑(atI xs i) : Int) ∧ (↑(atI xs i) : Int) ≤ (↑(List.length xs) : Int) ∧ List.length [Item.mk i (Box.mk (Vec.mk a b) (Vec.mk c d))] = (1 : Nat) ∧ List.length xs ≤ (1048576 : Nat)) ∧ Q (SV.tup [SV.agg [SV.vec (1 : Nat)], SV.bool true]) [(false, Blk.vec Ty.item xs), (true, Blk.vec Ty.item (insL_Items xs (Int.toNat (↑(atI xs i) : Int)) [Item.mk i (Box.mk (Vec.mk a b) (Vec.mk c d))]))]))))) := by kernel_rfl

theorem ok_implBroadPut : FsOk Try.prog 44 fs_implBroadPut := fsOk_of tt_ok (tabFs_cons ok_implBroadOk (tabFs_cons ok_cloneItems (tabFs_cons ok_implItemOk (tabFs_cons ok_findId (tabFs_cons ok_insItems tabFs_nil))))) mixed Try.func44 (by kernel_rfl) (by kernel_rfl) (by
    intro args LL p r HH h hp
    unfold fs_implBroadPut at h
    dsimp only at h
    split at h
    case h_2 => cases h
    rename_i i a b c d xs
    simp only [Option.some.injEq, Prod.mk.injEq] at h
    obtain ⟨rfl, rfl, rfl⟩ := h
    refine ⟨by simp [Form, stays], L0, ?_⟩
    rw [vc_implBroadPut]
    try dsimp only
    have hb := hp _ rfl
    have hk := atI_le xs i
    refine ⟨hb, ifB_of (fun c1 => ?_) (fun c1 => ⟨hb, ifB_of (fun c2 => ?_) (fun c2 => ?_)⟩)⟩
    · simp [putF, not_true c1]
    · simp [putF, not_false c1, not_true c2]
    have c2' := not_false c2
    have hid : 0 ≤ i ∧ i ≤ 1000000000 := by
      simp only [itemOk, isIn, Bool.and_eq_true, decide_eq_true_eq] at c2'
      exact c2'.1
    refine ⟨⟨not_false c1, hid⟩, ifB_of (fun c4 => ?_) (fun c4 => ifB_of (fun c5 => ?_) (fun c5 => ?_))⟩
    · have := hasI_lt c4
      refine ⟨⟨by omega, by omega⟩, ?_⟩
      simp [putF, not_false c1, not_false c2, c4]
    · have c5 : (xs.length : Int) = 24 := by simpa using c5
      simp [putF, not_false c1, not_false c2, c4, show xs.length ≥ 24 by omega]
    · have c5 : ¬ (xs.length : Int) = 24 := by simpa using c5
      have := itemsOk_len (not_false c1)
      refine ⟨⟨by omega, by omega, rfl, hb⟩, ?_⟩
      simp [putF, insI, insL_Items, not_false c1, not_false c2, c4, show ¬ xs.length ≥ 24 by omega])

theorem length_putF2 {xs : List Item} {x : Item} : (putF xs x).1.length ≤ 25 := by
  have h1 := length_putF (xs := xs) (x := x)
  cases h : itemsOk xs with
  | true =>
    have := itemsOk_len h
    omega
  | false => simp [putF, h]
noncomputable def fs_lawExactBroadPut : Fs := ⟨[], fun args H => match args, H with
  | [.agg [.vec 0], .agg [.int .i64 xI, .int .i64 xLX, .int .i64 xLY, .int .i64 xHX, .int .i64 xHY]], [(false, .vec .item xs)] => some ((some (LOk .item xs)), .bool (true), [(false, .vec .item xs)])
  | _, _ => none⟩

theorem vc_lawExactBroadPut (xs : List Item) (xI : Int) (xLX : Int) (xLY : Int) (xHX : Int) (xHY : Int) (Q : SV → List Ent → Prop) :
    fnVC tt (look [(21, fs_szBroad), (22, fs_lawsToBroad), (47, fs_lawsToItem), (46, fs_specBroadPut), (44, fs_implBroadPut), (24, fs_lawsEqBroad), (25, fs_lawsMarkBroad), (48, fs_lawsHeldBroad)]) L0 Try.f8 [.agg [.vec 0], .agg [.int .i64 xI, .int .i64 xLX, .int .i64 xLY, .int .i64 xHX, .int .i64 xHY]] [(false, .vec .item xs)] Q =
    (ifB (decide (szLeft (1048576 : Int) (↑(List.length xs) : Int) < (0 : Int))) (Q (SV.bool true) [(false, Blk.vec Ty.item xs)]) (List.length xs ≤ (1048576 : Nat) ∧ List.length xs ≤ (1048576 : Nat) ∧ List.length xs ≤ (1048576 : Nat) ∧ List.length xs ≤ (1048576 : Nat) ∧ List.length (Prod.fst (putF xs (Item.mk xI (Box.mk (Vec.mk xLX xLY) (Vec.mk xHX xHY))))) ≤ (4611686018427387904 : Nat) ∧ ifB (!same (Prod.fst (putF xs (Item.mk xI (Box.mk (Vec.mk xLX xLY) (Vec.mk xHX xHY))))) (Prod.fst (putF xs (Item.mk xI (Box.mk (Vec.mk xLX xLY) (Vec.mk xHX xHY)))))) (Q (SV.bool false) [(false, Blk.vec Ty.item xs)]) (ifB (!Prod.snd (putF xs (Item.mk xI (Box.mk (Vec.mk xLX xLY) (Vec.mk xHX xHY)))) == Prod.snd (putF xs (Item.mk xI (Box.mk (Vec.mk xLX xLY) (Vec.mk xHX xHY))))) (Q (SV.bool false) [(false, Blk.vec Ty.item xs)]) (List.length xs ≤ (1048576 : Nat) ∧ List.length xs ≤ (4611686018427387904 : Nat) ∧ ifB (!same xs xs) (Q (SV.bool false) [(false, Blk.vec Ty.item xs)]) ((List.length xs ≤ (1048576 : Nat) ∧ (0 : Int) ≤ (1 : Int) ∧ (1 : Int) ≤ (1000000000000 : Int)) ∧ List.length (Prod.fst (putF xs (Item.mk xI (Box.mk (Vec.mk xLX xLY) (Vec.mk xHX xHY))))) ≤ (4611686018427387904 : Nat) ∧ ifB (!same (Prod.fst (putF xs (Item.mk xI (Box.mk (Vec.mk xLX xLY) (Vec.mk xHX xHY))))) (Prod.fst (putF xs (Item.mk xI (Box.mk (Vec.mk xLX xLY) (Vec.mk xHX xHY)))))) (Q (SV.bool false) [(false, Blk.vec Ty.item xs)]) (ifB (!Prod.snd (putF xs (Item.mk xI (Box.mk (Vec.mk xLX xLY) (Vec.mk xHX xHY)))) == Prod.snd (putF xs (Item.mk xI (Box.mk (Vec.mk xLX xLY) (Vec.mk xHX xHY))))) (Q (SV.bool false) [(false, Blk.vec Ty.item xs)]) ((List.length (Prod.fst (putF xs (Item.mk xI (Box.mk (Vec.mk xLX xLY) (Vec.mk xHX xHY))))) ≤ (1048576 : Nat) ∧ (0 : Int) ≤ (1 : Int) ∧ (1 : Int) ≤ (1000000000000 : Int)) ∧ (List.length (gen (fun e => mkItem ((1 : Int) + (5 : Int) * (↑e : Int))) (List.length (Prod.fst (putF xs (Item.mk xI (Box.mk (Vec.mk xLX xLY) (Vec.mk xHX xHY))))))) ≤ (1048576 : Nat) ∧ (0 : Int) ≤ (1 : Int) ∧ (1 : Int) ≤ (1000000000000 : Int)) ∧ ifB (decide ((bif same (gen (fun e => mkItem ((1 : Int) + (5 : Int) * (↑e : Int))) (List.length (Prod.fst (putF xs (Item.mk xI (Box.mk (Vec.mk xLX xLY) (Vec.mk xHX xHY))))))) (gen (fun e => mkItem ((1 : Int) + (5 : Int) * (↑e : Int))) (List.length (gen (fun e => mkItem ((1 : Int) + (5 : Int) * (↑e : Int))) (List.length (Prod.fst (putF xs (Item.mk xI (Box.mk (Vec.mk xLX xLY) (Vec.mk xHX xHY))))))))) then (1 : Int) + (5 : Int) * (↑(List.length (gen (fun e => mkItem ((1 : Int) + (5 : Int) * (↑e : Int))) (List.length (Prod.fst (putF xs (Item.mk xI (Box.mk (Vec.mk xLX xLY) (Vec.mk xHX xHY)))))))) : Int) else (-1 : Int)) < (0 : Int))) (Q (SV.bool false) [(false, Blk.vec Ty.item xs)]) (ifB ((bif same (gen (fun e => mkItem ((1 : Int) + (5 : Int) * (↑e : Int))) (List.length (Prod.fst (putF xs (Item.mk xI (Box.mk (Vec.mk xLX xLY) (Vec.mk xHX xHY))))))) (gen (fun e => mkItem ((1 : Int) + (5 : Int) * (↑e : Int))) (List.length (gen (fun e => mkItem ((1 : Int) + (5 : Int) * (↑e : Int))) (List.length (Prod.fst (putF xs (Item.mk xI (Box.mk (Vec.mk xLX xLY) (Vec.mk xHX xHY))))))))) then (1 : Int) + (5 : Int) * (↑(List.length (gen (fun e => mkItem ((1 : Int) + (5 : Int) * (↑e : Int))) (List.length (Prod.fst (putF xs (Item.mk xI (Box.mk (Vec.mk xLX xLY) (Vec.mk xHX xHY)))))))) : Int) else (-1 : Int)) != (1 : Int) + (5 : Int) * (↑(List.length (Prod.fst (putF xs (Item.mk xI (Box.mk (Vec.mk xLX xLY) (Vec.mk xHX xHY)))))) : Int)) (Q (SV.bool false) [(false, Blk.vec Ty.item xs)]) (List.length xs ≤ (1048576 : Nat) ∧ List.length xs ≤ (1048576 : Nat) ∧ List.length (Prod.fst (putF xs (Item.mk xI (Box.mk (Vec.mk xLX xLY) (Vec.mk xHX xHY))))) ≤ (4611686018427387904 : Nat) ∧ ifB (!same (Prod.fst (putF xs (Item.mk xI (Box.mk (Vec.mk xLX xLY) (Vec.mk xHX xHY))))) (Prod.fst (putF xs (Item.mk xI (Box.mk (Vec.mk xLX xLY) (Vec.mk xHX xHY)))))) (Q (SV.bool false) [(false, Blk.vec Ty.item xs)]) (ifB (!Prod.snd (putF xs (Item.mk xI (Box.mk (Vec.mk xLX xLY) (Vec.mk xHX xHY)))) == Prod.snd (putF xs (Item.mk xI (Box.mk (Vec.mk xLX xLY) (Vec.mk xHX xHY))))) (Q (SV.bool false) [(false, Blk.vec Ty.item xs)]) ((List.length (gen (fun e => mkItem ((1 : Int) + (5 : Int) * (↑e : Int))) (List.length (Prod.fst (putF xs (Item.mk xI (Box.mk (Vec.mk xLX xLY) (Vec.mk xHX xHY))))))) ≤ (1048576 : Nat) ∧ (0 : Int) ≤ (1 : Int) ∧ (1 : Int) ≤ (1000000000000 : Int)) ∧ ifB (decide ((bif same (gen (fun e => mkItem ((1 : Int) + (5 : Int) * (↑e : Int))) (List.length (Prod.fst (putF xs (Item.mk xI (Box.mk (Vec.mk xLX xLY) (Vec.mk xHX xHY))))))) (gen (fun e => mkItem ((1 : Int) + (5 : Int) * (↑e : Int))) (List.length (gen (fun e => mkItem ((1 : Int) + (5 : Int) * (↑e : Int))) (List.length (Prod.fst (putF xs (Item.mk xI (Box.mk (Vec.mk xLX xLY) (Vec.mk xHX xHY))))))))) then (1 : Int) + (5 : Int) * (↑(List.length (gen (fun e => mkItem ((1 : Int) + (5 : Int) * (↑e : Int))) (List.length (Prod.fst (putF xs (Item.mk xI (Box.mk (Vec.mk xLX xLY) (Vec.mk xHX xHY)))))))) : Int) else (-1 : Int)) < (0 : Int))) (Q (SV.bool false) [(false, Blk.vec Ty.item xs)]) (ifB ((bif same (gen (fun e => mkItem ((1 : Int) + (5 : Int) * (↑e : Int))) (List.length (Prod.fst (putF xs (Item.mk xI (Box.mk (Vec.mk xLX xLY) (Vec.mk xHX xHY))))))) (gen (fun e => mkItem ((1 : Int) + (5 : Int) * (↑e : Int))) (List.length (gen (fun e => mkItem ((1 : Int) + (5 : Int) * (↑e : Int))) (List.length (Prod.fst (putF xs (Item.mk xI (Box.mk (Vec.mk xLX xLY) (Vec.mk xHX xHY))))))))) then (1 : Int) + (5 : Int) * (↑(List.length (gen (fun e => mkItem ((1 : Int) + (5 : Int) * (↑e : Int))) (List.length (Prod.fst (putF xs (Item.mk xI (Box.mk (Vec.mk xLX xLY) (Vec.mk xHX xHY)))))))) : Int) else (-1 : Int)) != (1 : Int) + (5 : Int) * (↑(List.length (Prod.fst (putF xs (Item.mk xI (Box.mk (Vec.mk xLX xLY) (Vec.mk xHX xHY)))))) : Int)) (Q (SV.bool false) [(false, Blk.vec Ty.item xs)]) (Q (SV.bool true) [(false, Blk.vec Ty.item xs)]))))))))))))) := by kernel_rfl

theorem ok_lawExactBroadPut : FsOk Try.prog 8 fs_lawExactBroadPut := fsOk_of tt_ok (tabFs_cons ok_szBroad (tabFs_cons ok_lawsToBroad (tabFs_cons ok_lawsToItem (tabFs_cons ok_specBroadPut (tabFs_cons ok_implBroadPut (tabFs_cons ok_lawsEqBroad (tabFs_cons ok_lawsMarkBroad (tabFs_cons ok_lawsHeldBroad tabFs_nil)))))))) mixed Try.func8 (by kernel_rfl) (by kernel_rfl) (by
    intro args LL p r HH h hp
    unfold fs_lawExactBroadPut at h
    dsimp only at h
    split at h
    case h_2 => cases h
    rename_i xI xLX xLY xHX xHY xs
    simp only [Option.some.injEq, Prod.mk.injEq] at h
    obtain ⟨rfl, rfl, rfl⟩ := h
    refine ⟨by simp [Form, stays], L0, ?_⟩
    rw [vc_lawExactBroadPut]
    try dsimp only
    have hb := (hp _ rfl).1
    refine ifB_of (fun c => ⟨rfl, rfl⟩) (fun c => ?_)
    have hl := szLeft_le c hb
    have hg := length_putF2 (xs := xs) (x := ⟨xI, ⟨⟨xLX, xLY⟩, ⟨xHX, xHY⟩⟩⟩)

    simp only [same_self, length_gen, Bool.not_true, beq_self_eq_true, cond_true, bne_self_eq_false, ifB]
    repeat' (first | refine pre_of ?_ (fun _ => ?_) | refine ifB_of (fun c => ?_) (fun c => ?_) | fail)
    all_goals first
      | omega
      | trivial
      | (rename_i c; have c := of_decide_eq_true c; omega))

end Go.Proofs.Ytgdpaijphaeimaa.Sym
