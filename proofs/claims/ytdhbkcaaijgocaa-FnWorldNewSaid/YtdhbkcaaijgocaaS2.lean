/-
  The groups that are awake, as the program finds them.
  No condition.
-/
import Derived.Test.YtdhbkcaaijgocaaS1
namespace Go.Proofs.Ytdhbkcaaijgocaa.Sym
open Go
set_option linter.unusedVariables false
set_option linter.unusedSimpArgs false
set_option maxRecDepth 100000
noncomputable section

def awkF (xs : List Body) : Nat → List Bool
  | 0 => []
  | i + 1 => bif freeB xs i && !((Ty.ix .body xs i).Quiet == 8) then (awkF xs i ++ bif Grp.lead (freeB xs) (cmX xs) i then [false] else []).set (numX xs (cmX xs i)) true else awkF xs i ++ bif Grp.lead (freeB xs) (cmX xs) i then [false] else []
def awakeOf (xs : List Body) : List Bool := bif bodiesOk xs then awkF xs xs.length else []
theorem length_awkF (xs : List Body) : ∀ i, (awkF xs i).length = numX xs i
  | 0 => rfl
  | i + 1 => by
    have h : (awkF xs i ++ bif Grp.lead (freeB xs) (cmX xs) i then [false] else []).length = numX xs (i + 1) := by
      rw [List.length_append, length_awkF xs i, num_succ]
      cases Grp.lead (freeB xs) (cmX xs) i <;> rfl
    unfold awkF
    cases freeB xs i && !((Ty.ix .body xs i).Quiet == 8)
    · exact h
    · simp only [cond_true, List.length_set]
      exact h
theorem gOf_all {xs : List Body} {i : Nat} (h : i < xs.length) : gOf xs xs.length i = bif freeB xs i then (numX xs (cmX xs i) : Int) else -1 := by
  have := cmX_le xs i
  unfold gOf
  rw [decide_eq_true (show cmX xs i < xs.length by omega), Bool.and_true]
/-- Is it the first of its part? -/
theorem lead_len {xs : List Body} {i : Nat} (h : i < xs.length) : (gOf xs xs.length i == (numX xs i : Int)) = Grp.lead (freeB xs) (cmX xs) i := by
  rw [gOf_all h]
  cases f : freeB xs i with
  | false =>
    have : Grp.lead (freeB xs) (cmX xs) i = false := by simp [Grp.lead, f]
    rw [this]
    simp only [cond_false]
    exact beq_eq_false_iff_ne.2 (by omega)
  | true =>
    simp only [cond_true]
    have hle := cmX_le xs i
    by_cases e : cmX xs i = i
    · rw [lead_iff.2 ⟨f, e⟩, e]
      exact beq_self_eq_true _
    · have h1 : Grp.lead (freeB xs) (cmX xs) i = false := by simp [Grp.lead, f, e]
      have := Grp.num_lt (b := i) (lead_cm f) (by omega)
      rw [h1]
      unfold numX
      exact beq_eq_false_iff_ne.2 (by omega)
theorem num_in {xs : List Body} {i : Nat} (f : freeB xs i = true) : numX xs (cmX xs i) < numX xs (i + 1) := Grp.num_lt (lead_cm f) (Nat.lt_succ_of_le (cmX_le xs i))
theorem awk_fixed {xs : List Body} {i : Nat} (f : freeB xs i = false) : awkF xs (i + 1) = awkF xs i := by
  rw [awkF]
  simp [f, Grp.lead]
theorem awk_free {xs : List Body} {i : Nat} {l q : Bool} (f : freeB xs i = true) (hl : Grp.lead (freeB xs) (cmX xs) i = l) (hq : (!((Ty.ix .body xs i).Quiet == 8)) = q) :
    awkF xs (i + 1) = bif q then (awkF xs i ++ bif l then [false] else []).set (numX xs (cmX xs i)) true else awkF xs i ++ bif l then [false] else [] := by
  rw [awkF, f, hl, hq]
  rfl
def LSawk  : LS where
  S := List Body × Unit × List Bool × List Int × Int × Int
  live := [(0, [none]), (3, [some .bool]), (7, [some .int]), (8, [none]), (9, [none])]
  shape := fun s => ([.vec 0, .vec 1, .vec 2, .int .i64 s.2.2.2.2.1, .int .i64 s.2.2.2.2.2], [(false, .vec .body s.1), (true, .vec .bool s.2.2.1), (true, .vec .int s.2.2.2.1)])
  get := fun v h => match v, h with
    | [.vec 0, .vec 1, .vec 2, .int .i64 n, .int .i64 i], [(false, .vec .body xs), (true, .vec .bool out), (true, .vec .int gs)] => some (xs, (), out, gs, n, i)
    | _, _ => none
  inv := fun s0 s => Holds (s.1 = s0.1 ∧ s.2.2.2.1 = s0.2.2.2.1 ∧ s.2.2.2.2.1 = s0.2.2.2.1.length ∧ 0 ≤ s.2.2.2.2.2 ∧ s.2.2.2.2.2 ≤ s0.2.2.2.1.length ∧ s.2.2.1 = awkF s0.1 s.2.2.2.2.2.toNat)
  mu := fun s => (s.2.2.2.2.1 - s.2.2.2.2.2).toNat
  ok := by
    intro v h s hg
    try dsimp only at hg
    split at hg <;> cases hg
    rfl

def L_awk : Loops := fun n => match n with
  | 3 => some LSawk
  | _ => none
noncomputable def fs_implAwake : Fs := ⟨[], fun args H => match args, H with
  | [.vec 0], [(false, .vec .body xs)] => some ((some (xs.length ≤ 1048576)), .vec 1, [(false, .vec .body xs), (true, .vec .bool (awakeOf xs))])
  | _, _ => none⟩

theorem vc_implAwake (xs : List Body) (Q : SV → List Ent → Prop) :
    fnVC tt (look [(25, fs_implGroups), (27, fs_bodySleeps)]) (L_awk) Try.f26 [.vec 0] [(false, .vec .body xs)] Q =
    (let A1_ := (↑(List.length (groupsOf xs)) : Int); List.length xs ≤ (1048576 : Nat) ∧ Holds (xs = xs ∧ groupsOf xs = groupsOf xs ∧ A1_ = A1_ ∧ (0 : Int) ≤ (0 : Int) ∧ (0 : Int) ≤ A1_ ∧ [] = awkF xs (Int.toNat (0 : Int))) ∧ ∀ (x : List Body × Unit × List Bool × List Int × Int × Int), Holds (Prod.fst x = xs ∧ Prod.fst (Prod.snd (Prod.snd (Prod.snd x))) = groupsOf xs ∧ Prod.fst (Prod.snd (Prod.snd (Prod.snd (Prod.snd x)))) = A1_ ∧ (0 : Int) ≤ Prod.snd (Prod.snd (Prod.snd (Prod.snd (Prod.snd x)))) ∧ Prod.snd (Prod.snd (Prod.snd (Prod.snd (Prod.snd x)))) ≤ A1_ ∧ Prod.fst (Prod.snd (Prod.snd x)) = awkF xs (Int.toNat (Prod.snd (Prod.snd (Prod.snd (Prod.snd (Prod.snd x))))))) → ifB (decide (Prod.snd (Prod.snd (Prod.snd (Prod.snd (Prod.snd x)))) < Prod.fst (Prod.snd (Prod.snd (Prod.snd (Prod.snd x)))))) (((0 : Int) ≤ Prod.snd (Prod.snd (Prod.snd (Prod.snd (Prod.snd x)))) ∧ Prod.snd (Prod.snd (Prod.snd (Prod.snd (Prod.snd x)))) < (↑(List.length (Prod.fst (Prod.snd (Prod.snd (Prod.snd x))))) : Int)) ∧ ifB (Ty.ix Ty.int (Prod.fst (Prod.snd (Prod.snd (Prod.snd x)))) (Int.toNat (Prod.snd (Prod.snd (Prod.snd (Prod.snd (Prod.snd x)))))) == (↑(List.length (Prod.fst (Prod.snd (Prod.snd x)))) : Int)) ((List.length (Prod.fst (Prod.snd (Prod.snd x))) + List.length [false]) * (1 : Nat) ≤ room ∧ ifB (decide (Ty.ix Ty.int (Prod.fst (Prod.snd (Prod.snd (Prod.snd x)))) (Int.toNat (Prod.snd (Prod.snd (Prod.snd (Prod.snd (Prod.snd x)))))) ≥ (0 : Int))) (((0 : Int) ≤ Prod.snd (Prod.snd (Prod.snd (Prod.snd (Prod.snd x)))) ∧ Prod.snd (Prod.snd (Prod.snd (Prod.snd (Prod.snd x)))) < (↑(List.length (Prod.fst x)) : Int)) ∧ ifB (!Body.Quiet (Ty.ix Ty.body (Prod.fst x) (Int.toNat (Prod.snd (Prod.snd (Prod.snd (Prod.snd (Prod.snd x))))))) == (8 : Int)) (((0 : Int) ≤ Ty.ix Ty.int (Prod.fst (Prod.snd (Prod.snd (Prod.snd x)))) (Int.toNat (Prod.snd (Prod.snd (Prod.snd (Prod.snd (Prod.snd x)))))) ∧ Ty.ix Ty.int (Prod.fst (Prod.snd (Prod.snd (Prod.snd x)))) (Int.toNat (Prod.snd (Prod.snd (Prod.snd (Prod.snd (Prod.snd x)))))) < (↑(List.length (Prod.fst (Prod.snd (Prod.snd x)) ++ [false])) : Int)) ∧ Holds (Prod.fst x = xs ∧ Prod.fst (Prod.snd (Prod.snd (Prod.snd x))) = groupsOf xs ∧ Prod.fst (Prod.snd (Prod.snd (Prod.snd (Prod.snd x)))) = A1_ ∧ (0 : Int) ≤ IntKind.wrap IntKind.i64 (Prod.snd (Prod.snd (Prod.snd (Prod.snd (Prod.snd x)))) + (1 : Int)) ∧ IntKind.wrap IntKind.i64 (Prod.snd (Prod.snd (Prod.snd (Prod.snd (Prod.snd x)))) + (1 : Int)) ≤ A1_ ∧ List.set (Prod.fst (Prod.snd (Prod.snd x)) ++ [false]) (Int.toNat (Ty.ix Ty.int (Prod.fst (Prod.snd (Prod.snd (Prod.snd x)))) (Int.toNat (Prod.snd (Prod.snd (Prod.snd (Prod.snd (Prod.snd x)))))))) true = awkF xs (Int.toNat (IntKind.wrap IntKind.i64 (Prod.snd (Prod.snd (Prod.snd (Prod.snd (Prod.snd x)))) + (1 : Int))))) ∧ Int.toNat (Prod.fst (Prod.snd (Prod.snd (Prod.snd (Prod.snd x)))) - IntKind.wrap IntKind.i64 (Prod.snd (Prod.snd (Prod.snd (Prod.snd (Prod.snd x)))) + (1 : Int))) < Int.toNat (Prod.fst (Prod.snd (Prod.snd (Prod.snd (Prod.snd x)))) - Prod.snd (Prod.snd (Prod.snd (Prod.snd (Prod.snd x)))))) (Holds (Prod.fst x = xs ∧ Prod.fst (Prod.snd (Prod.snd (Prod.snd x))) = groupsOf xs ∧ Prod.fst (Prod.snd (Prod.snd (Prod.snd (Prod.snd x)))) = A1_ ∧ (0 : Int) ≤ IntKind.wrap IntKind.i64 (Prod.snd (Prod.snd (Prod.snd (Prod.snd (Prod.snd x)))) + (1 : Int)) ∧ IntKind.wrap IntKind.i64 (Prod.snd (Prod.snd (Prod.snd (Prod.snd (Prod.snd x)))) + (1 : Int)) ≤ A1_ ∧ Prod.fst (Prod.snd (Prod.snd x)) ++ [false] = awkF xs (Int.toNat (IntKind.wrap IntKind.i64 (Prod.snd (Prod.snd (Prod.snd (Prod.snd (Prod.snd x)))) + (1 : Int))))) ∧ Int.toNat (Prod.fst (Prod.snd (Prod.snd (Prod.snd (Prod.snd x)))) - IntKind.wrap IntKind.i64 (Prod.snd (Prod.snd (Prod.snd (Prod.snd (Prod.snd x)))) + (1 : Int))) < Int.toNat (Prod.fst (Prod.snd (Prod.snd (Prod.snd (Prod.snd x)))) - Prod.snd (Prod.snd (Prod.snd (Prod.snd (Prod.snd x))))))) (Holds (Prod.fst x = xs ∧ Prod.fst (Prod.snd (Prod.snd (Prod.snd x))) = groupsOf xs ∧ Prod.fst (Prod.snd (Prod.snd (Prod.snd (Prod.snd x)))) = A1_ ∧ (0 : Int) ≤ IntKind.wrap IntKind.i64 (Prod.snd (Prod.snd (Prod.snd (Prod.snd (Prod.snd x)))) + (1 : Int)) ∧ IntKind.wrap IntKind.i64 (Prod.snd (Prod.snd (Prod.snd (Prod.snd (Prod.snd x)))) + (1 : Int)) ≤ A1_ ∧ Prod.fst (Prod.snd (Prod.snd x)) ++ [false] = awkF xs (Int.toNat (IntKind.wrap IntKind.i64 (Prod.snd (Prod.snd (Prod.snd (Prod.snd (Prod.snd x)))) + (1 : Int))))) ∧ Int.toNat (Prod.fst (Prod.snd (Prod.snd (Prod.snd (Prod.snd x)))) - IntKind.wrap IntKind.i64 (Prod.snd (Prod.snd (Prod.snd (Prod.snd (Prod.snd x)))) + (1 : Int))) < Int.toNat (Prod.fst (Prod.snd (Prod.snd (Prod.snd (Prod.snd x)))) - Prod.snd (Prod.snd (Prod.snd (Prod.snd (Prod.snd x))))))) (ifB (decide (Ty.ix Ty.int (Prod.fst (Prod.snd (Prod.snd (Prod.snd x)))) (Int.toNat (Prod.snd (Prod.snd (Prod.snd (Prod.snd (Prod.snd x)))))) ≥ (0 : Int))) (((0 : Int) ≤ Prod.snd (Prod.snd (Prod.snd (Prod.snd (Prod.snd x)))) ∧ Prod.snd (Prod.snd (Prod.snd (Prod.snd (Prod.snd x)))) < (↑(List.length (Prod.fst x)) : Int)) ∧ ifB (!Body.Quiet (Ty.ix Ty.body (Prod.fst x) (Int.toNat (Prod.snd (Prod.snd (Prod.snd (Prod.snd (Prod.snd x))))))) == (8 : Int)) (((0 : Int) ≤ Ty.ix Ty.int (Prod.fst (Prod.snd (Prod.snd (Prod.snd x)))) (Int.toNat (Prod.snd (Prod.snd (Prod.snd (Prod.snd (Prod.snd x)))))) ∧ Ty.ix Ty.int (Prod.fst (Prod.snd (Prod.snd (Prod.snd x)))) (Int.toNat (Prod.snd (Prod.snd (Prod.snd (Prod.snd (Prod.snd x)))))) < (↑(List.length (Prod.fst (Prod.snd (Prod.snd x)))) : Int)) ∧ Holds (Prod.fst x = xs ∧ Prod.fst (Prod.snd (Prod.snd (Prod.snd x))) = groupsOf xs ∧ Prod.fst (Prod.snd (Prod.snd (Prod.snd (Prod.snd x)))) = A1_ ∧ (0 : Int) ≤ IntKind.wrap IntKind.i64 (Prod.snd (Prod.snd (Prod.snd (Prod.snd (Prod.snd x)))) + (1 : Int)) ∧ IntKind.wrap IntKind.i64 (Prod.snd (Prod.snd (Prod.snd (Prod.snd (Prod.snd x)))) + (1 : Int)) ≤ A1_ ∧ List.set (Prod.fst (Prod.snd (Prod.snd x))) (Int.toNat (Ty.ix Ty.int (Prod.fst (Prod.snd (Prod.snd (Prod.snd x)))) (Int.toNat (Prod.snd (Prod.snd (Prod.snd (Prod.snd (Prod.snd x)))))))) true = awkF xs (Int.toNat (IntKind.wrap IntKind.i64 (Prod.snd (Prod.snd (Prod.snd (Prod.snd (Prod.snd x)))) + (1 : Int))))) ∧ Int.toNat (Prod.fst (Prod.snd (Prod.snd (Prod.snd (Prod.snd x)))) - IntKind.wrap IntKind.i64 (Prod.snd (Prod.snd (Prod.snd (Prod.snd (Prod.snd x)))) + (1 : Int))) < Int.toNat (Prod.fst (Prod.snd (Prod.snd (Prod.snd (Prod.snd x)))) - Prod.snd (Prod.snd (Prod.snd (Prod.snd (Prod.snd x)))))) (Holds (Prod.fst x = xs ∧ Prod.fst (Prod.snd (Prod.snd (Prod.snd x))) = groupsOf xs ∧ Prod.fst (Prod.snd (Prod.snd (Prod.snd (Prod.snd x)))) = A1_ ∧ (0 : Int) ≤ IntKind.wrap IntKind.i64 (Prod.snd (Prod.snd (Prod.snd (Prod.snd (Prod.snd x)))) + (1 : Int)) ∧ IntKind.wrap IntKind.i64 (Prod.snd (Prod.snd (Prod.snd (Prod.snd (Prod.snd x)))) + (1 : Int)) ≤ A1_ ∧ Prod.fst (Prod.snd (Prod.snd x)) = awkF xs (Int.toNat (IntKind.wrap IntKind.i64 (Prod.snd (Prod.snd (Prod.snd (Prod.snd (Prod.snd x)))) + (1 : Int))))) ∧ Int.toNat (Prod.fst (Prod.snd (Prod.snd (Prod.snd (Prod.snd x)))) - IntKind.wrap IntKind.i64 (Prod.snd (Prod.snd (Prod.snd (Prod.snd (Prod.snd x)))) + (1 : Int))) < Int.toNat (Prod.fst (Prod.snd (Prod.snd (Prod.snd (Prod.snd x)))) - Prod.snd (Prod.snd (Prod.snd (Prod.snd (Prod.snd x))))))) (Holds (Prod.fst x = xs ∧ Prod.fst (Prod.snd (Prod.snd (Prod.snd x))) = groupsOf xs ∧ Prod.fst (Prod.snd (Prod.snd (Prod.snd (Prod.snd x)))) = A1_ ∧ (0 : Int) ≤ IntKind.wrap IntKind.i64 (Prod.snd (Prod.snd (Prod.snd (Prod.snd (Prod.snd x)))) + (1 : Int)) ∧ IntKind.wrap IntKind.i64 (Prod.snd (Prod.snd (Prod.snd (Prod.snd (Prod.snd x)))) + (1 : Int)) ≤ A1_ ∧ Prod.fst (Prod.snd (Prod.snd x)) = awkF xs (Int.toNat (IntKind.wrap IntKind.i64 (Prod.snd (Prod.snd (Prod.snd (Prod.snd (Prod.snd x)))) + (1 : Int))))) ∧ Int.toNat (Prod.fst (Prod.snd (Prod.snd (Prod.snd (Prod.snd x)))) - IntKind.wrap IntKind.i64 (Prod.snd (Prod.snd (Prod.snd (Prod.snd (Prod.snd x)))) + (1 : Int))) < Int.toNat (Prod.fst (Prod.snd (Prod.snd (Prod.snd (Prod.snd x)))) - Prod.snd (Prod.snd (Prod.snd (Prod.snd (Prod.snd x)))))))) (Q (SV.vec (1 : Nat)) [(false, Blk.vec Ty.body (Prod.fst x)), (true, Blk.vec Ty.bool (Prod.fst (Prod.snd (Prod.snd x))))])) := by kernel_rfl

theorem ok_implAwake : FsOk Try.prog 26 fs_implAwake := fsOk_of tt_ok (tabFs_cons ok_implGroups (tabFs_cons ok_bodySleeps tabFs_nil)) mixed Try.func26 (by kernel_rfl) (by kernel_rfl) (by
    intro args LL p r HH h hp
    unfold fs_implAwake at h
    dsimp only at h
    split at h
    case h_2 => cases h
    rename_i xs
    simp only [Option.some.injEq, Prod.mk.injEq] at h
    obtain ⟨rfl, rfl, rfl⟩ := h
    refine ⟨by simp [Form, stays], (L_awk), ?_⟩
    rw [vc_implAwake]
    try dsimp only
    have hb := hp _ rfl
    refine ⟨hb, ⟨(by trivial), (by trivial), (by trivial), by omega, by omega, rfl⟩, ?_⟩
    rintro ⟨xs', u, out, gs, n, i⟩ ⟨h⟩
    dsimp only at h ⊢
    obtain ⟨rfl, rfl, rfl, i0, i1, rfl⟩ := h
    cases hok : bodiesOk xs' with
    | false =>
      have e : groupsOf xs' = [] := by simp [groupsOf, hok]
      have e2 : (groupsOf xs').length = 0 := by rw [e]; rfl
      refine ifB_of (fun c => ?_) (fun c => ?_)
      · have c := of_decide_eq_true c
        omega
      · rw [show i = 0 by omega]
        simp [awakeOf, hok, awkF]
    | true =>
      have e : groupsOf xs' = groupsX xs' := by simp [groupsOf, hok]
      have e2 : (groupsX xs').length = xs'.length := by simp only [groupsX, length_gen]
      rw [e] at i1 ⊢
      refine ifB_of (fun c => ?_) (fun c => ?_)
      · have c := of_decide_eq_true c
        have hi : i.toNat < xs'.length := by omega
        have e1 : (i + 1).toNat = i.toNat + 1 := by omega
        have w : IntKind.i64.wrap (i + 1) = i + 1 := wrap_small (by omega) (by omega)
        have hg : Ty.ix .int (groupsX xs') i.toNat = gOf xs' xs'.length i.toNat := ix_gen (T := .int) hi
        have hle := length_awkF xs' i.toNat
        have hll := lead_len hi
        have hga := gOf_all hi
        have hns := num_succ xs' i.toNat
        have hnl := num_le xs' i.toNat
        rw [w, e1, hg, hle]
        cases f : freeB xs' i.toNat with
        | false =>
          rw [f] at hga
          have hga : gOf xs' xs'.length i.toNat = -1 := hga
          rw [hga]
          have fin : awkF xs' i.toNat = awkF xs' (i.toNat + 1) := (awk_fixed f).symm
          refine ⟨⟨i0, by omega⟩, ifB_of (fun d => ?_) (fun d => ifB_of (fun d2 => ?_) (fun d2 => ⟨⟨(by trivial), (by trivial), (by trivial), by omega, by omega, fin⟩, by omega⟩))⟩
          · have d : (-1 : Int) = (numX xs' i.toNat : Int) := eq_of_beq d
            omega
          · exact absurd d2 (by decide)
        | true =>
          rw [f] at hga
          have hga : gOf xs' xs'.length i.toNat = (numX xs' (cmX xs' i.toNat) : Int) := hga
          have hin := num_in f
          rw [hga] at hll ⊢
          have hpos : ¬ decide ((numX xs' (cmX xs' i.toNat) : Int) ≥ 0) = false := by
            rw [decide_eq_true (by omega)]
            simp
          refine ⟨⟨i0, by omega⟩, ifB_of (fun d => ⟨by simp only [room, List.length_singleton]; omega, ifB_of (fun _ => ⟨⟨i0, by omega⟩, ifB_of (fun d3 => ⟨⟨by omega, ?_⟩, ⟨(by trivial), (by trivial), (by trivial), by omega, by omega, ?_⟩, by omega⟩) (fun d3 => ⟨⟨(by trivial), (by trivial), (by trivial), by omega, by omega, ?_⟩, by omega⟩)⟩) (fun d2 => absurd d2 hpos)⟩)
            (fun d => ifB_of (fun _ => ⟨⟨i0, by omega⟩, ifB_of (fun d3 => ⟨⟨by omega, ?_⟩, ⟨(by trivial), (by trivial), (by trivial), by omega, by omega, ?_⟩, by omega⟩) (fun d3 => ⟨⟨(by trivial), (by trivial), (by trivial), by omega, by omega, ?_⟩, by omega⟩)⟩) (fun d2 => absurd d2 hpos))⟩
          all_goals
            have d : Grp.lead (freeB xs') (cmX xs') i.toNat = _ := hll.symm.trans d
          · rw [d] at hns
            simp only [cond_true] at hns
            exact Int.ofNat_lt.2 (by rw [List.length_append, hle, List.length_singleton]; omega)
          · rw [awk_free f d d3, Int.toNat_natCast]
            rfl
          · rw [awk_free f d d3]
            rfl
          · rw [d] at hns
            simp only [cond_false] at hns
            exact Int.ofNat_lt.2 (by omega)
          · rw [awk_free f d d3, Int.toNat_natCast]
            simp only [cond_true, cond_false, List.append_nil]
          · rw [awk_free f d d3]
            simp only [cond_true, cond_false, List.append_nil]
      · have c := of_decide_eq_false c
        rw [show i.toNat = xs'.length by omega]
        simp [awakeOf, hok])

end
end Go.Proofs.Ytdhbkcaaijgocaa.Sym
