/-
  The groups of bodies, as the program finds them.
  No condition.
-/
import Derived.Test.YtdhbkcaaijgocaaS0
namespace Go.Proofs.Ytdhbkcaaijgocaa.Sym
open Go
set_option linter.unusedVariables false
set_option linter.unusedSimpArgs false
set_option maxRecDepth 100000
noncomputable section

noncomputable def fs_implQuiet : Fs := ⟨[], fun args H => match args, H with
  | [.agg [.int .i64 vX, .int .i64 vY]], [] => some (none, .bool (isIn (Vec.mk vX vY).X (-8) 8 && isIn (Vec.mk vX vY).Y (-8) 8), [])
  | _, _ => none⟩

theorem vc_implQuiet (vX : Int) (vY : Int) (Q : SV → List Ent → Prop) :
    fnVC tt (look [(12, fs_in_)]) L0 Try.f34 [.agg [.int .i64 vX, .int .i64 vY]] [] Q =
    (ifB (isIn vX (-8 : Int) (8 : Int)) (Q (SV.bool (isIn vY (-8 : Int) (8 : Int))) []) (Q (SV.bool false) [])) := by kernel_rfl

theorem ok_implQuiet : FsOk Try.prog 34 fs_implQuiet := fsOk_of tt_ok (tabFs_cons ok_in_ tabFs_nil) mixed Try.func34 (by kernel_rfl) (by kernel_rfl) (by
    intro args LL p r HH h hp
    unfold fs_implQuiet at h
    dsimp only at h
    split at h
    case h_2 => cases h
    rename_i vX vY
    simp only [Option.some.injEq, Prod.mk.injEq] at h
    obtain ⟨rfl, rfl, rfl⟩ := h
    refine ⟨by simp [Form, stays], L0, ?_⟩
    rw [vc_implQuiet]
    try dsimp only
    refine ifB_of (fun c => ?_) (fun c => ?_)
    · rw [c]; exact ⟨rfl, rfl⟩
    · rw [c]; exact ⟨rfl, rfl⟩)

theorem contact_ok0 {xs : List Body} {i : Nat} (h : i < (contactsF xs).length) : 0 ≤ (Ty.ix .contact (contactsF xs) i).A ∧ (Ty.ix .contact (contactsF xs) i).A < xs.length ∧ 0 ≤ (Ty.ix .contact (contactsF xs) i).B ∧ (Ty.ix .contact (contactsF xs) i).B < xs.length ∧ (Ty.ix .contact (contactsF xs) i) ∈ contactsF xs := by
  have hm : Ty.ix .contact (contactsF xs) i ∈ contactsF xs := List.mem_of_getElem? (ix_get (T := .contact) h)
  obtain ⟨a, b, h1, h2, h3, _⟩ := mem_contactsF hm
  refine ⟨?_, ?_, ?_, ?_, hm⟩ <;> rw [h3] <;> dsimp only <;> omega
def groupsX (xs : List Body) : List Int := gen (fun j => gOf xs xs.length j) xs.length
def groupsOf (xs : List Body) : List Int := bif bodiesOk xs then groupsX xs else []
theorem num_le (xs : List Body) : ∀ i, numX xs i ≤ i
  | 0 => Nat.le_refl _
  | i + 1 => by
    have := num_le xs i
    rw [num_succ]
    cases Grp.lead (freeB xs) (cmX xs) i <;> simp only [cond_true, cond_false] <;> omega
theorem groups_done {xs : List Body} {gs : List Int} (h : GInv xs xs.length gs) : gs = groupsX xs := by
  apply List.ext_getElem?
  intro j
  by_cases hj : j < xs.length
  · have h1 : gs[j]? = some (Ty.ix .int gs j) := ix_get (T := .int) (by rw [h.1]; exact hj)
    rw [h1, show Ty.ix .int gs j = gOf xs xs.length j from h.2 j hj]
    simp [groupsX, gen, hj]
  · rw [List.getElem?_eq_none (by rw [h.1]; omega), List.getElem?_eq_none (by simp only [groupsX, length_gen]; omega)]
def LSgr1  : LS where
  S := List Body × Unit × List Int × Int × Int
  live := [(0, [none]), (3, [some .int]), (21, [none]), (22, [none])]
  shape := fun s => ([.vec 0, .vec 1, .int .i64 s.2.2.2.1, .int .i64 s.2.2.2.2], [(false, .vec .body s.1), (true, .vec .int s.2.2.1)])
  get := fun v h => match v, h with
    | [.vec 0, .vec 1, .int .i64 n, .int .i64 i], [(false, .vec .body xs), (true, .vec .int gs)] => some (xs, (), gs, n, i)
    | _, _ => none
  inv := fun s0 s => Holds (s.1 = s0.1 ∧ s.2.2.2.1 = s0.1.length ∧ s.2.2.1.length = s0.1.length ∧ 0 ≤ s.2.2.2.2 ∧ s.2.2.2.2 ≤ s0.1.length ∧ (∀ j, j < s.2.2.2.2.toNat → gi s.2.2.1 j = -1))
  mu := fun s => ((s.1.length : Int) - s.2.2.2.2).toNat
  ok := by
    intro v h s hg
    try dsimp only at hg
    split at hg <;> cases hg
    rfl

def LSgr2  : LS where
  S := List Body × Unit × List Int × List Contact × Int × Unit × Int × Int
  live := [(0, [none]), (3, [some .int]), (5, [some .contact]), (6, [none]), (31, [none]), (32, [none]), (33, [none])]
  shape := fun s => ([.vec 0, .vec 1, .vec 2, .int .i64 s.2.2.2.2.1, .vec 0, .int .i64 s.2.2.2.2.2.2.1, .int .i64 s.2.2.2.2.2.2.2], [(false, .vec .body s.1), (true, .vec .int s.2.2.1), (true, .vec .contact s.2.2.2.1)])
  get := fun v h => match v, h with
    | [.vec 0, .vec 1, .vec 2, .int .i64 g, .vec 0, .int .i64 n, .int .i64 i], [(false, .vec .body xs), (true, .vec .int gs), (true, .vec .contact cs)] => some (xs, (), gs, cs, g, (), n, i)
    | _, _ => none
  inv := fun s0 s => Holds (s.1 = s0.1 ∧ s.2.2.2.1 = s0.2.2.2.1 ∧ s.2.2.2.2.2.2.1 = s0.1.length ∧ 0 ≤ s.2.2.2.2.2.2.2 ∧ s.2.2.2.2.2.2.2 ≤ s0.1.length ∧ s.2.2.2.2.1 = numX s0.1 s.2.2.2.2.2.2.2.toNat ∧ GInv s0.1 s.2.2.2.2.2.2.2.toNat s.2.2.1)
  mu := fun s => ((s.1.length : Int) - s.2.2.2.2.2.2.2).toNat
  ok := by
    intro v h s hg
    try dsimp only at hg
    split at hg <;> cases hg
    rfl

def LSgr3  : LS where
  S := List Body × Unit × List Int × List Contact × Int × Bool × Unit × Int × Int
  live := [(0, [none]), (3, [some .int]), (5, [some .contact]), (6, [none]), (9, [none]), (31, [none]), (32, [none]), (33, [none])]
  shape := fun s => ([.vec 0, .vec 1, .vec 2, .int .i64 s.2.2.2.2.1, .bool s.2.2.2.2.2.1, .vec 0, .int .i64 s.2.2.2.2.2.2.2.1, .int .i64 s.2.2.2.2.2.2.2.2], [(false, .vec .body s.1), (true, .vec .int s.2.2.1), (true, .vec .contact s.2.2.2.1)])
  get := fun v h => match v, h with
    | [.vec 0, .vec 1, .vec 2, .int .i64 g, .bool ch, .vec 0, .int .i64 n, .int .i64 i], [(false, .vec .body xs), (true, .vec .int gs), (true, .vec .contact cs)] => some (xs, (), gs, cs, g, ch, (), n, i)
    | _, _ => none
  inv := fun s0 s => Holds (s.1 = s0.1 ∧ s.2.2.2.1 = s0.2.2.2.1 ∧ s.2.2.2.2.2.2.2.1 = s0.2.2.2.2.2.2.2.1 ∧ s.2.2.2.2.1 = s0.2.2.2.2.1 ∧ s.2.2.2.2.2.2.2.2 = s0.2.2.2.2.2.2.2.2 ∧ FInv s0.1 s0.2.2.2.2.2.2.2.2.toNat s.2.2.1 ∧ (s.2.2.2.2.2.1 = false → ∀ e, e ∈ edgesX s0.1 → (gi s.2.2.1 e.1 = s0.2.2.2.2.1 ↔ gi s.2.2.1 e.2 = s0.2.2.2.2.1)))
  mu := fun s => 2 * cntG s.1 s.2.2.2.2.2.2.2.2.toNat s.2.2.1 + (bif s.2.2.2.2.2.1 then 1 else 0)
  ok := by
    intro v h s hg
    try dsimp only at hg
    split at hg <;> cases hg
    rfl

def LSgr4  : LS where
  S := List Body × Unit × List Int × List Contact × Int × Bool × Unit × Int × Int × Unit × Int × Int
  live := [(0, [none]), (3, [some .int]), (5, [some .contact]), (6, [none]), (9, [none]), (31, [none]), (32, [none]), (33, [none]), (52, [none]), (53, [none]), (54, [none])]
  shape := fun s => ([.vec 0, .vec 1, .vec 2, .int .i64 s.2.2.2.2.1, .bool s.2.2.2.2.2.1, .vec 0, .int .i64 s.2.2.2.2.2.2.2.1, .int .i64 s.2.2.2.2.2.2.2.2.1, .vec 2, .int .i64 s.2.2.2.2.2.2.2.2.2.2.1, .int .i64 s.2.2.2.2.2.2.2.2.2.2.2], [(false, .vec .body s.1), (true, .vec .int s.2.2.1), (true, .vec .contact s.2.2.2.1)])
  get := fun v h => match v, h with
    | [.vec 0, .vec 1, .vec 2, .int .i64 g, .bool ch, .vec 0, .int .i64 n, .int .i64 i, .vec 2, .int .i64 m, .int .i64 k], [(false, .vec .body xs), (true, .vec .int gs), (true, .vec .contact cs)] => some (xs, (), gs, cs, g, ch, (), n, i, (), m, k)
    | _, _ => none
  inv := fun s0 s => Holds (s.1 = s0.1 ∧ s.2.2.2.1 = s0.2.2.2.1 ∧ s.2.2.2.2.2.2.2.1 = s0.2.2.2.2.2.2.2.1 ∧ s.2.2.2.2.1 = s0.2.2.2.2.1 ∧ s.2.2.2.2.2.2.2.2.1 = s0.2.2.2.2.2.2.2.2.1 ∧ s.2.2.2.2.2.2.2.2.2.2.1 = s0.2.2.2.1.length ∧ 0 ≤ s.2.2.2.2.2.2.2.2.2.2.2 ∧ s.2.2.2.2.2.2.2.2.2.2.2 ≤ s0.2.2.2.1.length ∧ FInv s0.1 s0.2.2.2.2.2.2.2.2.1.toNat s.2.2.1 ∧ (s.2.2.2.2.2.1 = true → cntG s0.1 s0.2.2.2.2.2.2.2.2.1.toNat s.2.2.1 < cntG s0.1 s0.2.2.2.2.2.2.2.2.1.toNat s0.2.2.1) ∧ (s.2.2.2.2.2.1 = false → s.2.2.1 = s0.2.2.1 ∧ ∀ j, j < s.2.2.2.2.2.2.2.2.2.2.2.toNat → freeB s0.1 (Ty.ix .contact s0.2.2.2.1 j).A.toNat = true → freeB s0.1 (Ty.ix .contact s0.2.2.2.1 j).B.toNat = true → (gi s.2.2.1 (Ty.ix .contact s0.2.2.2.1 j).A.toNat = s0.2.2.2.2.1 ↔ gi s.2.2.1 (Ty.ix .contact s0.2.2.2.1 j).B.toNat = s0.2.2.2.2.1)))
  mu := fun s => ((s.2.2.2.1.length : Int) - s.2.2.2.2.2.2.2.2.2.2.2).toNat
  ok := by
    intro v h s hg
    try dsimp only at hg
    split at hg <;> cases hg
    rfl

def L_groups : Loops := fun n => match n with
  | 5 => some LSgr1
  | 12 => some LSgr2
  | 17 => some LSgr3
  | 20 => some LSgr4
  | _ => none
noncomputable def fs_implGroups : Fs := ⟨[], fun args H => match args, H with
  | [.vec 0], [(false, .vec .body xs)] => some ((some (xs.length ≤ 1048576)), .vec 1, [(false, .vec .body xs), (true, .vec .int (groupsOf xs))])
  | _, _ => none⟩

theorem vc_implGroups (xs : List Body) (Q : SV → List Ent → Prop) :
    fnVC tt (look [(20, fs_implBodiesOk), (29, fs_implContacts), (40, fs_bodyFixed)]) (L_groups) Try.f25 [.vec 0] [(false, .vec .body xs)] Q =
    (let A1_ := (↑(List.length xs) : Int); List.length xs ≤ (4611686018427387904 : Nat) ∧ ifB (!bodiesOk xs) (Q (SV.vec (1 : Nat)) [(false, Blk.vec Ty.body xs), (true, Blk.vec Ty.int [])]) (((0 : Int) ≤ A1_ ∧ A1_ = A1_ ∧ Int.toNat A1_ * (8 : Nat) ≤ room) ∧ Holds (xs = xs ∧ (↑(List.length (List.replicate (Int.toNat A1_) (0 : Int))) : Int) = A1_ ∧ List.length (List.replicate (Int.toNat A1_) (0 : Int)) = List.length xs ∧ (0 : Int) ≤ (0 : Int) ∧ (0 : Int) ≤ A1_ ∧ ∀ (j : Nat), j < Int.toNat (0 : Int) → gi (List.replicate (Int.toNat A1_) (0 : Int)) j = (-1 : Int)) ∧ ∀ (x : List Body × Unit × List Int × Int × Int), Holds (Prod.fst x = xs ∧ Prod.fst (Prod.snd (Prod.snd (Prod.snd x))) = A1_ ∧ List.length (Prod.fst (Prod.snd (Prod.snd x))) = List.length xs ∧ (0 : Int) ≤ Prod.snd (Prod.snd (Prod.snd (Prod.snd x))) ∧ Prod.snd (Prod.snd (Prod.snd (Prod.snd x))) ≤ A1_ ∧ ∀ (j : Nat), j < Int.toNat (Prod.snd (Prod.snd (Prod.snd (Prod.snd x)))) → gi (Prod.fst (Prod.snd (Prod.snd x))) j = (-1 : Int)) → ifB (decide (Prod.snd (Prod.snd (Prod.snd (Prod.snd x))) < Prod.fst (Prod.snd (Prod.snd (Prod.snd x))))) (((0 : Int) ≤ Prod.snd (Prod.snd (Prod.snd (Prod.snd x))) ∧ Prod.snd (Prod.snd (Prod.snd (Prod.snd x))) < (↑(List.length (Prod.fst (Prod.snd (Prod.snd x)))) : Int)) ∧ Holds (Prod.fst x = xs ∧ Prod.fst (Prod.snd (Prod.snd (Prod.snd x))) = A1_ ∧ List.length (List.set (Prod.fst (Prod.snd (Prod.snd x))) (Int.toNat (Prod.snd (Prod.snd (Prod.snd (Prod.snd x))))) (-1 : Int)) = List.length xs ∧ (0 : Int) ≤ IntKind.wrap IntKind.i64 (Prod.snd (Prod.snd (Prod.snd (Prod.snd x))) + (1 : Int)) ∧ IntKind.wrap IntKind.i64 (Prod.snd (Prod.snd (Prod.snd (Prod.snd x))) + (1 : Int)) ≤ A1_ ∧ ∀ (j : Nat), j < Int.toNat (IntKind.wrap IntKind.i64 (Prod.snd (Prod.snd (Prod.snd (Prod.snd x))) + (1 : Int))) → gi (List.set (Prod.fst (Prod.snd (Prod.snd x))) (Int.toNat (Prod.snd (Prod.snd (Prod.snd (Prod.snd x))))) (-1 : Int)) j = (-1 : Int)) ∧ Int.toNat ((↑(List.length (Prod.fst x)) : Int) - IntKind.wrap IntKind.i64 (Prod.snd (Prod.snd (Prod.snd (Prod.snd x))) + (1 : Int))) < Int.toNat ((↑(List.length (Prod.fst x)) : Int) - Prod.snd (Prod.snd (Prod.snd (Prod.snd x))))) (List.length (Prod.fst x) ≤ (1048576 : Nat) ∧ Holds (Prod.fst x = Prod.fst x ∧ contactsOf (Prod.fst x) = contactsOf (Prod.fst x) ∧ (↑(List.length (Prod.fst x)) : Int) = (↑(List.length (Prod.fst x)) : Int) ∧ (0 : Int) ≤ (0 : Int) ∧ (0 : Int) ≤ (↑(List.length (Prod.fst x)) : Int) ∧ (0 : Int) = (↑(numX (Prod.fst x) (Int.toNat (0 : Int))) : Int) ∧ GInv (Prod.fst x) (Int.toNat (0 : Int)) (Prod.fst (Prod.snd (Prod.snd x)))) ∧ ∀ (x_1 : List Body × Unit × List Int × List Contact × Int × Unit × Int × Int), Holds (Prod.fst x_1 = Prod.fst x ∧ Prod.fst (Prod.snd (Prod.snd (Prod.snd x_1))) = contactsOf (Prod.fst x) ∧ Prod.fst (Prod.snd (Prod.snd (Prod.snd (Prod.snd (Prod.snd (Prod.snd x_1)))))) = (↑(List.length (Prod.fst x)) : Int) ∧ (0 : Int) ≤ Prod.snd (Prod.snd (Prod.snd (Prod.snd (Prod.snd (Prod.snd (Prod.snd x_1)))))) ∧ Prod.snd (Prod.snd (Prod.snd (Prod.snd (Prod.snd (Prod.snd (Prod.snd x_1)))))) ≤ (↑(List.length (Prod.fst x)) : Int) ∧ Prod.fst (Prod.snd (Prod.snd (Prod.snd (Prod.snd x_1)))) = (↑(numX (Prod.fst x) (Int.toNat (Prod.snd (Prod.snd (Prod.snd (Prod.snd (Prod.snd (Prod.snd (Prod.snd x_1))))))))) : Int) ∧ GInv (Prod.fst x) (Int.toNat (Prod.snd (Prod.snd (Prod.snd (Prod.snd (Prod.snd (Prod.snd (Prod.snd x_1)))))))) (Prod.fst (Prod.snd (Prod.snd x_1)))) → ifB (decide (Prod.snd (Prod.snd (Prod.snd (Prod.snd (Prod.snd (Prod.snd (Prod.snd x_1)))))) < Prod.fst (Prod.snd (Prod.snd (Prod.snd (Prod.snd (Prod.snd (Prod.snd x_1)))))))) (((0 : Int) ≤ Prod.snd (Prod.snd (Prod.snd (Prod.snd (Prod.snd (Prod.snd (Prod.snd x_1)))))) ∧ Prod.snd (Prod.snd (Prod.snd (Prod.snd (Prod.snd (Prod.snd (Prod.snd x_1)))))) < (↑(List.length (Prod.fst x_1)) : Int)) ∧ ifB (Body.Mass (Ty.ix Ty.body (Prod.fst x_1) (Int.toNat (Prod.snd (Prod.snd (Prod.snd (Prod.snd (Prod.snd (Prod.snd (Prod.snd x_1))))))))) == (0 : Int)) (Holds (Prod.fst x_1 = Prod.fst x ∧ Prod.fst (Prod.snd (Prod.snd (Prod.snd x_1))) = contactsOf (Prod.fst x) ∧ Prod.fst (Prod.snd (Prod.snd (Prod.snd (Prod.snd (Prod.snd (Prod.snd x_1)))))) = (↑(List.length (Prod.fst x)) : Int) ∧ (0 : Int) ≤ IntKind.wrap IntKind.i64 (Prod.snd (Prod.snd (Prod.snd (Prod.snd (Prod.snd (Prod.snd (Prod.snd x_1)))))) + (1 : Int)) ∧ IntKind.wrap IntKind.i64 (Prod.snd (Prod.snd (Prod.snd (Prod.snd (Prod.snd (Prod.snd (Prod.snd x_1)))))) + (1 : Int)) ≤ (↑(List.length (Prod.fst x)) : Int) ∧ Prod.fst (Prod.snd (Prod.snd (Prod.snd (Prod.snd x_1)))) = (↑(numX (Prod.fst x) (Int.toNat (IntKind.wrap IntKind.i64 (Prod.snd (Prod.snd (Prod.snd (Prod.snd (Prod.snd (Prod.snd (Prod.snd x_1)))))) + (1 : Int))))) : Int) ∧ GInv (Prod.fst x) (Int.toNat (IntKind.wrap IntKind.i64 (Prod.snd (Prod.snd (Prod.snd (Prod.snd (Prod.snd (Prod.snd (Prod.snd x_1)))))) + (1 : Int)))) (Prod.fst (Prod.snd (Prod.snd x_1)))) ∧ Int.toNat ((↑(List.length (Prod.fst x_1)) : Int) - IntKind.wrap IntKind.i64 (Prod.snd (Prod.snd (Prod.snd (Prod.snd (Prod.snd (Prod.snd (Prod.snd x_1)))))) + (1 : Int))) < Int.toNat ((↑(List.length (Prod.fst x_1)) : Int) - Prod.snd (Prod.snd (Prod.snd (Prod.snd (Prod.snd (Prod.snd (Prod.snd x_1)))))))) (((0 : Int) ≤ Prod.snd (Prod.snd (Prod.snd (Prod.snd (Prod.snd (Prod.snd (Prod.snd x_1)))))) ∧ Prod.snd (Prod.snd (Prod.snd (Prod.snd (Prod.snd (Prod.snd (Prod.snd x_1)))))) < (↑(List.length (Prod.fst (Prod.snd (Prod.snd x_1)))) : Int)) ∧ ifB (decide (Ty.ix Ty.int (Prod.fst (Prod.snd (Prod.snd x_1))) (Int.toNat (Prod.snd (Prod.snd (Prod.snd (Prod.snd (Prod.snd (Prod.snd (Prod.snd x_1)))))))) ≥ (0 : Int))) (Holds (Prod.fst x_1 = Prod.fst x ∧ Prod.fst (Prod.snd (Prod.snd (Prod.snd x_1))) = contactsOf (Prod.fst x) ∧ Prod.fst (Prod.snd (Prod.snd (Prod.snd (Prod.snd (Prod.snd (Prod.snd x_1)))))) = (↑(List.length (Prod.fst x)) : Int) ∧ (0 : Int) ≤ IntKind.wrap IntKind.i64 (Prod.snd (Prod.snd (Prod.snd (Prod.snd (Prod.snd (Prod.snd (Prod.snd x_1)))))) + (1 : Int)) ∧ IntKind.wrap IntKind.i64 (Prod.snd (Prod.snd (Prod.snd (Prod.snd (Prod.snd (Prod.snd (Prod.snd x_1)))))) + (1 : Int)) ≤ (↑(List.length (Prod.fst x)) : Int) ∧ Prod.fst (Prod.snd (Prod.snd (Prod.snd (Prod.snd x_1)))) = (↑(numX (Prod.fst x) (Int.toNat (IntKind.wrap IntKind.i64 (Prod.snd (Prod.snd (Prod.snd (Prod.snd (Prod.snd (Prod.snd (Prod.snd x_1)))))) + (1 : Int))))) : Int) ∧ GInv (Prod.fst x) (Int.toNat (IntKind.wrap IntKind.i64 (Prod.snd (Prod.snd (Prod.snd (Prod.snd (Prod.snd (Prod.snd (Prod.snd x_1)))))) + (1 : Int)))) (Prod.fst (Prod.snd (Prod.snd x_1)))) ∧ Int.toNat ((↑(List.length (Prod.fst x_1)) : Int) - IntKind.wrap IntKind.i64 (Prod.snd (Prod.snd (Prod.snd (Prod.snd (Prod.snd (Prod.snd (Prod.snd x_1)))))) + (1 : Int))) < Int.toNat ((↑(List.length (Prod.fst x_1)) : Int) - Prod.snd (Prod.snd (Prod.snd (Prod.snd (Prod.snd (Prod.snd (Prod.snd x_1)))))))) (((0 : Int) ≤ Prod.snd (Prod.snd (Prod.snd (Prod.snd (Prod.snd (Prod.snd (Prod.snd x_1)))))) ∧ Prod.snd (Prod.snd (Prod.snd (Prod.snd (Prod.snd (Prod.snd (Prod.snd x_1)))))) < (↑(List.length (Prod.fst (Prod.snd (Prod.snd x_1)))) : Int)) ∧ Holds (Prod.fst x_1 = Prod.fst x_1 ∧ Prod.fst (Prod.snd (Prod.snd (Prod.snd x_1))) = Prod.fst (Prod.snd (Prod.snd (Prod.snd x_1))) ∧ Prod.fst (Prod.snd (Prod.snd (Prod.snd (Prod.snd (Prod.snd (Prod.snd x_1)))))) = Prod.fst (Prod.snd (Prod.snd (Prod.snd (Prod.snd (Prod.snd (Prod.snd x_1)))))) ∧ Prod.fst (Prod.snd (Prod.snd (Prod.snd (Prod.snd x_1)))) = Prod.fst (Prod.snd (Prod.snd (Prod.snd (Prod.snd x_1)))) ∧ Prod.snd (Prod.snd (Prod.snd (Prod.snd (Prod.snd (Prod.snd (Prod.snd x_1)))))) = Prod.snd (Prod.snd (Prod.snd (Prod.snd (Prod.snd (Prod.snd (Prod.snd x_1)))))) ∧ FInv (Prod.fst x_1) (Int.toNat (Prod.snd (Prod.snd (Prod.snd (Prod.snd (Prod.snd (Prod.snd (Prod.snd x_1)))))))) (List.set (Prod.fst (Prod.snd (Prod.snd x_1))) (Int.toNat (Prod.snd (Prod.snd (Prod.snd (Prod.snd (Prod.snd (Prod.snd (Prod.snd x_1)))))))) (Prod.fst (Prod.snd (Prod.snd (Prod.snd (Prod.snd x_1)))))) ∧ (true = false → ∀ (e : Grp.Edge), e ∈ edgesX (Prod.fst x_1) → (gi (List.set (Prod.fst (Prod.snd (Prod.snd x_1))) (Int.toNat (Prod.snd (Prod.snd (Prod.snd (Prod.snd (Prod.snd (Prod.snd (Prod.snd x_1)))))))) (Prod.fst (Prod.snd (Prod.snd (Prod.snd (Prod.snd x_1)))))) (Prod.fst e) = Prod.fst (Prod.snd (Prod.snd (Prod.snd (Prod.snd x_1)))) ↔ gi (List.set (Prod.fst (Prod.snd (Prod.snd x_1))) (Int.toNat (Prod.snd (Prod.snd (Prod.snd (Prod.snd (Prod.snd (Prod.snd (Prod.snd x_1)))))))) (Prod.fst (Prod.snd (Prod.snd (Prod.snd (Prod.snd x_1)))))) (Prod.snd e) = Prod.fst (Prod.snd (Prod.snd (Prod.snd (Prod.snd x_1))))))) ∧ ∀ (x_2 : List Body × Unit × List Int × List Contact × Int × Bool × Unit × Int × Int), Holds (Prod.fst x_2 = Prod.fst x_1 ∧ Prod.fst (Prod.snd (Prod.snd (Prod.snd x_2))) = Prod.fst (Prod.snd (Prod.snd (Prod.snd x_1))) ∧ Prod.fst (Prod.snd (Prod.snd (Prod.snd (Prod.snd (Prod.snd (Prod.snd (Prod.snd x_2))))))) = Prod.fst (Prod.snd (Prod.snd (Prod.snd (Prod.snd (Prod.snd (Prod.snd x_1)))))) ∧ Prod.fst (Prod.snd (Prod.snd (Prod.snd (Prod.snd x_2)))) = Prod.fst (Prod.snd (Prod.snd (Prod.snd (Prod.snd x_1)))) ∧ Prod.snd (Prod.snd (Prod.snd (Prod.snd (Prod.snd (Prod.snd (Prod.snd (Prod.snd x_2))))))) = Prod.snd (Prod.snd (Prod.snd (Prod.snd (Prod.snd (Prod.snd (Prod.snd x_1)))))) ∧ FInv (Prod.fst x_1) (Int.toNat (Prod.snd (Prod.snd (Prod.snd (Prod.snd (Prod.snd (Prod.snd (Prod.snd x_1)))))))) (Prod.fst (Prod.snd (Prod.snd x_2))) ∧ (Prod.fst (Prod.snd (Prod.snd (Prod.snd (Prod.snd (Prod.snd x_2))))) = false → ∀ (e : Grp.Edge), e ∈ edgesX (Prod.fst x_1) → (gi (Prod.fst (Prod.snd (Prod.snd x_2))) (Prod.fst e) = Prod.fst (Prod.snd (Prod.snd (Prod.snd (Prod.snd x_1)))) ↔ gi (Prod.fst (Prod.snd (Prod.snd x_2))) (Prod.snd e) = Prod.fst (Prod.snd (Prod.snd (Prod.snd (Prod.snd x_1))))))) → ifB (Prod.fst (Prod.snd (Prod.snd (Prod.snd (Prod.snd (Prod.snd x_2)))))) (Holds (Prod.fst x_2 = Prod.fst x_2 ∧ Prod.fst (Prod.snd (Prod.snd (Prod.snd x_2))) = Prod.fst (Prod.snd (Prod.snd (Prod.snd x_2))) ∧ Prod.fst (Prod.snd (Prod.snd (Prod.snd (Prod.snd (Prod.snd (Prod.snd (Prod.snd x_2))))))) = Prod.fst (Prod.snd (Prod.snd (Prod.snd (Prod.snd (Prod.snd (Prod.snd (Prod.snd x_2))))))) ∧ Prod.fst (Prod.snd (Prod.snd (Prod.snd (Prod.snd x_2)))) = Prod.fst (Prod.snd (Prod.snd (Prod.snd (Prod.snd x_2)))) ∧ Prod.snd (Prod.snd (Prod.snd (Prod.snd (Prod.snd (Prod.snd (Prod.snd (Prod.snd x_2))))))) = Prod.snd (Prod.snd (Prod.snd (Prod.snd (Prod.snd (Prod.snd (Prod.snd (Prod.snd x_2))))))) ∧ (↑(List.length (Prod.fst (Prod.snd (Prod.snd (Prod.snd x_2))))) : Int) = (↑(List.length (Prod.fst (Prod.snd (Prod.snd (Prod.snd x_2))))) : Int) ∧ (0 : Int) ≤ (0 : Int) ∧ (0 : Int) ≤ (↑(List.length (Prod.fst (Prod.snd (Prod.snd (Prod.snd x_2))))) : Int) ∧ FInv (Prod.fst x_2) (Int.toNat (Prod.snd (Prod.snd (Prod.snd (Prod.snd (Prod.snd (Prod.snd (Prod.snd (Prod.snd x_2))))))))) (Prod.fst (Prod.snd (Prod.snd x_2))) ∧ (false = true → cntG (Prod.fst x_2) (Int.toNat (Prod.snd (Prod.snd (Prod.snd (Prod.snd (Prod.snd (Prod.snd (Prod.snd (Prod.snd x_2))))))))) (Prod.fst (Prod.snd (Prod.snd x_2))) < cntG (Prod.fst x_2) (Int.toNat (Prod.snd (Prod.snd (Prod.snd (Prod.snd (Prod.snd (Prod.snd (Prod.snd (Prod.snd x_2))))))))) (Prod.fst (Prod.snd (Prod.snd x_2)))) ∧ (false = false → Prod.fst (Prod.snd (Prod.snd x_2)) = Prod.fst (Prod.snd (Prod.snd x_2)) ∧ ∀ (j : Nat), j < Int.toNat (0 : Int) → freeB (Prod.fst x_2) (Int.toNat (Contact.A (Ty.ix Ty.contact (Prod.fst (Prod.snd (Prod.snd (Prod.snd x_2)))) j))) = true → freeB (Prod.fst x_2) (Int.toNat (Contact.B (Ty.ix Ty.contact (Prod.fst (Prod.snd (Prod.snd (Prod.snd x_2)))) j))) = true → (gi (Prod.fst (Prod.snd (Prod.snd x_2))) (Int.toNat (Contact.A (Ty.ix Ty.contact (Prod.fst (Prod.snd (Prod.snd (Prod.snd x_2)))) j))) = Prod.fst (Prod.snd (Prod.snd (Prod.snd (Prod.snd x_2)))) ↔ gi (Prod.fst (Prod.snd (Prod.snd x_2))) (Int.toNat (Contact.B (Ty.ix Ty.contact (Prod.fst (Prod.snd (Prod.snd (Prod.snd x_2)))) j))) = Prod.fst (Prod.snd (Prod.snd (Prod.snd (Prod.snd x_2))))))) ∧ ∀ (x : List Body × Unit × List Int × List Contact × Int × Bool × Unit × Int × Int × Unit × Int × Int), Holds (Prod.fst x = Prod.fst x_2 ∧ Prod.fst (Prod.snd (Prod.snd (Prod.snd x))) = Prod.fst (Prod.snd (Prod.snd (Prod.snd x_2))) ∧ Prod.fst (Prod.snd (Prod.snd (Prod.snd (Prod.snd (Prod.snd (Prod.snd (Prod.snd x))))))) = Prod.fst (Prod.snd (Prod.snd (Prod.snd (Prod.snd (Prod.snd (Prod.snd (Prod.snd x_2))))))) ∧ Prod.fst (Prod.snd (Prod.snd (Prod.snd (Prod.snd x)))) = Prod.fst (Prod.snd (Prod.snd (Prod.snd (Prod.snd x_2)))) ∧ Prod.fst (Prod.snd (Prod.snd (Prod.snd (Prod.snd (Prod.snd (Prod.snd (Prod.snd (Prod.snd x)))))))) = Prod.snd (Prod.snd (Prod.snd (Prod.snd (Prod.snd (Prod.snd (Prod.snd (Prod.snd x_2))))))) ∧ Prod.fst (Prod.snd (Prod.snd (Prod.snd (Prod.snd (Prod.snd (Prod.snd (Prod.snd (Prod.snd (Prod.snd (Prod.snd x)))))))))) = (↑(List.length (Prod.fst (Prod.snd (Prod.snd (Prod.snd x_2))))) : Int) ∧ (0 : Int) ≤ Prod.snd (Prod.snd (Prod.snd (Prod.snd (Prod.snd (Prod.snd (Prod.snd (Prod.snd (Prod.snd (Prod.snd (Prod.snd x)))))))))) ∧ Prod.snd (Prod.snd (Prod.snd (Prod.snd (Prod.snd (Prod.snd (Prod.snd (Prod.snd (Prod.snd (Prod.snd (Prod.snd x)))))))))) ≤ (↑(List.length (Prod.fst (Prod.snd (Prod.snd (Prod.snd x_2))))) : Int) ∧ FInv (Prod.fst x_2) (Int.toNat (Prod.snd (Prod.snd (Prod.snd (Prod.snd (Prod.snd (Prod.snd (Prod.snd (Prod.snd x_2))))))))) (Prod.fst (Prod.snd (Prod.snd x))) ∧ (Prod.fst (Prod.snd (Prod.snd (Prod.snd (Prod.snd (Prod.snd x))))) = true → cntG (Prod.fst x_2) (Int.toNat (Prod.snd (Prod.snd (Prod.snd (Prod.snd (Prod.snd (Prod.snd (Prod.snd (Prod.snd x_2))))))))) (Prod.fst (Prod.snd (Prod.snd x))) < cntG (Prod.fst x_2) (Int.toNat (Prod.snd (Prod.snd (Prod.snd (Prod.snd (Prod.snd (Prod.snd (Prod.snd (Prod.snd x_2))))))))) (Prod.fst (Prod.snd (Prod.snd x_2)))) ∧ (Prod.fst (Prod.snd (Prod.snd (Prod.snd (Prod.snd (Prod.snd x))))) = false → Prod.fst (Prod.snd (Prod.snd x)) = Prod.fst (Prod.snd (Prod.snd x_2)) ∧ ∀ (j : Nat), j < Int.toNat (Prod.snd (Prod.snd (Prod.snd (Prod.snd (Prod.snd (Prod.snd (Prod.snd (Prod.snd (Prod.snd (Prod.snd (Prod.snd x))))))))))) → freeB (Prod.fst x_2) (Int.toNat (Contact.A (Ty.ix Ty.contact (Prod.fst (Prod.snd (Prod.snd (Prod.snd x_2)))) j))) = true → freeB (Prod.fst x_2) (Int.toNat (Contact.B (Ty.ix Ty.contact (Prod.fst (Prod.snd (Prod.snd (Prod.snd x_2)))) j))) = true → (gi (Prod.fst (Prod.snd (Prod.snd x))) (Int.toNat (Contact.A (Ty.ix Ty.contact (Prod.fst (Prod.snd (Prod.snd (Prod.snd x_2)))) j))) = Prod.fst (Prod.snd (Prod.snd (Prod.snd (Prod.snd x_2)))) ↔ gi (Prod.fst (Prod.snd (Prod.snd x))) (Int.toNat (Contact.B (Ty.ix Ty.contact (Prod.fst (Prod.snd (Prod.snd (Prod.snd x_2)))) j))) = Prod.fst (Prod.snd (Prod.snd (Prod.snd (Prod.snd x_2))))))) → ifB (decide (Prod.snd (Prod.snd (Prod.snd (Prod.snd (Prod.snd (Prod.snd (Prod.snd (Prod.snd (Prod.snd (Prod.snd (Prod.snd x)))))))))) < Prod.fst (Prod.snd (Prod.snd (Prod.snd (Prod.snd (Prod.snd (Prod.snd (Prod.snd (Prod.snd (Prod.snd (Prod.snd x)))))))))))) (((0 : Int) ≤ Prod.snd (Prod.snd (Prod.snd (Prod.snd (Prod.snd (Prod.snd (Prod.snd (Prod.snd (Prod.snd (Prod.snd (Prod.snd x)))))))))) ∧ Prod.snd (Prod.snd (Prod.snd (Prod.snd (Prod.snd (Prod.snd (Prod.snd (Prod.snd (Prod.snd (Prod.snd (Prod.snd x)))))))))) < (↑(List.length (Prod.fst (Prod.snd (Prod.snd (Prod.snd x))))) : Int)) ∧ ((0 : Int) ≤ Contact.A (Ty.ix Ty.contact (Prod.fst (Prod.snd (Prod.snd (Prod.snd x)))) (Int.toNat (Prod.snd (Prod.snd (Prod.snd (Prod.snd (Prod.snd (Prod.snd (Prod.snd (Prod.snd (Prod.snd (Prod.snd (Prod.snd x))))))))))))) ∧ Contact.A (Ty.ix Ty.contact (Prod.fst (Prod.snd (Prod.snd (Prod.snd x)))) (Int.toNat (Prod.snd (Prod.snd (Prod.snd (Prod.snd (Prod.snd (Prod.snd (Prod.snd (Prod.snd (Prod.snd (Prod.snd (Prod.snd x))))))))))))) < (↑(List.length (Prod.fst x)) : Int)) ∧ ifB (Body.Mass (Ty.ix Ty.body (Prod.fst x) (Int.toNat (Contact.A (Ty.ix Ty.contact (Prod.fst (Prod.snd (Prod.snd (Prod.snd x)))) (Int.toNat (Prod.snd (Prod.snd (Prod.snd (Prod.snd (Prod.snd (Prod.snd (Prod.snd (Prod.snd (Prod.snd (Prod.snd (Prod.snd x)))))))))))))))) == (0 : Int)) (Holds (Prod.fst x = Prod.fst x_2 ∧ Prod.fst (Prod.snd (Prod.snd (Prod.snd x))) = Prod.fst (Prod.snd (Prod.snd (Prod.snd x_2))) ∧ Prod.fst (Prod.snd (Prod.snd (Prod.snd (Prod.snd (Prod.snd (Prod.snd (Prod.snd x))))))) = Prod.fst (Prod.snd (Prod.snd (Prod.snd (Prod.snd (Prod.snd (Prod.snd (Prod.snd x_2))))))) ∧ Prod.fst (Prod.snd (Prod.snd (Prod.snd (Prod.snd x)))) = Prod.fst (Prod.snd (Prod.snd (Prod.snd (Prod.snd x_2)))) ∧ Prod.fst (Prod.snd (Prod.snd (Prod.snd (Prod.snd (Prod.snd (Prod.snd (Prod.snd (Prod.snd x)))))))) = Prod.snd (Prod.snd (Prod.snd (Prod.snd (Prod.snd (Prod.snd (Prod.snd (Prod.snd x_2))))))) ∧ Prod.fst (Prod.snd (Prod.snd (Prod.snd (Prod.snd (Prod.snd (Prod.snd (Prod.snd (Prod.snd (Prod.snd (Prod.snd x)))))))))) = (↑(List.length (Prod.fst (Prod.snd (Prod.snd (Prod.snd x_2))))) : Int) ∧ (0 : Int) ≤ IntKind.wrap IntKind.i64 (Prod.snd (Prod.snd (Prod.snd (Prod.snd (Prod.snd (Prod.snd (Prod.snd (Prod.snd (Prod.snd (Prod.snd (Prod.snd x)))))))))) + (1 : Int)) ∧ IntKind.wrap IntKind.i64 (Prod.snd (Prod.snd (Prod.snd (Prod.snd (Prod.snd (Prod.snd (Prod.snd (Prod.snd (Prod.snd (Prod.snd (Prod.snd x)))))))))) + (1 : Int)) ≤ (↑(List.length (Prod.fst (Prod.snd (Prod.snd (Prod.snd x_2))))) : Int) ∧ FInv (Prod.fst x_2) (Int.toNat (Prod.snd (Prod.snd (Prod.snd (Prod.snd (Prod.snd (Prod.snd (Prod.snd (Prod.snd x_2))))))))) (Prod.fst (Prod.snd (Prod.snd x))) ∧ (Prod.fst (Prod.snd (Prod.snd (Prod.snd (Prod.snd (Prod.snd x))))) = true → cntG (Prod.fst x_2) (Int.toNat (Prod.snd (Prod.snd (Prod.snd (Prod.snd (Prod.snd (Prod.snd (Prod.snd (Prod.snd x_2))))))))) (Prod.fst (Prod.snd (Prod.snd x))) < cntG (Prod.fst x_2) (Int.toNat (Prod.snd (Prod.snd (Prod.snd (Prod.snd (Prod.snd (Prod.snd (Prod.snd (Prod.snd x_2))))))))) (Prod.fst (Prod.snd (Prod.snd x_2)))) ∧ (Prod.fst (Prod.snd (Prod.snd (Prod.snd (Prod.snd (Prod.snd x))))) = false → Prod.fst (Prod.snd (Prod.snd x)) = Prod.fst (Prod.snd (Prod.snd x_2)) ∧ ∀ (j : Nat), j < Int.toNat (IntKind.wrap IntKind.i64 (Prod.snd (Prod.snd (Prod.snd (Prod.snd (Prod.snd (Prod.snd (Prod.snd (Prod.snd (Prod.snd (Prod.snd (Prod.snd x)))))))))) + (1 : Int))) → freeB (Prod.fst x_2) (Int.toNat (Contact.A (Ty.ix Ty.contact (Prod.fst (Prod.snd (Prod.snd (Prod.snd x_2)))) j))) = true → freeB (Prod.fst x_2) (Int.toNat (Contact.B (Ty.ix Ty.contact (Prod.fst (Prod.snd (Prod.snd (Prod.snd x_2)))) j))) = true → (gi (Prod.fst (Prod.snd (Prod.snd x))) (Int.toNat (Contact.A (Ty.ix Ty.contact (Prod.fst (Prod.snd (Prod.snd (Prod.snd x_2)))) j))) = Prod.fst (Prod.snd (Prod.snd (Prod.snd (Prod.snd x_2)))) ↔ gi (Prod.fst (Prod.snd (Prod.snd x))) (Int.toNat (Contact.B (Ty.ix Ty.contact (Prod.fst (Prod.snd (Prod.snd (Prod.snd x_2)))) j))) = Prod.fst (Prod.snd (Prod.snd (Prod.snd (Prod.snd x_2))))))) ∧ Int.toNat ((↑(List.length (Prod.fst (Prod.snd (Prod.snd (Prod.snd x))))) : Int) - IntKind.wrap IntKind.i64 (Prod.snd (Prod.snd (Prod.snd (Prod.snd (Prod.snd (Prod.snd (Prod.snd (Prod.snd (Prod.snd (Prod.snd (Prod.snd x)))))))))) + (1 : Int))) < Int.toNat ((↑(List.length (Prod.fst (Prod.snd (Prod.snd (Prod.snd x))))) : Int) - Prod.snd (Prod.snd (Prod.snd (Prod.snd (Prod.snd (Prod.snd (Prod.snd (Prod.snd (Prod.snd (Prod.snd (Prod.snd x)))))))))))) (((0 : Int) ≤ Contact.B (Ty.ix Ty.contact (Prod.fst (Prod.snd (Prod.snd (Prod.snd x)))) (Int.toNat (Prod.snd (Prod.snd (Prod.snd (Prod.snd (Prod.snd (Prod.snd (Prod.snd (Prod.snd (Prod.snd (Prod.snd (Prod.snd x))))))))))))) ∧ Contact.B (Ty.ix Ty.contact (Prod.fst (Prod.snd (Prod.snd (Prod.snd x)))) (Int.toNat (Prod.snd (Prod.snd (Prod.snd (Prod.snd (Prod.snd (Prod.snd (Prod.snd (Prod.snd (Prod.snd (Prod.snd (Prod.snd x))))))))))))) < (↑(List.length (Prod.fst x)) : Int)) ∧ ifB (Body.Mass (Ty.ix Ty.body (Prod.fst x) (Int.toNat (Contact.B (Ty.ix Ty.contact (Prod.fst (Prod.snd (Prod.snd (Prod.snd x)))) (Int.toNat (Prod.snd (Prod.snd (Prod.snd (Prod.snd (Prod.snd (Prod.snd (Prod.snd (Prod.snd (Prod.snd (Prod.snd (Prod.snd x)))))))))))))))) == (0 : Int)) (Holds (Prod.fst x = Prod.fst x_2 ∧ Prod.fst (Prod.snd (Prod.snd (Prod.snd x))) = Prod.fst (Prod.snd (Prod.snd (Prod.snd x_2))) ∧ Prod.fst (Prod.snd (Prod.snd (Prod.snd (Prod.snd (Prod.snd (Prod.snd (Prod.snd x))))))) = Prod.fst (Prod.snd (Prod.snd (Prod.snd (Prod.snd (Prod.snd (Prod.snd (Prod.snd x_2))))))) ∧ Prod.fst (Prod.snd (Prod.snd (Prod.snd (Prod.snd x)))) = Prod.fst (Prod.snd (Prod.snd (Prod.snd (Prod.snd x_2)))) ∧ Prod.fst (Prod.snd (Prod.snd (Prod.snd (Prod.snd (Prod.snd (Prod.snd (Prod.snd (Prod.snd x)))))))) = Prod.snd (Prod.snd (Prod.snd (Prod.snd (Prod.snd (Prod.snd (Prod.snd (Prod.snd x_2))))))) ∧ Prod.fst (Prod.snd (Prod.snd (Prod.snd (Prod.snd (Prod.snd (Prod.snd (Prod.snd (Prod.snd (Prod.snd (Prod.snd x)))))))))) = (↑(List.length (Prod.fst (Prod.snd (Prod.snd (Prod.snd x_2))))) : Int) ∧ (0 : Int) ≤ IntKind.wrap IntKind.i64 (Prod.snd (Prod.snd (Prod.snd (Prod.snd (Prod.snd (Prod.snd (Prod.snd (Prod.snd (Prod.snd (Prod.snd (Prod.snd x)))))))))) + (1 : Int)) ∧ IntKind.wrap IntKind.i64 (Prod.snd (Prod.snd (Prod.snd (Prod.snd (Prod.snd (Prod.snd (Prod.snd (Prod.snd (Prod.snd (Prod.snd (Prod.snd x)))))))))) + (1 : Int)) ≤ (↑(List.length (Prod.fst (Prod.snd (Prod.snd (Prod.snd x_2))))) : Int) ∧ FInv (Prod.fst x_2) (Int.toNat (Prod.snd (Prod.snd (Prod.snd (Prod.snd (Prod.snd (Prod.snd (Prod.snd (Prod.snd x_2))))))))) (Prod.fst (Prod.snd (Prod.snd x))) ∧ (Prod.fst (Prod.snd (Prod.snd (Prod.snd (Prod.snd (Prod.snd x))))) = true → cntG (Prod.fst x_2) (Int.toNat (Prod.snd (Prod.snd (Prod.snd (Prod.snd (Prod.snd (Prod.snd (Prod.snd (Prod.snd x_2))))))))) (Prod.fst (Prod.snd (Prod.snd x))) < cntG (Prod.fst x_2) (Int.toNat (Prod.snd (Prod.snd (Prod.snd (Prod.snd (Prod.snd (Prod.snd (Prod.snd (Prod.snd x_2))))))))) (Prod.fst (Prod.snd (Prod.snd x_2)))) ∧ (Prod.fst (Prod.snd (Prod.snd (Prod.snd (Prod.snd (Prod.snd x))))) = false → Prod.fst (Prod.snd (Prod.snd x)) = Prod.fst (Prod.snd (Prod.snd x_2)) ∧ ∀ (j : Nat), j < Int.toNat (IntKind.wrap IntKind.i64 (Prod.snd (Prod.snd (Prod.snd (Prod.snd (Prod.snd (Prod.snd (Prod.snd (Prod.snd (Prod.snd (Prod.snd (Prod.snd x)))))))))) + (1 : Int))) → freeB (Prod.fst x_2) (Int.toNat (Contact.A (Ty.ix Ty.contact (Prod.fst (Prod.snd (Prod.snd (Prod.snd x_2)))) j))) = true → freeB (Prod.fst x_2) (Int.toNat (Contact.B (Ty.ix Ty.contact (Prod.fst (Prod.snd (Prod.snd (Prod.snd x_2)))) j))) = true → (gi (Prod.fst (Prod.snd (Prod.snd x))) (Int.toNat (Contact.A (Ty.ix Ty.contact (Prod.fst (Prod.snd (Prod.snd (Prod.snd x_2)))) j))) = Prod.fst (Prod.snd (Prod.snd (Prod.snd (Prod.snd x_2)))) ↔ gi (Prod.fst (Prod.snd (Prod.snd x))) (Int.toNat (Contact.B (Ty.ix Ty.contact (Prod.fst (Prod.snd (Prod.snd (Prod.snd x_2)))) j))) = Prod.fst (Prod.snd (Prod.snd (Prod.snd (Prod.snd x_2))))))) ∧ Int.toNat ((↑(List.length (Prod.fst (Prod.snd (Prod.snd (Prod.snd x))))) : Int) - IntKind.wrap IntKind.i64 (Prod.snd (Prod.snd (Prod.snd (Prod.snd (Prod.snd (Prod.snd (Prod.snd (Prod.snd (Prod.snd (Prod.snd (Prod.snd x)))))))))) + (1 : Int))) < Int.toNat ((↑(List.length (Prod.fst (Prod.snd (Prod.snd (Prod.snd x))))) : Int) - Prod.snd (Prod.snd (Prod.snd (Prod.snd (Prod.snd (Prod.snd (Prod.snd (Prod.snd (Prod.snd (Prod.snd (Prod.snd x)))))))))))) (((0 : Int) ≤ Contact.A (Ty.ix Ty.contact (Prod.fst (Prod.snd (Prod.snd (Prod.snd x)))) (Int.toNat (Prod.snd (Prod.snd (Prod.snd (Prod.snd (Prod.snd (Prod.snd (Prod.snd (Prod.snd (Prod.snd (Prod.snd (Prod.snd x))))))))))))) ∧ Contact.A (Ty.ix Ty.contact (Prod.fst (Prod.snd (Prod.snd (Prod.snd x)))) (Int.toNat (Prod.snd (Prod.snd (Prod.snd (Prod.snd (Prod.snd (Prod.snd (Prod.snd (Prod.snd (Prod.snd (Prod.snd (Prod.snd x))))))))))))) < (↑(List.length (Prod.fst (Prod.snd (Prod.snd x)))) : Int)) ∧ ((0 : Int) ≤ Contact.B (Ty.ix Ty.contact (Prod.fst (Prod.snd (Prod.snd (Prod.snd x)))) (Int.toNat (Prod.snd (Prod.snd (Prod.snd (Prod.snd (Prod.snd (Prod.snd (Prod.snd (Prod.snd (Prod.snd (Prod.snd (Prod.snd x))))))))))))) ∧ Contact.B (Ty.ix Ty.contact (Prod.fst (Prod.snd (Prod.snd (Prod.snd x)))) (Int.toNat (Prod.snd (Prod.snd (Prod.snd (Prod.snd (Prod.snd (Prod.snd (Prod.snd (Prod.snd (Prod.snd (Prod.snd (Prod.snd x))))))))))))) < (↑(List.length (Prod.fst (Prod.snd (Prod.snd x)))) : Int)) ∧ ifB ((Ty.ix Ty.int (Prod.fst (Prod.snd (Prod.snd x))) (Int.toNat (Contact.A (Ty.ix Ty.contact (Prod.fst (Prod.snd (Prod.snd (Prod.snd x)))) (Int.toNat (Prod.snd (Prod.snd (Prod.snd (Prod.snd (Prod.snd (Prod.snd (Prod.snd (Prod.snd (Prod.snd (Prod.snd (Prod.snd x))))))))))))))) == Prod.fst (Prod.snd (Prod.snd (Prod.snd (Prod.snd x))))) == (Ty.ix Ty.int (Prod.fst (Prod.snd (Prod.snd x))) (Int.toNat (Contact.B (Ty.ix Ty.contact (Prod.fst (Prod.snd (Prod.snd (Prod.snd x)))) (Int.toNat (Prod.snd (Prod.snd (Prod.snd (Prod.snd (Prod.snd (Prod.snd (Prod.snd (Prod.snd (Prod.snd (Prod.snd (Prod.snd x))))))))))))))) == Prod.fst (Prod.snd (Prod.snd (Prod.snd (Prod.snd x)))))) (Holds (Prod.fst x = Prod.fst x_2 ∧ Prod.fst (Prod.snd (Prod.snd (Prod.snd x))) = Prod.fst (Prod.snd (Prod.snd (Prod.snd x_2))) ∧ Prod.fst (Prod.snd (Prod.snd (Prod.snd (Prod.snd (Prod.snd (Prod.snd (Prod.snd x))))))) = Prod.fst (Prod.snd (Prod.snd (Prod.snd (Prod.snd (Prod.snd (Prod.snd (Prod.snd x_2))))))) ∧ Prod.fst (Prod.snd (Prod.snd (Prod.snd (Prod.snd x)))) = Prod.fst (Prod.snd (Prod.snd (Prod.snd (Prod.snd x_2)))) ∧ Prod.fst (Prod.snd (Prod.snd (Prod.snd (Prod.snd (Prod.snd (Prod.snd (Prod.snd (Prod.snd x)))))))) = Prod.snd (Prod.snd (Prod.snd (Prod.snd (Prod.snd (Prod.snd (Prod.snd (Prod.snd x_2))))))) ∧ Prod.fst (Prod.snd (Prod.snd (Prod.snd (Prod.snd (Prod.snd (Prod.snd (Prod.snd (Prod.snd (Prod.snd (Prod.snd x)))))))))) = (↑(List.length (Prod.fst (Prod.snd (Prod.snd (Prod.snd x_2))))) : Int) ∧ (0 : Int) ≤ IntKind.wrap IntKind.i64 (Prod.snd (Prod.snd (Prod.snd (Prod.snd (Prod.snd (Prod.snd (Prod.snd (Prod.snd (Prod.snd (Prod.snd (Prod.snd x)))))))))) + (1 : Int)) ∧ IntKind.wrap IntKind.i64 (Prod.snd (Prod.snd (Prod.snd (Prod.snd (Prod.snd (Prod.snd (Prod.snd (Prod.snd (Prod.snd (Prod.snd (Prod.snd x)))))))))) + (1 : Int)) ≤ (↑(List.length (Prod.fst (Prod.snd (Prod.snd (Prod.snd x_2))))) : Int) ∧ FInv (Prod.fst x_2) (Int.toNat (Prod.snd (Prod.snd (Prod.snd (Prod.snd (Prod.snd (Prod.snd (Prod.snd (Prod.snd x_2))))))))) (Prod.fst (Prod.snd (Prod.snd x))) ∧ (Prod.fst (Prod.snd (Prod.snd (Prod.snd (Prod.snd (Prod.snd x))))) = true → cntG (Prod.fst x_2) (Int.toNat (Prod.snd (Prod.snd (Prod.snd (Prod.snd (Prod.snd (Prod.snd (Prod.snd (Prod.snd x_2))))))))) (Prod.fst (Prod.snd (Prod.snd x))) < cntG (Prod.fst x_2) (Int.toNat (Prod.snd (Prod.snd (Prod.snd (Prod.snd (Prod.snd (Prod.snd (Prod.snd (Prod.snd x_2))))))))) (Prod.fst (Prod.snd (Prod.snd x_2)))) ∧ (Prod.fst (Prod.snd (Prod.snd (Prod.snd (Prod.snd (Prod.snd x))))) = false → Prod.fst (Prod.snd (Prod.snd x)) = Prod.fst (Prod.snd (Prod.snd x_2)) ∧ ∀ (j : Nat), j < Int.toNat (IntKind.wrap IntKind.i64 (Prod.snd (Prod.snd (Prod.snd (Prod.snd (Prod.snd (Prod.snd (Prod.snd (Prod.snd (Prod.snd (Prod.snd (Prod.snd x)))))))))) + (1 : Int))) → freeB (Prod.fst x_2) (Int.toNat (Contact.A (Ty.ix Ty.contact (Prod.fst (Prod.snd (Prod.snd (Prod.snd x_2)))) j))) = true → freeB (Prod.fst x_2) (Int.toNat (Contact.B (Ty.ix Ty.contact (Prod.fst (Prod.snd (Prod.snd (Prod.snd x_2)))) j))) = true → (gi (Prod.fst (Prod.snd (Prod.snd x))) (Int.toNat (Contact.A (Ty.ix Ty.contact (Prod.fst (Prod.snd (Prod.snd (Prod.snd x_2)))) j))) = Prod.fst (Prod.snd (Prod.snd (Prod.snd (Prod.snd x_2)))) ↔ gi (Prod.fst (Prod.snd (Prod.snd x))) (Int.toNat (Contact.B (Ty.ix Ty.contact (Prod.fst (Prod.snd (Prod.snd (Prod.snd x_2)))) j))) = Prod.fst (Prod.snd (Prod.snd (Prod.snd (Prod.snd x_2))))))) ∧ Int.toNat ((↑(List.length (Prod.fst (Prod.snd (Prod.snd (Prod.snd x))))) : Int) - IntKind.wrap IntKind.i64 (Prod.snd (Prod.snd (Prod.snd (Prod.snd (Prod.snd (Prod.snd (Prod.snd (Prod.snd (Prod.snd (Prod.snd (Prod.snd x)))))))))) + (1 : Int))) < Int.toNat ((↑(List.length (Prod.fst (Prod.snd (Prod.snd (Prod.snd x))))) : Int) - Prod.snd (Prod.snd (Prod.snd (Prod.snd (Prod.snd (Prod.snd (Prod.snd (Prod.snd (Prod.snd (Prod.snd (Prod.snd x)))))))))))) (((0 : Int) ≤ Contact.A (Ty.ix Ty.contact (Prod.fst (Prod.snd (Prod.snd (Prod.snd x)))) (Int.toNat (Prod.snd (Prod.snd (Prod.snd (Prod.snd (Prod.snd (Prod.snd (Prod.snd (Prod.snd (Prod.snd (Prod.snd (Prod.snd x))))))))))))) ∧ Contact.A (Ty.ix Ty.contact (Prod.fst (Prod.snd (Prod.snd (Prod.snd x)))) (Int.toNat (Prod.snd (Prod.snd (Prod.snd (Prod.snd (Prod.snd (Prod.snd (Prod.snd (Prod.snd (Prod.snd (Prod.snd (Prod.snd x))))))))))))) < (↑(List.length (Prod.fst (Prod.snd (Prod.snd x)))) : Int)) ∧ ((0 : Int) ≤ Contact.B (Ty.ix Ty.contact (Prod.fst (Prod.snd (Prod.snd (Prod.snd x)))) (Int.toNat (Prod.snd (Prod.snd (Prod.snd (Prod.snd (Prod.snd (Prod.snd (Prod.snd (Prod.snd (Prod.snd (Prod.snd (Prod.snd x))))))))))))) ∧ Contact.B (Ty.ix Ty.contact (Prod.fst (Prod.snd (Prod.snd (Prod.snd x)))) (Int.toNat (Prod.snd (Prod.snd (Prod.snd (Prod.snd (Prod.snd (Prod.snd (Prod.snd (Prod.snd (Prod.snd (Prod.snd (Prod.snd x))))))))))))) < (↑(List.length (List.set (Prod.fst (Prod.snd (Prod.snd x))) (Int.toNat (Contact.A (Ty.ix Ty.contact (Prod.fst (Prod.snd (Prod.snd (Prod.snd x)))) (Int.toNat (Prod.snd (Prod.snd (Prod.snd (Prod.snd (Prod.snd (Prod.snd (Prod.snd (Prod.snd (Prod.snd (Prod.snd (Prod.snd x))))))))))))))) (Prod.fst (Prod.snd (Prod.snd (Prod.snd (Prod.snd x))))))) : Int)) ∧ Holds (Prod.fst x = Prod.fst x_2 ∧ Prod.fst (Prod.snd (Prod.snd (Prod.snd x))) = Prod.fst (Prod.snd (Prod.snd (Prod.snd x_2))) ∧ Prod.fst (Prod.snd (Prod.snd (Prod.snd (Prod.snd (Prod.snd (Prod.snd (Prod.snd x))))))) = Prod.fst (Prod.snd (Prod.snd (Prod.snd (Prod.snd (Prod.snd (Prod.snd (Prod.snd x_2))))))) ∧ Prod.fst (Prod.snd (Prod.snd (Prod.snd (Prod.snd x)))) = Prod.fst (Prod.snd (Prod.snd (Prod.snd (Prod.snd x_2)))) ∧ Prod.fst (Prod.snd (Prod.snd (Prod.snd (Prod.snd (Prod.snd (Prod.snd (Prod.snd (Prod.snd x)))))))) = Prod.snd (Prod.snd (Prod.snd (Prod.snd (Prod.snd (Prod.snd (Prod.snd (Prod.snd x_2))))))) ∧ Prod.fst (Prod.snd (Prod.snd (Prod.snd (Prod.snd (Prod.snd (Prod.snd (Prod.snd (Prod.snd (Prod.snd (Prod.snd x)))))))))) = (↑(List.length (Prod.fst (Prod.snd (Prod.snd (Prod.snd x_2))))) : Int) ∧ (0 : Int) ≤ IntKind.wrap IntKind.i64 (Prod.snd (Prod.snd (Prod.snd (Prod.snd (Prod.snd (Prod.snd (Prod.snd (Prod.snd (Prod.snd (Prod.snd (Prod.snd x)))))))))) + (1 : Int)) ∧ IntKind.wrap IntKind.i64 (Prod.snd (Prod.snd (Prod.snd (Prod.snd (Prod.snd (Prod.snd (Prod.snd (Prod.snd (Prod.snd (Prod.snd (Prod.snd x)))))))))) + (1 : Int)) ≤ (↑(List.length (Prod.fst (Prod.snd (Prod.snd (Prod.snd x_2))))) : Int) ∧ FInv (Prod.fst x_2) (Int.toNat (Prod.snd (Prod.snd (Prod.snd (Prod.snd (Prod.snd (Prod.snd (Prod.snd (Prod.snd x_2))))))))) (List.set (List.set (Prod.fst (Prod.snd (Prod.snd x))) (Int.toNat (Contact.A (Ty.ix Ty.contact (Prod.fst (Prod.snd (Prod.snd (Prod.snd x)))) (Int.toNat (Prod.snd (Prod.snd (Prod.snd (Prod.snd (Prod.snd (Prod.snd (Prod.snd (Prod.snd (Prod.snd (Prod.snd (Prod.snd x))))))))))))))) (Prod.fst (Prod.snd (Prod.snd (Prod.snd (Prod.snd x)))))) (Int.toNat (Contact.B (Ty.ix Ty.contact (Prod.fst (Prod.snd (Prod.snd (Prod.snd x)))) (Int.toNat (Prod.snd (Prod.snd (Prod.snd (Prod.snd (Prod.snd (Prod.snd (Prod.snd (Prod.snd (Prod.snd (Prod.snd (Prod.snd x))))))))))))))) (Prod.fst (Prod.snd (Prod.snd (Prod.snd (Prod.snd x)))))) ∧ (true = true → cntG (Prod.fst x_2) (Int.toNat (Prod.snd (Prod.snd (Prod.snd (Prod.snd (Prod.snd (Prod.snd (Prod.snd (Prod.snd x_2))))))))) (List.set (List.set (Prod.fst (Prod.snd (Prod.snd x))) (Int.toNat (Contact.A (Ty.ix Ty.contact (Prod.fst (Prod.snd (Prod.snd (Prod.snd x)))) (Int.toNat (Prod.snd (Prod.snd (Prod.snd (Prod.snd (Prod.snd (Prod.snd (Prod.snd (Prod.snd (Prod.snd (Prod.snd (Prod.snd x))))))))))))))) (Prod.fst (Prod.snd (Prod.snd (Prod.snd (Prod.snd x)))))) (Int.toNat (Contact.B (Ty.ix Ty.contact (Prod.fst (Prod.snd (Prod.snd (Prod.snd x)))) (Int.toNat (Prod.snd (Prod.snd (Prod.snd (Prod.snd (Prod.snd (Prod.snd (Prod.snd (Prod.snd (Prod.snd (Prod.snd (Prod.snd x))))))))))))))) (Prod.fst (Prod.snd (Prod.snd (Prod.snd (Prod.snd x)))))) < cntG (Prod.fst x_2) (Int.toNat (Prod.snd (Prod.snd (Prod.snd (Prod.snd (Prod.snd (Prod.snd (Prod.snd (Prod.snd x_2))))))))) (Prod.fst (Prod.snd (Prod.snd x_2)))) ∧ (true = false → List.set (List.set (Prod.fst (Prod.snd (Prod.snd x))) (Int.toNat (Contact.A (Ty.ix Ty.contact (Prod.fst (Prod.snd (Prod.snd (Prod.snd x)))) (Int.toNat (Prod.snd (Prod.snd (Prod.snd (Prod.snd (Prod.snd (Prod.snd (Prod.snd (Prod.snd (Prod.snd (Prod.snd (Prod.snd x))))))))))))))) (Prod.fst (Prod.snd (Prod.snd (Prod.snd (Prod.snd x)))))) (Int.toNat (Contact.B (Ty.ix Ty.contact (Prod.fst (Prod.snd (Prod.snd (Prod.snd x)))) (Int.toNat (Prod.snd (Prod.snd (Prod.snd (Prod.snd (Prod.snd (Prod.snd (Prod.snd (Prod.snd (Prod.snd (Prod.snd (Prod.snd x))))))))))))))) (Prod.fst (Prod.snd (Prod.snd (Prod.snd (Prod.snd x))))) = Prod.fst (Prod.snd (Prod.snd x_2)) ∧ ∀ (j : Nat), j < Int.toNat (IntKind.wrap IntKind.i64 (Prod.snd (Prod.snd (Prod.snd (Prod.snd (Prod.snd (Prod.snd (Prod.snd (Prod.snd (Prod.snd (Prod.snd (Prod.snd x)))))))))) + (1 : Int))) → freeB (Prod.fst x_2) (Int.toNat (Contact.A (Ty.ix Ty.contact (Prod.fst (Prod.snd (Prod.snd (Prod.snd x_2)))) j))) = true → freeB (Prod.fst x_2) (Int.toNat (Contact.B (Ty.ix Ty.contact (Prod.fst (Prod.snd (Prod.snd (Prod.snd x_2)))) j))) = true → (gi (List.set (List.set (Prod.fst (Prod.snd (Prod.snd x))) (Int.toNat (Contact.A (Ty.ix Ty.contact (Prod.fst (Prod.snd (Prod.snd (Prod.snd x)))) (Int.toNat (Prod.snd (Prod.snd (Prod.snd (Prod.snd (Prod.snd (Prod.snd (Prod.snd (Prod.snd (Prod.snd (Prod.snd (Prod.snd x))))))))))))))) (Prod.fst (Prod.snd (Prod.snd (Prod.snd (Prod.snd x)))))) (Int.toNat (Contact.B (Ty.ix Ty.contact (Prod.fst (Prod.snd (Prod.snd (Prod.snd x)))) (Int.toNat (Prod.snd (Prod.snd (Prod.snd (Prod.snd (Prod.snd (Prod.snd (Prod.snd (Prod.snd (Prod.snd (Prod.snd (Prod.snd x))))))))))))))) (Prod.fst (Prod.snd (Prod.snd (Prod.snd (Prod.snd x)))))) (Int.toNat (Contact.A (Ty.ix Ty.contact (Prod.fst (Prod.snd (Prod.snd (Prod.snd x_2)))) j))) = Prod.fst (Prod.snd (Prod.snd (Prod.snd (Prod.snd x_2)))) ↔ gi (List.set (List.set (Prod.fst (Prod.snd (Prod.snd x))) (Int.toNat (Contact.A (Ty.ix Ty.contact (Prod.fst (Prod.snd (Prod.snd (Prod.snd x)))) (Int.toNat (Prod.snd (Prod.snd (Prod.snd (Prod.snd (Prod.snd (Prod.snd (Prod.snd (Prod.snd (Prod.snd (Prod.snd (Prod.snd x))))))))))))))) (Prod.fst (Prod.snd (Prod.snd (Prod.snd (Prod.snd x)))))) (Int.toNat (Contact.B (Ty.ix Ty.contact (Prod.fst (Prod.snd (Prod.snd (Prod.snd x)))) (Int.toNat (Prod.snd (Prod.snd (Prod.snd (Prod.snd (Prod.snd (Prod.snd (Prod.snd (Prod.snd (Prod.snd (Prod.snd (Prod.snd x))))))))))))))) (Prod.fst (Prod.snd (Prod.snd (Prod.snd (Prod.snd x)))))) (Int.toNat (Contact.B (Ty.ix Ty.contact (Prod.fst (Prod.snd (Prod.snd (Prod.snd x_2)))) j))) = Prod.fst (Prod.snd (Prod.snd (Prod.snd (Prod.snd x_2))))))) ∧ Int.toNat ((↑(List.length (Prod.fst (Prod.snd (Prod.snd (Prod.snd x))))) : Int) - IntKind.wrap IntKind.i64 (Prod.snd (Prod.snd (Prod.snd (Prod.snd (Prod.snd (Prod.snd (Prod.snd (Prod.snd (Prod.snd (Prod.snd (Prod.snd x)))))))))) + (1 : Int))) < Int.toNat ((↑(List.length (Prod.fst (Prod.snd (Prod.snd (Prod.snd x))))) : Int) - Prod.snd (Prod.snd (Prod.snd (Prod.snd (Prod.snd (Prod.snd (Prod.snd (Prod.snd (Prod.snd (Prod.snd (Prod.snd x))))))))))))))) (Holds (Prod.fst x = Prod.fst x_1 ∧ Prod.fst (Prod.snd (Prod.snd (Prod.snd x))) = Prod.fst (Prod.snd (Prod.snd (Prod.snd x_1))) ∧ Prod.fst (Prod.snd (Prod.snd (Prod.snd (Prod.snd (Prod.snd (Prod.snd (Prod.snd x))))))) = Prod.fst (Prod.snd (Prod.snd (Prod.snd (Prod.snd (Prod.snd (Prod.snd x_1)))))) ∧ Prod.fst (Prod.snd (Prod.snd (Prod.snd (Prod.snd x)))) = Prod.fst (Prod.snd (Prod.snd (Prod.snd (Prod.snd x_1)))) ∧ Prod.fst (Prod.snd (Prod.snd (Prod.snd (Prod.snd (Prod.snd (Prod.snd (Prod.snd (Prod.snd x)))))))) = Prod.snd (Prod.snd (Prod.snd (Prod.snd (Prod.snd (Prod.snd (Prod.snd x_1)))))) ∧ FInv (Prod.fst x_1) (Int.toNat (Prod.snd (Prod.snd (Prod.snd (Prod.snd (Prod.snd (Prod.snd (Prod.snd x_1)))))))) (Prod.fst (Prod.snd (Prod.snd x))) ∧ (Prod.fst (Prod.snd (Prod.snd (Prod.snd (Prod.snd (Prod.snd x))))) = false → ∀ (e : Grp.Edge), e ∈ edgesX (Prod.fst x_1) → (gi (Prod.fst (Prod.snd (Prod.snd x))) (Prod.fst e) = Prod.fst (Prod.snd (Prod.snd (Prod.snd (Prod.snd x_1)))) ↔ gi (Prod.fst (Prod.snd (Prod.snd x))) (Prod.snd e) = Prod.fst (Prod.snd (Prod.snd (Prod.snd (Prod.snd x_1))))))) ∧ ((2 : Nat) * cntG (Prod.fst x) (Int.toNat (Prod.fst (Prod.snd (Prod.snd (Prod.snd (Prod.snd (Prod.snd (Prod.snd (Prod.snd (Prod.snd x)))))))))) (Prod.fst (Prod.snd (Prod.snd x))) + bif Prod.fst (Prod.snd (Prod.snd (Prod.snd (Prod.snd (Prod.snd x))))) then (1 : Nat) else (0 : Nat)) < (2 : Nat) * cntG (Prod.fst x_2) (Int.toNat (Prod.snd (Prod.snd (Prod.snd (Prod.snd (Prod.snd (Prod.snd (Prod.snd (Prod.snd x_2))))))))) (Prod.fst (Prod.snd (Prod.snd x_2))) + bif Prod.fst (Prod.snd (Prod.snd (Prod.snd (Prod.snd (Prod.snd x_2))))) then (1 : Nat) else (0 : Nat))) (Holds (Prod.fst x_2 = Prod.fst x ∧ Prod.fst (Prod.snd (Prod.snd (Prod.snd x_2))) = contactsOf (Prod.fst x) ∧ Prod.fst (Prod.snd (Prod.snd (Prod.snd (Prod.snd (Prod.snd (Prod.snd (Prod.snd x_2))))))) = (↑(List.length (Prod.fst x)) : Int) ∧ (0 : Int) ≤ IntKind.wrap IntKind.i64 (Prod.snd (Prod.snd (Prod.snd (Prod.snd (Prod.snd (Prod.snd (Prod.snd (Prod.snd x_2))))))) + (1 : Int)) ∧ IntKind.wrap IntKind.i64 (Prod.snd (Prod.snd (Prod.snd (Prod.snd (Prod.snd (Prod.snd (Prod.snd (Prod.snd x_2))))))) + (1 : Int)) ≤ (↑(List.length (Prod.fst x)) : Int) ∧ IntKind.wrap IntKind.i64 (Prod.fst (Prod.snd (Prod.snd (Prod.snd (Prod.snd x_2)))) + (1 : Int)) = (↑(numX (Prod.fst x) (Int.toNat (IntKind.wrap IntKind.i64 (Prod.snd (Prod.snd (Prod.snd (Prod.snd (Prod.snd (Prod.snd (Prod.snd (Prod.snd x_2))))))) + (1 : Int))))) : Int) ∧ GInv (Prod.fst x) (Int.toNat (IntKind.wrap IntKind.i64 (Prod.snd (Prod.snd (Prod.snd (Prod.snd (Prod.snd (Prod.snd (Prod.snd (Prod.snd x_2))))))) + (1 : Int)))) (Prod.fst (Prod.snd (Prod.snd x_2)))) ∧ Int.toNat ((↑(List.length (Prod.fst x_2)) : Int) - IntKind.wrap IntKind.i64 (Prod.snd (Prod.snd (Prod.snd (Prod.snd (Prod.snd (Prod.snd (Prod.snd (Prod.snd x_2))))))) + (1 : Int))) < Int.toNat ((↑(List.length (Prod.fst x_1)) : Int) - Prod.snd (Prod.snd (Prod.snd (Prod.snd (Prod.snd (Prod.snd (Prod.snd x_1))))))))))) (Q (SV.vec (1 : Nat)) [(false, Blk.vec Ty.body (Prod.fst x_1)), (true, Blk.vec Ty.int (Prod.fst (Prod.snd (Prod.snd x_1))))])))) := by kernel_rfl

theorem ok_implGroups : FsOk Try.prog 25 fs_implGroups := fsOk_of tt_ok (tabFs_cons ok_implBodiesOk (tabFs_cons ok_implContacts (tabFs_cons ok_bodyFixed tabFs_nil))) mixed Try.func25 (by kernel_rfl) (by kernel_rfl) (by
    intro args LL p r HH h hp
    unfold fs_implGroups at h
    dsimp only at h
    split at h
    case h_2 => cases h
    rename_i xs
    simp only [Option.some.injEq, Prod.mk.injEq] at h
    obtain ⟨rfl, rfl, rfl⟩ := h
    refine ⟨by simp [Form, stays], (L_groups), ?_⟩
    rw [vc_implGroups]
    try dsimp only
    have hb := hp _ rfl
    refine ⟨by omega, ifB_of (fun c => ?_) (fun c => ?_)⟩
    · simp [groupsOf, not_true c]
    have hok := not_false c
    have hl := bodiesOk_len hok
    have hco : contactsOf xs = contactsF xs := by simp [contactsOf, hok]
    have hq := length_contactsF hl
    have hgo : groupsOf xs = groupsX xs := by simp [groupsOf, hok]
    rw [hgo]
    refine ⟨⟨by omega, (by trivial), by simp only [room, Int.toNat_natCast]; omega⟩, ⟨(by trivial), by simp, by simp, by omega, by omega, fun j hj => absurd hj (by simp)⟩, ?_⟩
    rintro ⟨xs', u, gs, n, i⟩ ⟨h⟩
    dsimp only at h ⊢
    obtain ⟨rfl, rfl, g1, i0, i1, i2⟩ := h
    refine ifB_of (fun c1 => ?_) (fun c1 => ?_)
    · have c1 := of_decide_eq_true c1
      have e1 : (i + 1).toNat = i.toNat + 1 := by omega
      have w : IntKind.i64.wrap (i + 1) = i + 1 := wrap_small (by omega) (by omega)
      rw [w, e1]
      refine ⟨⟨i0, by omega⟩, ⟨(by trivial), (by trivial), by rw [List.length_set]; exact g1, by omega, by omega, fun j hj => ?_⟩, by omega⟩
      rw [gi_set (by omega)]
      split
      · rfl
      · exact i2 j (by omega)
    · have c1 := of_decide_eq_false c1
      have hG0 : GInv xs' 0 gs := ⟨g1, fun j hj => by rw [i2 j (by omega)]; unfold gOf; simp⟩
      rw [hco]
      refine ⟨by omega, ⟨(by trivial), (by trivial), (by trivial), by omega, by omega, rfl, hG0⟩, ?_⟩
      clear g1 i0 i1 i2 c1 hG0
      rintro ⟨xs2, u2, gs2, cs, g, v, n, i⟩ ⟨h⟩
      dsimp only at h ⊢
      obtain ⟨rfl, rfl, rfl, i0, i1, rfl, hG⟩ := h
      refine ifB_of (fun c2 => ?_) (fun c2 => ?_)
      · have c2 := of_decide_eq_true c2
        have hi : i.toNat < xs2.length := by omega
        have e1 : (i + 1).toNat = i.toNat + 1 := by omega
        have w : IntKind.i64.wrap (i + 1) = i + 1 := wrap_small (by omega) (by omega)
        have hnl := num_le xs2 i.toNat
        have wg : IntKind.i64.wrap ((numX xs2 i.toNat : Int) + 1) = (numX xs2 i.toNat : Int) + 1 := wrap_small (by omega) (by omega)
        have hlead := ginv_lead hG hi
        rw [w, e1]
        refine ⟨⟨i0, by omega⟩, ifB_of (fun c3 => ?_) (fun c3 => ⟨⟨i0, by rw [hG.1]; omega⟩, ifB_of (fun c4 => ?_) (fun c4 => ?_)⟩)⟩
        · have hl0 : Grp.lead (freeB xs2) (cmX xs2) i.toNat = false := by
            rw [hlead]
            unfold freeB
            rw [c3]
            rfl
          obtain ⟨q1, q2⟩ := ginv_skip hG hl0
          exact ⟨⟨(by trivial), (by trivial), (by trivial), by omega, by omega, by rw [q2], q1⟩, by omega⟩
        · have c4 : ¬ gi gs2 i.toNat < 0 := Int.not_lt.2 (of_decide_eq_true c4)
          have hl0 : Grp.lead (freeB xs2) (cmX xs2) i.toNat = false := by rw [hlead, decide_eq_false c4, Bool.and_false]
          obtain ⟨q1, q2⟩ := ginv_skip hG hl0
          exact ⟨⟨(by trivial), (by trivial), (by trivial), by omega, by omega, by rw [q2], q1⟩, by omega⟩
        · have c4 : gi gs2 i.toNat < 0 := Int.not_le.1 (of_decide_eq_false c4)
          have hfree : freeB xs2 i.toNat = true := by
            unfold freeB
            rw [c3]
            rfl
          have hl1 : Grp.lead (freeB xs2) (cmX xs2) i.toNat = true := by
            rw [hlead, hfree, decide_eq_true c4]
            rfl
          have hcm := (lead_iff.1 hl1).2
          have hF := finv_start hG hi hfree hcm
          have hns : numX xs2 (i.toNat + 1) = numX xs2 i.toNat + 1 := by rw [num_succ, hl1]; rfl
          refine ⟨⟨i0, by rw [hG.1]; omega⟩, ⟨(by trivial), (by trivial), (by trivial), (by trivial), (by trivial), hF, fun q => by cases q⟩, ?_⟩
          clear hF hG hlead c4
          rintro ⟨xs3, u3, gs3, cs3, g3, ch, v3, n3, i3⟩ ⟨h⟩
          dsimp only at h ⊢
          obtain ⟨rfl, rfl, rfl, rfl, rfl, hF3, hch⟩ := h
          refine ifB_of (fun c5 => ?_) (fun c5 => ?_)
          · have c5 : ch = true := c5
            subst c5
            refine ⟨⟨(by trivial), (by trivial), (by trivial), (by trivial), (by trivial), (by trivial), by omega, by omega, hF3, (fun q => by cases q), fun _ => ⟨(by trivial), fun j hj => absurd hj (by simp)⟩⟩, ?_⟩
            rintro ⟨xs4, u4, gs4, cs4, g4, ch4, v4, n4, i4, w4, m4, k⟩ ⟨h⟩
            dsimp only at h ⊢
            obtain ⟨rfl, rfl, rfl, rfl, rfl, rfl, k0, k1, hF4, hlt, hno⟩ := h
            refine ifB_of (fun c6 => ?_) (fun c6 => ?_)
            · have c6 := of_decide_eq_true c6
              have hk : k.toNat < (contactsF xs4).length := by omega
              have hc := contact_ok0 hk
              have e3 : (k + 1).toNat = k.toNat + 1 := by omega
              have wk : IntKind.i64.wrap (k + 1) = k + 1 := wrap_small (by omega) (by omega)
              have stay : (freeB xs4 (Ty.ix .contact (contactsF xs4) k.toNat).A.toNat = true → freeB xs4 (Ty.ix .contact (contactsF xs4) k.toNat).B.toNat = true → (gi gs4 (Ty.ix .contact (contactsF xs4) k.toNat).A.toNat = numX xs4 i4.toNat ↔ gi gs4 (Ty.ix .contact (contactsF xs4) k.toNat).B.toNat = numX xs4 i4.toNat)) →
                  (ch4 = false → gs4 = gs3 ∧ ∀ j, j < k.toNat + 1 → freeB xs4 (Ty.ix .contact (contactsF xs4) j).A.toNat = true → freeB xs4 (Ty.ix .contact (contactsF xs4) j).B.toNat = true → (gi gs4 (Ty.ix .contact (contactsF xs4) j).A.toNat = numX xs4 i4.toNat ↔ gi gs4 (Ty.ix .contact (contactsF xs4) j).B.toNat = numX xs4 i4.toNat)) := by
                intro q hc4
                refine ⟨(hno hc4).1, fun j hj fa fb => ?_⟩
                by_cases e : j = k.toNat
                · rw [e] at fa fb ⊢
                  exact q fa fb
                · exact (hno hc4).2 j (by omega) fa fb
              rw [wk, e3]
              refine ⟨⟨k0, c6⟩, ⟨hc.1, hc.2.1⟩, ifB_of (fun d1 => ⟨⟨(by trivial), (by trivial), (by trivial), (by trivial), (by trivial), (by trivial), by omega, by omega, hF4, hlt, stay (fun fa => ?_)⟩, by omega⟩) (fun d1 => ⟨⟨hc.2.2.1, hc.2.2.2.1⟩, ifB_of (fun d2 => ⟨⟨(by trivial), (by trivial), (by trivial), (by trivial), (by trivial), (by trivial), by omega, by omega, hF4, hlt, stay (fun _ fb => ?_)⟩, by omega⟩) (fun d2 => ⟨⟨hc.1, by rw [hF4.1]; exact hc.2.1⟩, ⟨hc.2.2.1, by rw [hF4.1]; exact hc.2.2.2.1⟩, ifB_of (fun d3 => ⟨⟨(by trivial), (by trivial), (by trivial), (by trivial), (by trivial), (by trivial), by omega, by omega, hF4, hlt, stay (fun _ _ => ?_)⟩, by omega⟩) (fun d3 => ⟨⟨hc.1, by rw [hF4.1]; exact hc.2.1⟩, ⟨hc.2.2.1, by rw [List.length_set, hF4.1]; exact hc.2.2.2.1⟩, ⟨(by trivial), (by trivial), (by trivial), (by trivial), (by trivial), (by trivial), by omega, by omega, ?_, (fun _ => ?_), (fun q => by cases q)⟩, by omega⟩)⟩)⟩)⟩
              · unfold freeB at fa
                rw [d1] at fa
                cases fa
              · unfold freeB at fb
                rw [d2] at fb
                cases fb
              · have d3 : (gi gs4 (Ty.ix .contact (contactsF xs4) k.toNat).A.toNat == (numX xs4 i4.toNat : Int)) = (gi gs4 (Ty.ix .contact (contactsF xs4) k.toNat).B.toNat == (numX xs4 i4.toNat : Int)) := eq_of_beq d3
                refine ⟨fun h => ?_, fun h => ?_⟩
                · have := beq_iff_eq.2 h
                  rw [d3] at this
                  exact beq_iff_eq.1 this
                · have := beq_iff_eq.2 h
                  rw [← d3] at this
                  exact beq_iff_eq.1 this
              all_goals
                have d3 : (gi gs4 (Ty.ix .contact (contactsF xs4) k.toNat).A.toNat == (numX xs4 i4.toNat : Int)) ≠ (gi gs4 (Ty.ix .contact (contactsF xs4) k.toNat).B.toNat == (numX xs4 i4.toNat : Int)) := beq_eq_false_iff_ne.1 d3
                have fA : freeB xs4 (Ty.ix .contact (contactsF xs4) k.toNat).A.toNat = true := by unfold freeB; rw [d1]; rfl
                have fB : freeB xs4 (Ty.ix .contact (contactsF xs4) k.toNat).B.toNat = true := by unfold freeB; rw [d2]; rfl
                have he := mem_edges hc.2.2.2.2 fA fB
                have hx : (gi gs4 (Ty.ix .contact (contactsF xs4) k.toNat).A.toNat = numX xs4 i4.toNat ∧ gi gs4 (Ty.ix .contact (contactsF xs4) k.toNat).B.toNat ≠ numX xs4 i4.toNat) ∨ (gi gs4 (Ty.ix .contact (contactsF xs4) k.toNat).B.toNat = numX xs4 i4.toNat ∧ gi gs4 (Ty.ix .contact (contactsF xs4) k.toNat).A.toNat ≠ numX xs4 i4.toNat) := by
                  by_cases p1 : gi gs4 (Ty.ix .contact (contactsF xs4) k.toNat).A.toNat = numX xs4 i4.toNat <;> by_cases p2 : gi gs4 (Ty.ix .contact (contactsF xs4) k.toNat).B.toNat = numX xs4 i4.toNat
                  · exact absurd (by rw [p1, p2]) d3
                  · exact .inl ⟨p1, p2⟩
                  · exact .inr ⟨p2, p1⟩
                  · exact absurd (by rw [beq_eq_false_iff_ne.2 p1, beq_eq_false_iff_ne.2 p2]) d3
              · exact finv_step hF4 he (hx.imp (·.1) (·.1))
              · have h1 := cnt_step (xs := xs4) (i := i4.toNat) (gs := gs4) (a := (Ty.ix .contact (contactsF xs4) k.toNat).A.toNat) (b := (Ty.ix .contact (contactsF xs4) k.toNat).B.toNat) (by omega) (by omega) hF4.1 (hx.elim (fun q => .inr q.2) (fun q => .inl q.2))
                have h2 : cntG xs4 i4.toNat gs4 ≤ cntG xs4 i4.toNat gs3 := by
                  cases ch4 with
                  | true => exact Nat.le_of_lt (hlt rfl)
                  | false => rw [(hno rfl).1]; exact Nat.le_refl _
                exact Nat.lt_of_lt_of_le h1 h2
            · have c6 := of_decide_eq_false c6
              refine ⟨⟨(by trivial), (by trivial), (by trivial), (by trivial), (by trivial), hF4, fun q e he => ?_⟩, ?_⟩
              · obtain ⟨c0, hc0, rfl, f1, f2, _⟩ := of_edges he
                obtain ⟨j, hj, ej⟩ := List.getElem_of_mem hc0
                have e2 : Ty.ix .contact (contactsF xs4) j = c0 := ix_eq (T := .contact) (by rw [← ej]; exact List.getElem?_eq_getElem hj)
                have := (hno q).2 j (by omega) (by rw [e2]; exact f1) (by rw [e2]; exact f2)
                rw [e2] at this
                exact this
              · cases ch4 with
                | true =>
                  have := hlt rfl
                  simp only [cond_true]
                  omega
                | false =>
                  rw [(hno rfl).1]
                  simp only [cond_true, cond_false]
                  omega
          · have c5 : ch = false := c5
            have hG' := flood_done hF3 hi hfree hcm (hch c5)
            rw [w, e1, wg]
            exact ⟨⟨(by trivial), (by trivial), (by trivial), by omega, by omega, by rw [hns]; rfl, hG'⟩, by omega⟩
      · have c2 := of_decide_eq_false c2
        rw [show i.toNat = xs2.length by omega] at hG
        rw [groups_done hG]
        exact ⟨rfl, rfl⟩)

end
end Go.Proofs.Ytdhbkcaaijgocaa.Sym
