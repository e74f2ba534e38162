/-
  The pairs of a step.
  No condition.
-/
import Derived.Test.YtdhbkcaaijgocaaT2
namespace Go.Proofs.Ytdhbkcaaijgocaa.Sym
open Go
set_option linter.unusedVariables false
set_option linter.unusedSimpArgs false
set_option maxRecDepth 100000

noncomputable def pairC (xs : List Body) (c : Contact) : Pair := ⟨(Ty.ix .body xs c.A.toNat).Id, (Ty.ix .body xs c.B.toNat).Id⟩
noncomputable def pairsC (xs : List Body) (cs : List Contact) : List Pair := cs.map (pairC xs)
noncomputable def stepPairs (xs : List Body) : List Pair := pairsC xs (contactsOf xs)
theorem pairsC_drop {xs : List Body} {cs : List Contact} {i : Nat} (h : i < cs.length) : pairsC xs (cs.drop i) = pairC xs (Ty.ix .contact cs i) :: pairsC xs (cs.drop (i + 1)) := by
  rw [drop_ix (T := .contact) h]
  rfl
theorem length_pairsC (xs : List Body) (cs : List Contact) : (pairsC xs cs).length = cs.length := by simp [pairsC]
theorem ix_mem {T : Ty} {xs : List T.El} {i : Nat} (h : i < xs.length) : T.ix xs i ∈ xs := by
  have := ix_get (T := T) h
  exact List.mem_of_getElem? this
theorem contact_ok {xs : List Body} {i : Nat} (h : i < (contactsF xs).length) : 0 ≤ (Ty.ix .contact (contactsF xs) i).A ∧ (Ty.ix .contact (contactsF xs) i).A < xs.length ∧ 0 ≤ (Ty.ix .contact (contactsF xs) i).B ∧ (Ty.ix .contact (contactsF xs) i).B < xs.length ∧ (Ty.ix .contact (contactsF xs) i).A < (Ty.ix .contact (contactsF xs) i).B := by
  obtain ⟨a, b, h1, h2, h3, _⟩ := mem_contactsF (ix_mem (T := .contact) h)
  rw [h3]
  dsimp only
  omega
def LSl9p  : LS where
  S := List Body × Unit × List Pair × List Contact × Int
  live := [(0, [none]), (3, [some .pair]), (4, [some .contact]), (5, [none])]
  shape := fun s => ([.vec 0, .vec 1, .vec 2, .int .i64 s.2.2.2.2], [(false, .vec .body s.1), (true, .vec .pair s.2.2.1), (true, .vec .contact s.2.2.2.1)])
  get := fun v h => match v, h with
    | [.vec 0, .vec 1, .vec 2, .int .i64 i], [(false, .vec .body xs), (true, .vec .pair out), (true, .vec .contact cs)] => some (xs, (), out, cs, i)
    | _, _ => none
  inv := fun s0 s => Holds (s.1 = s0.1 ∧ s.2.2.2.1 = s0.2.2.2.1 ∧ 0 ≤ s.2.2.2.2 ∧ s.2.2.2.2 ≤ s0.2.2.2.1.length ∧ s.2.2.1 ++ pairsC s0.1 (s0.2.2.2.1.drop s.2.2.2.2.toNat) = pairsC s0.1 s0.2.2.2.1)
  mu := fun s => ((s.2.2.2.1.length : Int) - s.2.2.2.2).toNat
  ok := by
    intro v h s hg
    try dsimp only at hg
    split at hg <;> cases hg
    rfl

def L_l9p : Loops := fun n => match n with
  | 4 => some LSl9p
  | _ => none
def LSi9p  : LS where
  S := List Body × Unit × List Pair × List Contact × Int × Int
  live := [(0, [none]), (3, [some .pair]), (7, [some .contact]), (8, [none]), (9, [none])]
  shape := fun s => ([.vec 0, .vec 1, .vec 2, .int .i64 s.2.2.2.2.1, .int .i64 s.2.2.2.2.2], [(false, .vec .body s.1), (true, .vec .pair s.2.2.1), (true, .vec .contact s.2.2.2.1)])
  get := fun v h => match v, h with
    | [.vec 0, .vec 1, .vec 2, .int .i64 n, .int .i64 i], [(false, .vec .body xs), (true, .vec .pair out), (true, .vec .contact cs)] => some (xs, (), out, cs, n, i)
    | _, _ => none
  inv := fun s0 s => Holds (s.1 = s0.1 ∧ s.2.2.2.1 = s0.2.2.2.1 ∧ s.2.2.2.2.1 = s0.2.2.2.1.length ∧ 0 ≤ s.2.2.2.2.2 ∧ s.2.2.2.2.2 ≤ s0.2.2.2.1.length ∧ s.2.2.1 ++ pairsC s0.1 (s0.2.2.2.1.drop s.2.2.2.2.2.toNat) = pairsC s0.1 s0.2.2.2.1)
  mu := fun s => ((s.2.2.2.1.length : Int) - s.2.2.2.2.2).toNat
  ok := by
    intro v h s hg
    try dsimp only at hg
    split at hg <;> cases hg
    rfl

def L_i9p : Loops := fun n => match n with
  | 3 => some LSi9p
  | _ => none
theorem contact_ok' {xs : List Body} {i : Nat} (h : i < (contactsOf xs).length) : 0 ≤ (Ty.ix .contact (contactsOf xs) i).A ∧ (Ty.ix .contact (contactsOf xs) i).A < xs.length ∧ 0 ≤ (Ty.ix .contact (contactsOf xs) i).B ∧ (Ty.ix .contact (contactsOf xs) i).B < xs.length ∧ (Ty.ix .contact (contactsOf xs) i).A < (Ty.ix .contact (contactsOf xs) i).B := by
  unfold contactsOf at h ⊢
  cases q : bodiesOk xs with
  | true => rw [q] at h; exact contact_ok h
  | false => rw [q] at h; simp at h
noncomputable def fs_implStepPairs : Fs := ⟨[], fun args H => match args, H with
  | [.vec 0], [(false, .vec .body xs)] => some ((some (xs.length ≤ 1048576)), .vec 1, [(false, .vec .body xs), (true, .vec .pair (stepPairs xs))])
  | _, _ => none⟩

theorem vc_implStepPairs (xs : List Body) (Q : SV → List Ent → Prop) :
    fnVC tt (look [(29, fs_implContacts)]) (L_i9p) Try.f15 [.vec 0] [(false, .vec .body xs)] Q =
    (let A1_ := (↑(List.length (contactsOf xs)) : Int); List.length xs ≤ (1048576 : Nat) ∧ Holds (xs = xs ∧ contactsOf xs = contactsOf xs ∧ A1_ = A1_ ∧ (0 : Int) ≤ (0 : Int) ∧ (0 : Int) ≤ A1_ ∧ [] ++ pairsC xs (List.drop (Int.toNat (0 : Int)) (contactsOf xs)) = pairsC xs (contactsOf xs)) ∧ ∀ (x : List Body × Unit × List Pair × List Contact × Int × Int), Holds (Prod.fst x = xs ∧ Prod.fst (Prod.snd (Prod.snd (Prod.snd x))) = contactsOf xs ∧ Prod.fst (Prod.snd (Prod.snd (Prod.snd (Prod.snd x)))) = A1_ ∧ (0 : Int) ≤ Prod.snd (Prod.snd (Prod.snd (Prod.snd (Prod.snd x)))) ∧ Prod.snd (Prod.snd (Prod.snd (Prod.snd (Prod.snd x)))) ≤ A1_ ∧ Prod.fst (Prod.snd (Prod.snd x)) ++ pairsC xs (List.drop (Int.toNat (Prod.snd (Prod.snd (Prod.snd (Prod.snd (Prod.snd x)))))) (contactsOf xs)) = pairsC xs (contactsOf xs)) → ifB (decide (Prod.snd (Prod.snd (Prod.snd (Prod.snd (Prod.snd x)))) < Prod.fst (Prod.snd (Prod.snd (Prod.snd (Prod.snd x)))))) (((0 : Int) ≤ Prod.snd (Prod.snd (Prod.snd (Prod.snd (Prod.snd x)))) ∧ Prod.snd (Prod.snd (Prod.snd (Prod.snd (Prod.snd x)))) < (↑(List.length (Prod.fst (Prod.snd (Prod.snd (Prod.snd x))))) : Int)) ∧ ((0 : Int) ≤ Contact.A (Ty.ix Ty.contact (Prod.fst (Prod.snd (Prod.snd (Prod.snd x)))) (Int.toNat (Prod.snd (Prod.snd (Prod.snd (Prod.snd (Prod.snd x))))))) ∧ Contact.A (Ty.ix Ty.contact (Prod.fst (Prod.snd (Prod.snd (Prod.snd x)))) (Int.toNat (Prod.snd (Prod.snd (Prod.snd (Prod.snd (Prod.snd x))))))) < (↑(List.length (Prod.fst x)) : Int)) ∧ ((0 : Int) ≤ Contact.B (Ty.ix Ty.contact (Prod.fst (Prod.snd (Prod.snd (Prod.snd x)))) (Int.toNat (Prod.snd (Prod.snd (Prod.snd (Prod.snd (Prod.snd x))))))) ∧ Contact.B (Ty.ix Ty.contact (Prod.fst (Prod.snd (Prod.snd (Prod.snd x)))) (Int.toNat (Prod.snd (Prod.snd (Prod.snd (Prod.snd (Prod.snd x))))))) < (↑(List.length (Prod.fst x)) : Int)) ∧ (List.length (Prod.fst (Prod.snd (Prod.snd x))) + List.length [Pair.mk (Body.Id (Ty.ix Ty.body (Prod.fst x) (Int.toNat (Contact.A (Ty.ix Ty.contact (Prod.fst (Prod.snd (Prod.snd (Prod.snd x)))) (Int.toNat (Prod.snd (Prod.snd (Prod.snd (Prod.snd (Prod.snd x))))))))))) (Body.Id (Ty.ix Ty.body (Prod.fst x) (Int.toNat (Contact.B (Ty.ix Ty.contact (Prod.fst (Prod.snd (Prod.snd (Prod.snd x)))) (Int.toNat (Prod.snd (Prod.snd (Prod.snd (Prod.snd (Prod.snd x)))))))))))]) * (16 : Nat) ≤ room ∧ Holds (Prod.fst x = xs ∧ Prod.fst (Prod.snd (Prod.snd (Prod.snd x))) = contactsOf xs ∧ Prod.fst (Prod.snd (Prod.snd (Prod.snd (Prod.snd x)))) = A1_ ∧ (0 : Int) ≤ IntKind.wrap IntKind.i64 (Prod.snd (Prod.snd (Prod.snd (Prod.snd (Prod.snd x)))) + (1 : Int)) ∧ IntKind.wrap IntKind.i64 (Prod.snd (Prod.snd (Prod.snd (Prod.snd (Prod.snd x)))) + (1 : Int)) ≤ A1_ ∧ Prod.fst (Prod.snd (Prod.snd x)) ++ [Pair.mk (Body.Id (Ty.ix Ty.body (Prod.fst x) (Int.toNat (Contact.A (Ty.ix Ty.contact (Prod.fst (Prod.snd (Prod.snd (Prod.snd x)))) (Int.toNat (Prod.snd (Prod.snd (Prod.snd (Prod.snd (Prod.snd x))))))))))) (Body.Id (Ty.ix Ty.body (Prod.fst x) (Int.toNat (Contact.B (Ty.ix Ty.contact (Prod.fst (Prod.snd (Prod.snd (Prod.snd x)))) (Int.toNat (Prod.snd (Prod.snd (Prod.snd (Prod.snd (Prod.snd x)))))))))))] ++ pairsC xs (List.drop (Int.toNat (IntKind.wrap IntKind.i64 (Prod.snd (Prod.snd (Prod.snd (Prod.snd (Prod.snd x)))) + (1 : Int)))) (contactsOf xs)) = pairsC xs (contactsOf xs)) ∧ Int.toNat ((↑(List.length (Prod.fst (Prod.snd (Prod.snd (Prod.snd x))))) : Int) - IntKind.wrap IntKind.i64 (Prod.snd (Prod.snd (Prod.snd (Prod.snd (Prod.snd x)))) + (1 : Int))) < Int.toNat ((↑(List.length (Prod.fst (Prod.snd (Prod.snd (Prod.snd x))))) : Int) - Prod.snd (Prod.snd (Prod.snd (Prod.snd (Prod.snd x)))))) (Q (SV.vec (1 : Nat)) [(false, Blk.vec Ty.body (Prod.fst x)), (true, Blk.vec Ty.pair (Prod.fst (Prod.snd (Prod.snd x))))])) := by kernel_rfl

theorem ok_implStepPairs : FsOk Try.prog 15 fs_implStepPairs := fsOk_of tt_ok (tabFs_cons ok_implContacts tabFs_nil) mixed Try.func15 (by kernel_rfl) (by kernel_rfl) (by
    intro args LL p r HH h hp
    unfold fs_implStepPairs at h
    dsimp only at h
    split at h
    case h_2 => cases h
    rename_i xs
    simp only [Option.some.injEq, Prod.mk.injEq] at h
    obtain ⟨rfl, rfl, rfl⟩ := h
    refine ⟨by simp [Form, stays], (L_i9p), ?_⟩
    rw [vc_implStepPairs]
    try dsimp only
    have hb := hp _ rfl
    have hq := length_contactsOf xs
    refine ⟨hb, ⟨(by trivial), (by trivial), (by trivial), by omega, by omega, (by trivial)⟩, ?_⟩
    rintro ⟨xs', u, out, cs, n, i⟩ ⟨h⟩
    dsimp only at h ⊢
    obtain ⟨rfl, rfl, rfl, i0, i1, i2⟩ := h
    have hs2 := congrArg List.length i2
    rw [List.length_append, length_pairsC, length_pairsC, List.length_drop] at hs2
    refine ifB_of (fun c3 => ?_) (fun c3 => ?_)
    · have c3 := of_decide_eq_true c3
      have e1 : (i + 1).toNat = i.toNat + 1 := by omega
      have w : IntKind.i64.wrap (i + 1) = i + 1 := wrap_small (by omega) (by omega)
      have hi : i.toNat < (contactsOf xs').length := by omega
      rw [pairsC_drop hi] at i2
      rw [w, e1]
      have hc := contact_ok' hi
      refine ⟨⟨i0, c3⟩, ⟨hc.1, hc.2.1⟩, ⟨hc.2.2.1, hc.2.2.2.1⟩, by simp only [room, List.length_singleton]; omega, ⟨(by trivial), (by trivial), (by trivial), by omega, by omega, ?_⟩, by omega⟩
      rw [← i2, List.append_assoc]
      rfl
    · have c3 := of_decide_eq_false c3
      rw [drop_end (by omega)] at i2
      unfold stepPairs
      rw [← i2]
      simp [pairsC])

theorem length_stepPairs (xs : List Body) : (stepPairs xs).length ≤ 144 := by
  unfold stepPairs
  rw [length_pairsC]
  exact length_contactsOf xs
end Go.Proofs.Ytdhbkcaaijgocaa.Sym
