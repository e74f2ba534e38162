/-
  Pushed and moved apart: the laws.
  No condition.
-/
import Derived.Test.YthkdelepjndacaaP2
namespace Go.Proofs.Ythkdelepjndacaa.Sym
open Go
set_option linter.unusedVariables false
set_option linter.unusedSimpArgs false
set_option maxRecDepth 100000

def ctI (n : Int) (c : Contact) : Bool := isIn c.A 0 (W (n - 1)) && isIn c.B 0 (W (n - 1)) && !(c.A == c.B) && hitOk c.Hit
def ctsI (n : Int) (cs : List Contact) : Bool := allTo (fun e => ctI n (Ty.ix .contact cs e)) cs.length && decide (cs.length ≤ 144)
theorem ctsI_ok {n : Nat} {cs : List Contact} (hn : n ≤ 1048576) (h : ctsI n cs = true) : CtsOk n cs := by
  simp only [ctsI, Bool.and_eq_true, decide_eq_true_eq] at h
  refine ⟨h.2, fun k hk => ?_⟩
  have h1 : ctI n (Ty.ix .contact cs k) = true := by
    cases q : ctI n (Ty.ix .contact cs k) with
    | true => rfl
    | false => rw [allTo_false (p := fun e => ctI n (Ty.ix .contact cs e)) q hk] at h; simp at h
  have w : W ((n : Int) - 1) = n - 1 := wrap_small (by omega) (by omega)
  simp only [ctI, w, isIn, Bool.and_eq_true, decide_eq_true_eq, Bool.not_eq_true', beq_eq_false_iff_ne] at h1
  obtain ⟨⟨⟨h1, h2⟩, h3⟩, h4⟩ := h1
  exact ⟨by omega, by omega, by omega, by omega, h3⟩
def pushesOk (xs : List Body) (cs : List Contact) : Bool := bodiesOk xs && ctsI xs.length cs
def pushAllB (xs : List Body) (cs : List Contact) : List Body := bif pushesOk xs cs then pushAllF xs cs else []
def apartB (xs : List Body) (cs : List Contact) : List Body := bif pushesOk xs cs then apartF xs cs else []

theorem ix_mem3 {T : Ty} {xs : List T.El} {i : Nat} (h : i < xs.length) : T.ix xs i ∈ xs := List.mem_of_getElem? (ix_get (T := T) h)
def LSsl8c  : LS where
  S := List Body × List Contact × Unit × Unit × Int
  live := [(0, [none]), (1, [none]), (5, [none])]
  shape := fun s => ([.vec 0, .vec 1, .int .i64 s.2.2.2.2], [(false, .vec .body s.1), (false, .vec .contact s.2.1)])
  get := fun v h => match v, h with
    | [.vec 0, .vec 1, .int .i64 i], [(false, .vec .body xs), (false, .vec .contact cs)] => some (xs, cs, (), (), i)
    | _, _ => none
  inv := fun s0 s => Holds (s.1 = s0.1 ∧ s.2.1 = s0.2.1 ∧ 0 ≤ s.2.2.2.2 ∧ s.2.2.2.2 ≤ s0.2.1.length ∧ allTo (fun e => ctI s0.1.length (Ty.ix .contact s0.2.1 e)) s.2.2.2.2.toNat = true)
  mu := fun s => ((s.2.1.length : Int) - s.2.2.2.2).toNat
  ok := by
    intro v h s hg
    try dsimp only at hg
    split at hg <;> cases hg
    rfl

def L_sl8c : Loops := fun n => match n with
  | 2 => some LSsl8c
  | _ => none
noncomputable def fs_specCtsOk : Fs := ⟨[], fun args H => match args, H with
  | [.vec 0, .vec 1], [(false, .vec .body xs), (false, .vec .contact cs)] => some ((some (xs.length ≤ 1048576 ∧ cs.length ≤ 4611686018427387904)), .bool (ctsI xs.length cs), [(false, .vec .body xs), (false, .vec .contact cs)])
  | _, _ => none⟩

theorem vc_specCtsOk (xs : List Body) (cs : List Contact) (Q : SV → List Ent → Prop) :
    fnVC tt (look [(96, fs_l1In), (98, fs_specHitOk)]) (L_sl8c) Try.f52 [.vec 0, .vec 1] [(false, .vec .body xs), (false, .vec .contact cs)] Q =
    (Holds (xs = xs ∧ cs = cs ∧ (0 : Int) ≤ (0 : Int) ∧ (0 : Int) ≤ (↑(List.length cs) : Int) ∧ allTo (fun e => ctI (↑(List.length xs) : Int) (Ty.ix Ty.contact cs e)) (Int.toNat (0 : Int)) = true) ∧ ∀ (x : List Body × List Contact × Unit × Unit × Int), Holds (Prod.fst x = xs ∧ Prod.fst (Prod.snd x) = cs ∧ (0 : Int) ≤ Prod.snd (Prod.snd (Prod.snd (Prod.snd x))) ∧ Prod.snd (Prod.snd (Prod.snd (Prod.snd x))) ≤ (↑(List.length cs) : Int) ∧ allTo (fun e => ctI (↑(List.length xs) : Int) (Ty.ix Ty.contact cs e)) (Int.toNat (Prod.snd (Prod.snd (Prod.snd (Prod.snd x))))) = true) → ifB (decide (Prod.snd (Prod.snd (Prod.snd (Prod.snd x))) < (↑(List.length (Prod.fst (Prod.snd x))) : Int))) (((0 : Int) ≤ Prod.snd (Prod.snd (Prod.snd (Prod.snd x))) ∧ Prod.snd (Prod.snd (Prod.snd (Prod.snd x))) < (↑(List.length (Prod.fst (Prod.snd x))) : Int)) ∧ ifB (!isIn (Contact.A (Ty.ix Ty.contact (Prod.fst (Prod.snd x)) (Int.toNat (Prod.snd (Prod.snd (Prod.snd (Prod.snd x))))))) (0 : Int) (IntKind.wrap IntKind.i64 ((↑(List.length (Prod.fst x)) : Int) - (1 : Int)))) (Q (SV.bool false) [(false, Blk.vec Ty.body (Prod.fst x)), (false, Blk.vec Ty.contact (Prod.fst (Prod.snd x)))]) (ifB (!isIn (Contact.B (Ty.ix Ty.contact (Prod.fst (Prod.snd x)) (Int.toNat (Prod.snd (Prod.snd (Prod.snd (Prod.snd x))))))) (0 : Int) (IntKind.wrap IntKind.i64 ((↑(List.length (Prod.fst x)) : Int) - (1 : Int)))) (Q (SV.bool false) [(false, Blk.vec Ty.body (Prod.fst x)), (false, Blk.vec Ty.contact (Prod.fst (Prod.snd x)))]) (ifB (Contact.A (Ty.ix Ty.contact (Prod.fst (Prod.snd x)) (Int.toNat (Prod.snd (Prod.snd (Prod.snd (Prod.snd x)))))) == Contact.B (Ty.ix Ty.contact (Prod.fst (Prod.snd x)) (Int.toNat (Prod.snd (Prod.snd (Prod.snd (Prod.snd x))))))) (Q (SV.bool false) [(false, Blk.vec Ty.body (Prod.fst x)), (false, Blk.vec Ty.contact (Prod.fst (Prod.snd x)))]) (ifB (!hitOk (Contact.Hit (Ty.ix Ty.contact (Prod.fst (Prod.snd x)) (Int.toNat (Prod.snd (Prod.snd (Prod.snd (Prod.snd x)))))))) (Q (SV.bool false) [(false, Blk.vec Ty.body (Prod.fst x)), (false, Blk.vec Ty.contact (Prod.fst (Prod.snd x)))]) (Holds (Prod.fst x = xs ∧ Prod.fst (Prod.snd x) = cs ∧ (0 : Int) ≤ IntKind.wrap IntKind.i64 (Prod.snd (Prod.snd (Prod.snd (Prod.snd x))) + (1 : Int)) ∧ IntKind.wrap IntKind.i64 (Prod.snd (Prod.snd (Prod.snd (Prod.snd x))) + (1 : Int)) ≤ (↑(List.length cs) : Int) ∧ allTo (fun e => ctI (↑(List.length xs) : Int) (Ty.ix Ty.contact cs e)) (Int.toNat (IntKind.wrap IntKind.i64 (Prod.snd (Prod.snd (Prod.snd (Prod.snd x))) + (1 : Int)))) = true) ∧ Int.toNat ((↑(List.length (Prod.fst (Prod.snd x))) : Int) - IntKind.wrap IntKind.i64 (Prod.snd (Prod.snd (Prod.snd (Prod.snd x))) + (1 : Int))) < Int.toNat ((↑(List.length (Prod.fst (Prod.snd x))) : Int) - Prod.snd (Prod.snd (Prod.snd (Prod.snd x))))))))) (Q (SV.bool (decide ((↑(List.length (Prod.fst (Prod.snd x))) : Int) ≤ (144 : Int)))) [(false, Blk.vec Ty.body (Prod.fst x)), (false, Blk.vec Ty.contact (Prod.fst (Prod.snd x)))])) := by kernel_rfl

theorem ok_specCtsOk : FsOk Try.prog 52 fs_specCtsOk := fsOk_of tt_ok (tabFs_cons ok_l1In (tabFs_cons ok_specHitOk tabFs_nil)) mixed Try.func52 (by kernel_rfl) (by kernel_rfl) (by
    intro args LL p r HH h hp
    unfold fs_specCtsOk at h
    dsimp only at h
    split at h
    case h_2 => cases h
    rename_i xs cs
    simp only [Option.some.injEq, Prod.mk.injEq] at h
    obtain ⟨rfl, rfl, rfl⟩ := h
    refine ⟨by simp [Form, stays], (L_sl8c), ?_⟩
    rw [vc_specCtsOk]
    try dsimp only
    obtain ⟨hb, hb2⟩ := hp _ rfl
    refine ⟨⟨(by trivial), (by trivial), by omega, by omega, rfl⟩, ?_⟩
    rintro ⟨xs', cs', u, v, i⟩ ⟨h⟩
    dsimp only at h ⊢
    obtain ⟨rfl, rfl, i0, i1, i2⟩ := h
    have bad : ctI xs'.length (Ty.ix .contact cs' i.toNat) = false → i < cs'.length → ctsI xs'.length cs' = false := by
      intro q hi
      unfold ctsI
      rw [allTo_false (p := fun e => ctI xs'.length (Ty.ix .contact cs' e)) (k := i.toNat) q (by omega)]
      rfl
    refine ifB_of (fun c => ?_) (fun c => ?_)
    · have hi := of_decide_eq_true c
      have e1 : (i + 1).toNat = i.toNat + 1 := by omega
      refine ⟨⟨i0, hi⟩, ifB_of (fun c1 => ?_) (fun c1 => ifB_of (fun c2 => ?_) (fun c2 => ifB_of (fun c3 => ?_) (fun c3 => ifB_of (fun c4 => ?_) (fun c4 => ?_))))⟩
      · have c1 := not_true c1
        rw [bad (by simp [ctI, W, c1]) hi]
        exact ⟨rfl, rfl⟩
      · have c2 := not_true c2
        rw [bad (by simp [ctI, W, c2]) hi]
        exact ⟨rfl, rfl⟩
      · rw [bad (by simp only [ctI, c3, Bool.not_true, Bool.and_false, Bool.false_and]) hi]
        exact ⟨rfl, rfl⟩
      · have c4 := not_true c4
        rw [bad (by simp only [ctI, c4, Bool.and_false]) hi]
        exact ⟨rfl, rfl⟩
      · have good : ctI xs'.length (Ty.ix .contact cs' i.toNat) = true := by
          unfold ctI W
          rw [not_false c1, not_false c2, c3, not_false c4]
          rfl
        rw [show IntKind.i64.wrap (i + 1) = i + 1 from wrap_small (by omega) (by omega), e1]
        refine ⟨⟨(by trivial), (by trivial), by omega, by omega, ?_⟩, by omega⟩
        simp only [allTo, i2, good, Bool.and_self]
    · have hi := of_decide_eq_false c
      have e : i.toNat = cs'.length := by omega
      rw [e] at i2
      unfold ctsI
      rw [i2, Bool.true_and]
      refine ⟨?_, rfl⟩
      congr 1
      rw [decide_eq_decide]
      omega)

noncomputable def fs_notOk : Fs := ⟨[], fun args H => match args, H with
  | [.agg [.int .i64 cA, .int .i64 cB, .int .i64 cX, .int .i64 cY, .int .i64 cD], .ptr 1 0 0], [(false, .vec .body xs), (true, .box [.vec 0])] => some (none, .bool (!ctI xs.length ⟨cA, cB, ⟨⟨cX, cY⟩, cD⟩⟩), [(false, .vec .body xs), (true, .box [.vec 0])])
  | _, _ => none⟩

theorem vc_notOk (cA : Int) (cB : Int) (cX : Int) (cY : Int) (cD : Int) (xs : List Body) (Q : SV → List Ent → Prop) :
    fnVC tt (look [(91, fs_in_), (103, fs_implHitOk)]) L0 Try.f102 [.agg [.int .i64 cA, .int .i64 cB, .int .i64 cX, .int .i64 cY, .int .i64 cD], .ptr 1 0 0] [(false, .vec .body xs), (true, .box [.vec 0])] Q =
    (ifB (!isIn cA (0 : Int) (IntKind.wrap IntKind.i64 ((↑(List.length xs) : Int) - (1 : Int)))) (Q (SV.bool true) [(false, Blk.vec Ty.body xs), (true, Blk.box [SV.vec (0 : Nat)])]) (ifB (!isIn cB (0 : Int) (IntKind.wrap IntKind.i64 ((↑(List.length xs) : Int) - (1 : Int)))) (Q (SV.bool true) [(false, Blk.vec Ty.body xs), (true, Blk.box [SV.vec (0 : Nat)])]) (ifB (cA == cB) (Q (SV.bool true) [(false, Blk.vec Ty.body xs), (true, Blk.box [SV.vec (0 : Nat)])]) (Q (SV.bool !hitOk (Hit.mk (Vec.mk cX cY) cD)) [(false, Blk.vec Ty.body xs), (true, Blk.box [SV.vec (0 : Nat)])])))) := by kernel_rfl

theorem ok_notOk : FsOk Try.prog 102 fs_notOk := fsOk_of tt_ok (tabFs_cons ok_in_ (tabFs_cons ok_implHitOk tabFs_nil)) mixed Try.func102 (by kernel_rfl) (by kernel_rfl) (by
    intro args LL p r HH h hp
    unfold fs_notOk at h
    dsimp only at h
    split at h
    case h_2 => cases h
    rename_i cA cB cX cY cD xs
    simp only [Option.some.injEq, Prod.mk.injEq] at h
    obtain ⟨rfl, rfl, rfl⟩ := h
    refine ⟨by simp [Form, stays], L0, ?_⟩
    rw [vc_notOk]
    try dsimp only
    unfold ctI W
    refine ifB_of (fun c1 => ?_) (fun c1 => ifB_of (fun c2 => ?_) (fun c2 => ifB_of (fun c3 => ?_) (fun c3 => ?_)))
    · rw [not_true c1]; exact ⟨rfl, rfl⟩
    · rw [not_true c2, Bool.and_false]; exact ⟨rfl, rfl⟩
    · simp only [c3, Bool.not_true, Bool.and_false, Bool.false_and, Bool.not_false]; exact ⟨(by trivial), (by trivial)⟩
    · simp only [not_false c1, not_false c2, c3, Bool.not_false, Bool.true_and]; exact ⟨(by trivial), (by trivial)⟩)

def LSidxC  : LS where
  S := List Contact × List Body × Unit × Unit × Unit × Int × Int
  live := [(0, [none]), (1, [none]), (7, [none]), (8, [none])]
  shape := fun s => ([.vec 0, .fn 102 (some 2), .int .i64 s.2.2.2.2.2.1, .int .i64 s.2.2.2.2.2.2], [(false, .vec .contact s.1), (false, .vec .body s.2.1), (true, .box [.vec 1])])
  get := fun v h => match v, h with
    | [.vec 0, .fn 102 (some 2), .int .i64 n, .int .i64 i], [(false, .vec .contact cs), (false, .vec .body xs), (true, .box [.vec 1])] => some (cs, xs, (), (), (), n, i)
    | _, _ => none
  inv := fun s0 s => Holds (s.1 = s0.1 ∧ s.2.1 = s0.2.1 ∧ s.2.2.2.2.2.1 = s0.1.length ∧ 0 ≤ s.2.2.2.2.2.2 ∧ s.2.2.2.2.2.2 ≤ s0.1.length ∧ (∀ k, k < s.2.2.2.2.2.2.toNat → (!ctI s0.2.1.length (Ty.ix .contact s0.1 k)) = false))
  mu := fun s => ((s.1.length : Int) - s.2.2.2.2.2.2).toNat
  ok := by
    intro v h s hg
    try dsimp only at hg
    split at hg <;> cases hg
    rfl

def L_idxC : Loops := fun n => match n with
  | 2 => some LSidxC
  | _ => none
noncomputable def fs_idxC : Fs := ⟨[], fun args H => match args, H with
  | [.vec 0, .fn 102 (some 2)], [(false, .vec .contact cs), (false, .vec .body xs), (true, .box [.vec 1])] => some ((some (cs.length ≤ 4611686018427387904)), .int .i64 (firstI (fun y : Contact => !ctI xs.length y) cs), [(false, .vec .contact cs), (false, .vec .body xs), (true, .box [.vec 1])])
  | _, _ => none⟩

theorem vc_idxC (cs : List Contact) (xs : List Body) (Q : SV → List Ent → Prop) :
    fnVC tt (look [(102, fs_notOk)]) (L_idxC) Try.f151 [.vec 0, .fn 102 (some 2)] [(false, .vec .contact cs), (false, .vec .body xs), (true, .box [.vec 1])] Q =
    (Holds (cs = cs ∧ xs = xs ∧ (↑(List.length cs) : Int) = (↑(List.length cs) : Int) ∧ (0 : Int) ≤ (0 : Int) ∧ (0 : Int) ≤ (↑(List.length cs) : Int) ∧ ∀ (k : Nat), k < Int.toNat (0 : Int) → (!ctI (↑(List.length xs) : Int) (Ty.ix Ty.contact cs k)) = false) ∧ ∀ (x : List Contact × List Body × Unit × Unit × Unit × Int × Int), Holds (Prod.fst x = cs ∧ Prod.fst (Prod.snd x) = xs ∧ Prod.fst (Prod.snd (Prod.snd (Prod.snd (Prod.snd (Prod.snd x))))) = (↑(List.length cs) : Int) ∧ (0 : Int) ≤ Prod.snd (Prod.snd (Prod.snd (Prod.snd (Prod.snd (Prod.snd x))))) ∧ Prod.snd (Prod.snd (Prod.snd (Prod.snd (Prod.snd (Prod.snd x))))) ≤ (↑(List.length cs) : Int) ∧ ∀ (k : Nat), k < Int.toNat (Prod.snd (Prod.snd (Prod.snd (Prod.snd (Prod.snd (Prod.snd x)))))) → (!ctI (↑(List.length xs) : Int) (Ty.ix Ty.contact cs k)) = false) → ifB (decide (Prod.snd (Prod.snd (Prod.snd (Prod.snd (Prod.snd (Prod.snd x))))) < Prod.fst (Prod.snd (Prod.snd (Prod.snd (Prod.snd (Prod.snd x))))))) (((0 : Int) ≤ Prod.snd (Prod.snd (Prod.snd (Prod.snd (Prod.snd (Prod.snd x))))) ∧ Prod.snd (Prod.snd (Prod.snd (Prod.snd (Prod.snd (Prod.snd x))))) < (↑(List.length (Prod.fst x)) : Int)) ∧ ifB (!ctI (↑(List.length (Prod.fst (Prod.snd x))) : Int) (Ty.ix Ty.contact (Prod.fst x) (Int.toNat (Prod.snd (Prod.snd (Prod.snd (Prod.snd (Prod.snd (Prod.snd x))))))))) (Q (SV.int IntKind.i64 (Prod.snd (Prod.snd (Prod.snd (Prod.snd (Prod.snd (Prod.snd x))))))) [(false, Blk.vec Ty.contact (Prod.fst x)), (false, Blk.vec Ty.body (Prod.fst (Prod.snd x))), (true, Blk.box [SV.vec (1 : Nat)])]) (Holds (Prod.fst x = cs ∧ Prod.fst (Prod.snd x) = xs ∧ Prod.fst (Prod.snd (Prod.snd (Prod.snd (Prod.snd (Prod.snd x))))) = (↑(List.length cs) : Int) ∧ (0 : Int) ≤ IntKind.wrap IntKind.i64 (Prod.snd (Prod.snd (Prod.snd (Prod.snd (Prod.snd (Prod.snd x))))) + (1 : Int)) ∧ IntKind.wrap IntKind.i64 (Prod.snd (Prod.snd (Prod.snd (Prod.snd (Prod.snd (Prod.snd x))))) + (1 : Int)) ≤ (↑(List.length cs) : Int) ∧ ∀ (k : Nat), k < Int.toNat (IntKind.wrap IntKind.i64 (Prod.snd (Prod.snd (Prod.snd (Prod.snd (Prod.snd (Prod.snd x))))) + (1 : Int))) → (!ctI (↑(List.length xs) : Int) (Ty.ix Ty.contact cs k)) = false) ∧ Int.toNat ((↑(List.length (Prod.fst x)) : Int) - IntKind.wrap IntKind.i64 (Prod.snd (Prod.snd (Prod.snd (Prod.snd (Prod.snd (Prod.snd x))))) + (1 : Int))) < Int.toNat ((↑(List.length (Prod.fst x)) : Int) - Prod.snd (Prod.snd (Prod.snd (Prod.snd (Prod.snd (Prod.snd x)))))))) (Q (SV.int IntKind.i64 (-1 : Int)) [(false, Blk.vec Ty.contact (Prod.fst x)), (false, Blk.vec Ty.body (Prod.fst (Prod.snd x))), (true, Blk.box [SV.vec (1 : Nat)])])) := by kernel_rfl

theorem ok_idxC : FsOk Try.prog 151 fs_idxC := fsOk_of tt_ok (tabFs_cons ok_notOk tabFs_nil) mixed Try.func151 (by kernel_rfl) (by kernel_rfl) (by
    intro args LL p r HH h hp
    unfold fs_idxC at h
    dsimp only at h
    split at h
    case h_2 => cases h
    rename_i cs xs
    simp only [Option.some.injEq, Prod.mk.injEq] at h
    obtain ⟨rfl, rfl, rfl⟩ := h
    refine ⟨by simp [Form, stays], (L_idxC), ?_⟩
    rw [vc_idxC]
    try dsimp only
    have hb := hp _ rfl
    refine ⟨⟨(by trivial), (by trivial), (by trivial), by omega, by omega, fun k hk => absurd hk (by simp)⟩, ?_⟩
    rintro ⟨cs', xs', b, u, f, n, i⟩ ⟨h⟩
    dsimp only at h ⊢
    obtain ⟨rfl, rfl, rfl, h0, h1, h3⟩ := h
    refine ifB_of (fun c => ?_) (fun c => ?_)
    · have hi : i < cs'.length := of_decide_eq_true c
      have e1 : (i + 1).toNat = i.toNat + 1 := by omega
      refine ⟨⟨h0, hi⟩, ifB_of (fun c1 => ?_) (fun c1 => ?_)⟩
      · rw [firstI_at (T := .contact) (p := fun y : Contact => !ctI xs'.length y) (i := i.toNat) (by omega) c1 h3]
        refine ⟨?_, (by trivial)⟩
        congr 1
        omega
      · simp (disch := omega) only [wrap_small, e1]
        refine ⟨⟨(by trivial), (by trivial), (by trivial), by omega, by omega, fun k hk => ?_⟩, by omega⟩
        by_cases e : k = i.toNat
        · rw [e]; exact c1
        · exact h3 k (by omega)
    · have hi : ¬ i < cs'.length := of_decide_eq_false c
      rw [firstI_no (T := .contact) (p := fun y : Contact => !ctI xs'.length y) fun k hk => h3 k (by omega)]
      exact ⟨rfl, rfl⟩)

noncomputable def fs_hasC : Fs := ⟨[], fun args H => match args, H with
  | [.vec 0, .fn 102 (some 2)], [(false, .vec .contact cs), (false, .vec .body xs), (true, .box [.vec 1])] => some ((some (cs.length ≤ 4611686018427387904)), .bool (cs.any fun y => !ctI xs.length y), [(false, .vec .contact cs), (false, .vec .body xs), (true, .box [.vec 1])])
  | _, _ => none⟩

theorem vc_hasC (cs : List Contact) (xs : List Body) (Q : SV → List Ent → Prop) :
    fnVC tt (look [(151, fs_idxC)]) L0 Try.f104 [.vec 0, .fn 102 (some 2)] [(false, .vec .contact cs), (false, .vec .body xs), (true, .box [.vec 1])] Q =
    (List.length cs ≤ (4611686018427387904 : Nat) ∧ Q (SV.bool (decide (firstI (fun y => !ctI (↑(List.length xs) : Int) y) cs ≥ (0 : Int)))) [(false, Blk.vec Ty.contact cs), (false, Blk.vec Ty.body xs), (true, Blk.box [SV.vec (1 : Nat)])]) := by kernel_rfl

theorem ok_hasC : FsOk Try.prog 104 fs_hasC := fsOk_of tt_ok (tabFs_cons ok_idxC tabFs_nil) mixed Try.func104 (by kernel_rfl) (by kernel_rfl) (by
    intro args LL p r HH h hp
    unfold fs_hasC at h
    dsimp only at h
    split at h
    case h_2 => cases h
    rename_i cs xs
    simp only [Option.some.injEq, Prod.mk.injEq] at h
    obtain ⟨rfl, rfl, rfl⟩ := h
    refine ⟨by simp [Form, stays], L0, ?_⟩
    rw [vc_hasC]
    try dsimp only
    have hb := hp _ rfl
    rw [firstI_neg]
    exact ⟨hb, (by trivial), (by trivial)⟩)

noncomputable def fs_implCtsOk : Fs := ⟨[], fun args H => match args, H with
  | [.vec 0, .vec 1], [(false, .vec .body xs), (false, .vec .contact cs)] => some ((some (xs.length ≤ 1048576 ∧ cs.length ≤ 4611686018427387904)), .bool (pushesOk xs cs), [(false, .vec .body xs), (false, .vec .contact cs)])
  | _, _ => none⟩

theorem vc_implCtsOk (xs : List Body) (cs : List Contact) (Q : SV → List Ent → Prop) :
    fnVC tt (look [(97, fs_implBodiesOk), (104, fs_hasC)]) L0 Try.f55 [.vec 0, .vec 1] [(false, .vec .body xs), (false, .vec .contact cs)] Q =
    (List.length xs ≤ (4611686018427387904 : Nat) ∧ ifB (bodiesOk xs) (ifB (decide ((↑(List.length cs) : Int) ≤ (144 : Int))) (List.length cs ≤ (4611686018427387904 : Nat) ∧ Q (SV.bool !List.any cs fun y => !ctI (↑(List.length xs) : Int) y) [(false, Blk.vec Ty.body xs), (false, Blk.vec Ty.contact cs)]) (Q (SV.bool false) [(false, Blk.vec Ty.body xs), (false, Blk.vec Ty.contact cs)])) (Q (SV.bool false) [(false, Blk.vec Ty.body xs), (false, Blk.vec Ty.contact cs)])) := by kernel_rfl

theorem ok_implCtsOk : FsOk Try.prog 55 fs_implCtsOk := fsOk_of tt_ok (tabFs_cons ok_implBodiesOk (tabFs_cons ok_hasC tabFs_nil)) mixed Try.func55 (by kernel_rfl) (by kernel_rfl) (by
    intro args LL p r HH h hp
    unfold fs_implCtsOk at h
    dsimp only at h
    split at h
    case h_2 => cases h
    rename_i xs cs
    simp only [Option.some.injEq, Prod.mk.injEq] at h
    obtain ⟨rfl, rfl, rfl⟩ := h
    refine ⟨by simp [Form, stays], L0, ?_⟩
    rw [vc_implCtsOk]
    try dsimp only
    obtain ⟨hb, hb2⟩ := hp _ rfl
    have ha : (!cs.any fun y => !ctI xs.length y) = allTo (fun e => ctI xs.length (Ty.ix .contact cs e)) cs.length := by
      cases q : cs.any fun y => !ctI xs.length y with
      | true =>
        obtain ⟨y, hy, hy2⟩ := List.any_eq_true.1 q
        obtain ⟨k, hk, e⟩ := List.getElem_of_mem hy
        subst e
        have hy2' : ctI xs.length cs[k] = false := by simpa using hy2
        have e2 : Ty.ix .contact cs k = cs[k] := ix_eq (T := .contact) (List.getElem?_eq_getElem hk)
        rw [allTo_false (p := fun e => ctI xs.length (Ty.ix .contact cs e)) (k := k) (by rw [e2]; exact hy2')  hk]
        rfl
      | false =>
        rw [allTo_true fun k hk => ?_]
        · rfl
        · have := List.any_eq_false.1 q _ (ix_mem3 (T := .contact) hk)
          simpa using this
    unfold pushesOk ctsI
    rw [← ha]
    refine ⟨by omega, ifB_of (fun c1 => ifB_of (fun c2 => ⟨hb2, ?_⟩) (fun c2 => ?_)) (fun c1 => ?_)⟩
    · have c2 := of_decide_eq_true c2
      rw [c1, Bool.true_and, decide_eq_true (show cs.length ≤ 144 by omega), Bool.and_true]
      exact ⟨rfl, rfl⟩
    · have c2 := of_decide_eq_false c2
      rw [decide_eq_false (show ¬ cs.length ≤ 144 by omega), Bool.and_false, Bool.and_false]
      exact ⟨rfl, rfl⟩
    · rw [c1]
      exact ⟨rfl, rfl⟩)

noncomputable def fs_specPushAll : Fs := ⟨[], fun args H => match args, H with
  | [.vec 0, .vec 1], [(false, .vec .body xs), (false, .vec .contact cs)] => some ((some (xs.length ≤ 1048576 ∧ cs.length ≤ 4611686018427387904)), .vec 2, [(false, .vec .body xs), (false, .vec .contact cs), (true, .vec .body (pushAllB xs cs))])
  | _, _ => none⟩

theorem vc_specPushAll (xs : List Body) (cs : List Contact) (Q : SV → List Ent → Prop) :
    fnVC tt (look [(51, fs_specBodiesOk), (52, fs_specCtsOk), (77, fs_specAll)]) L0 Try.f38 [.vec 0, .vec 1] [(false, .vec .body xs), (false, .vec .contact cs)] Q =
    (List.length xs ≤ (4611686018427387904 : Nat) ∧ ifB (!bodiesOk xs) (Q (SV.vec (2 : Nat)) [(false, Blk.vec Ty.body xs), (false, Blk.vec Ty.contact cs), (true, Blk.vec Ty.body [])]) ((List.length xs ≤ (1048576 : Nat) ∧ List.length cs ≤ (4611686018427387904 : Nat)) ∧ ifB (!ctsI (↑(List.length xs) : Int) cs) (Q (SV.vec (2 : Nat)) [(false, Blk.vec Ty.body xs), (false, Blk.vec Ty.contact cs), (true, Blk.vec Ty.body [])]) (((∀ (k : Nat), k < List.length xs → POk (Ty.ix Ty.body xs k)) ∧ List.length xs ≤ (12 : Nat) ∧ List.length cs ≤ (144 : Nat) ∧ ∀ (k : Nat), k < List.length cs → (0 : Int) ≤ Contact.A (Ty.ix Ty.contact cs k) ∧ Contact.A (Ty.ix Ty.contact cs k) < (↑(List.length xs) : Int) ∧ (0 : Int) ≤ Contact.B (Ty.ix Ty.contact cs k) ∧ Contact.B (Ty.ix Ty.contact cs k) < (↑(List.length xs) : Int) ∧ Contact.A (Ty.ix Ty.contact cs k) ≠ Contact.B (Ty.ix Ty.contact cs k)) ∧ Q (SV.vec (2 : Nat)) [(false, Blk.vec Ty.body xs), (false, Blk.vec Ty.contact cs), (true, Blk.vec Ty.body (pushAllF xs cs))]))) := by kernel_rfl

theorem ok_specPushAll : FsOk Try.prog 38 fs_specPushAll := fsOk_of tt_ok (tabFs_cons ok_specBodiesOk (tabFs_cons ok_specCtsOk (tabFs_cons ok_specAll tabFs_nil))) mixed Try.func38 (by kernel_rfl) (by kernel_rfl) (by
    intro args LL p r HH h hp
    unfold fs_specPushAll at h
    dsimp only at h
    split at h
    case h_2 => cases h
    rename_i xs cs
    simp only [Option.some.injEq, Prod.mk.injEq] at h
    obtain ⟨rfl, rfl, rfl⟩ := h
    refine ⟨by simp [Form, stays], L0, ?_⟩
    rw [vc_specPushAll]
    try dsimp only
    obtain ⟨hb, hb2⟩ := hp _ rfl
    refine ⟨by omega, ifB_of (fun c1 => ?_) (fun c1 => ⟨⟨hb, hb2⟩, ifB_of (fun c2 => ?_) (fun c2 => ⟨?_, ?_⟩)⟩)⟩
    · simp [pushAllB, pushesOk, not_true c1]
    · simp [pushAllB, pushesOk, not_true c2]
    · exact ⟨allP_ok (not_false c1), bodiesOk_len (not_false c1), ctsI_ok hb (not_false c2)⟩
    · simp only [pushAllB, pushesOk, not_false c1, not_false c2, Bool.and_self, cond_true]
      exact ⟨(by trivial), (by trivial)⟩)

noncomputable def fs_implPushAll : Fs := ⟨[], fun args H => match args, H with
  | [.vec 0, .vec 1], [(false, .vec .body xs), (false, .vec .contact cs)] => some ((some (xs.length ≤ 1048576 ∧ cs.length ≤ 4611686018427387904)), .vec 2, [(false, .vec .body xs), (false, .vec .contact cs), (true, .vec .body (pushAllB xs cs))])
  | _, _ => none⟩

theorem vc_implPushAll (xs : List Body) (cs : List Contact) (Q : SV → List Ent → Prop) :
    fnVC tt (look [(55, fs_implCtsOk), (56, fs_cloneBodies), (78, fs_implAll)]) L0 Try.f39 [.vec 0, .vec 1] [(false, .vec .body xs), (false, .vec .contact cs)] Q =
    ((List.length xs ≤ (1048576 : Nat) ∧ List.length cs ≤ (4611686018427387904 : Nat)) ∧ ifB (!pushesOk xs cs) (Q (SV.vec (2 : Nat)) [(false, Blk.vec Ty.body xs), (false, Blk.vec Ty.contact cs), (true, Blk.vec Ty.body [])]) (List.length xs ≤ (1048576 : Nat) ∧ ((∀ (k : Nat), k < List.length xs → POk (Ty.ix Ty.body xs k)) ∧ List.length xs ≤ (12 : Nat) ∧ List.length cs ≤ (144 : Nat) ∧ ∀ (k : Nat), k < List.length cs → (0 : Int) ≤ Contact.A (Ty.ix Ty.contact cs k) ∧ Contact.A (Ty.ix Ty.contact cs k) < (↑(List.length xs) : Int) ∧ (0 : Int) ≤ Contact.B (Ty.ix Ty.contact cs k) ∧ Contact.B (Ty.ix Ty.contact cs k) < (↑(List.length xs) : Int) ∧ Contact.A (Ty.ix Ty.contact cs k) ≠ Contact.B (Ty.ix Ty.contact cs k)) ∧ Q (SV.vec (2 : Nat)) [(false, Blk.vec Ty.body xs), (false, Blk.vec Ty.contact cs), (true, Blk.vec Ty.body (pushAllF xs cs))])) := by kernel_rfl

theorem ok_implPushAll : FsOk Try.prog 39 fs_implPushAll := fsOk_of tt_ok (tabFs_cons ok_implCtsOk (tabFs_cons ok_cloneBodies (tabFs_cons ok_implAll tabFs_nil))) mixed Try.func39 (by kernel_rfl) (by kernel_rfl) (by
    intro args LL p r HH h hp
    unfold fs_implPushAll at h
    dsimp only at h
    split at h
    case h_2 => cases h
    rename_i xs cs
    simp only [Option.some.injEq, Prod.mk.injEq] at h
    obtain ⟨rfl, rfl, rfl⟩ := h
    refine ⟨by simp [Form, stays], L0, ?_⟩
    rw [vc_implPushAll]
    try dsimp only
    obtain ⟨hb, hb2⟩ := hp _ rfl
    refine ⟨⟨hb, hb2⟩, ifB_of (fun c1 => ?_) (fun c1 => ⟨hb, ?_, ?_⟩)⟩
    · simp [pushAllB, not_true c1]
    · have c1 := not_false c1
      simp only [pushesOk, Bool.and_eq_true] at c1
      exact ⟨allP_ok c1.1, bodiesOk_len c1.1, ctsI_ok hb c1.2⟩
    · simp only [pushAllB, not_false c1, cond_true]
      exact ⟨(by trivial), (by trivial)⟩)

end Go.Proofs.Ythkdelepjndacaa.Sym
