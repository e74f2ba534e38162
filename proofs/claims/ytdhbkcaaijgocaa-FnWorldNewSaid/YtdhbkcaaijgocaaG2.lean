/-
  Bodies: what is ok, what is still.
  No condition.
-/
import Derived.Test.YtdhbkcaaijgocaaG1
namespace Go.Proofs.Ytdhbkcaaijgocaa.Sym
open Go
set_option linter.unusedVariables false
set_option linter.unusedSimpArgs false
set_option maxRecDepth 100000

def bodyAt (xs : List Body) (k : Nat) : Bool := bodyOk (Ty.ix .body xs k) && (k == 0 || decide ((Ty.ix .body xs (k - 1)).Id < (Ty.ix .body xs k).Id))
def bodiesOk (xs : List Body) : Bool := allTo (bodyAt xs) xs.length && decide (xs.length ≤ 12)
theorem fin_bodies {xs : List Body} : bodiesOk xs = (allTo (bodyAt xs) xs.length && decide ((xs.length : Int) ≤ 12)) := by
  unfold bodiesOk
  congr 1
  rw [decide_eq_decide]
  omega
theorem bodiesOk_len {xs : List Body} (h : bodiesOk xs = true) : xs.length ≤ 12 := by
  simp only [bodiesOk, Bool.and_eq_true, decide_eq_true_eq] at h
  exact h.2
theorem allTo_iff {p : Nat → Bool} : ∀ {n : Nat}, allTo p n = true ↔ ∀ k, k < n → p k = true
  | 0 => by simp [allTo]
  | n + 1 => by
    simp only [allTo, Bool.and_eq_true, allTo_iff (n := n)]
    constructor
    · rintro ⟨h1, h2⟩ k hk
      by_cases e : k = n
      · subst e; exact h2
      · exact h1 k (by omega)
    · exact fun h => ⟨fun k hk => h k (by omega), h n (by omega)⟩
theorem bodiesOk_iff {xs : List Body} : bodiesOk xs = true ↔ xs.length ≤ 12 ∧ (∀ k, k < xs.length → bodyOk (Ty.ix .body xs k) = true) ∧ ∀ k, k + 1 < xs.length → (Ty.ix .body xs k).Id < (Ty.ix .body xs (k + 1)).Id := by
  simp only [bodiesOk, Bool.and_eq_true, decide_eq_true_eq, allTo_iff, bodyAt, Bool.or_eq_true, beq_iff_eq]
  constructor
  · rintro ⟨h1, h2⟩
    refine ⟨h2, fun k hk => (h1 k hk).1, fun k hk => ?_⟩
    rcases (h1 (k + 1) hk).2 with h | h
    · omega
    · simpa using h
  · rintro ⟨h1, h2, h3⟩
    refine ⟨fun k hk => ⟨h2 k hk, ?_⟩, h1⟩
    cases k with
    | zero => left; rfl
    | succ k => right; simpa using h3 k hk
theorem bodiesOk_each {xs : List Body} (h : bodiesOk xs = true) {k : Nat} (hk : k < xs.length) : bodyOk (Ty.ix .body xs k) = true := (bodiesOk_iff.1 h).2.1 k hk
theorem bodiesOk_mem {xs : List Body} (h : bodiesOk xs = true) {b : Body} (hb : b ∈ xs) : bodyOk b = true := by
  obtain ⟨k, hk, rfl⟩ := List.getElem_of_mem hb
  have := bodiesOk_each h hk
  rwa [show Ty.ix .body xs k = xs[k] by simp [Ty.ix, List.getD, hk]] at this

def LSspecBodiesOk  : LS where
  S := List Body × Unit × Int
  live := [(0, [none]), (3, [none])]
  shape := fun s => ([.vec 0, .int .i64 s.2.2], [(false, .vec .body s.1)])
  get := fun v h => match v, h with
    | [.vec 0, .int .i64 i], [(false, .vec .body xs)] => some (xs, (), i)
    | _, _ => none
  inv := fun s0 s => Holds (s.1 = s0.1 ∧ 0 ≤ s.2.2 ∧ s.2.2 ≤ s0.1.length ∧ allTo (bodyAt s0.1) s.2.2.toNat = true)
  mu := fun s => ((s.1.length : Int) - s.2.2).toNat
  ok := by
    intro v h s hg
    try dsimp only at hg
    split at hg <;> cases hg
    rfl

def L_specBodiesOk : Loops := fun n => match n with
  | 2 => some LSspecBodiesOk
  | _ => none
def LSimplBodiesOk  : LS where
  S := List Body × Unit × Unit × Int × Int
  live := [(0, [none]), (5, [none]), (6, [none]), (7, [none])]
  shape := fun s => ([.vec 0, .vec 0, .int .i64 s.2.2.2.1, .int .i64 s.2.2.2.2], [(false, .vec .body s.1)])
  get := fun v h => match v, h with
    | [.vec 0, .vec 0, .int .i64 n, .int .i64 i], [(false, .vec .body xs)] => some (xs, (), (), n, i)
    | _, _ => none
  inv := fun s0 s => Holds (s.1 = s0.1 ∧ s.2.2.2.1 = s0.1.length ∧ 0 ≤ s.2.2.2.2 ∧ s.2.2.2.2 ≤ s0.1.length ∧ allTo (bodyAt s0.1) s.2.2.2.2.toNat = true)
  mu := fun s => ((s.1.length : Int) - s.2.2.2.2).toNat
  ok := by
    intro v h s hg
    try dsimp only at hg
    split at hg <;> cases hg
    rfl

def L_implBodiesOk : Loops := fun n => match n with
  | 2 => some LSimplBodiesOk
  | _ => none
noncomputable def fs_implBodiesOk : Fs := ⟨[], fun args H => match args, H with
  | [.vec 0], [(false, .vec .body xs)] => some ((some (xs.length ≤ 4611686018427387904)), .bool (bodiesOk xs), [(false, .vec .body xs)])
  | _, _ => none⟩

theorem vc_implBodiesOk (xs : List Body) (Q : SV → List Ent → Prop) :
    fnVC tt (look [(37, fs_implBodyOk)]) (L_implBodiesOk) Try.f20 [.vec 0] [(false, .vec .body xs)] Q =
    (let A1_ := (↑(List.length xs) : Int); Holds (xs = xs ∧ A1_ = A1_ ∧ (0 : Int) ≤ (0 : Int) ∧ (0 : Int) ≤ A1_ ∧ allTo (bodyAt xs) (Int.toNat (0 : Int)) = true) ∧ ∀ (x : List Body × Unit × Unit × Int × Int), Holds (Prod.fst x = xs ∧ Prod.fst (Prod.snd (Prod.snd (Prod.snd x))) = A1_ ∧ (0 : Int) ≤ Prod.snd (Prod.snd (Prod.snd (Prod.snd x))) ∧ Prod.snd (Prod.snd (Prod.snd (Prod.snd x))) ≤ A1_ ∧ allTo (bodyAt xs) (Int.toNat (Prod.snd (Prod.snd (Prod.snd (Prod.snd x))))) = true) → ifB (decide (Prod.snd (Prod.snd (Prod.snd (Prod.snd x))) < Prod.fst (Prod.snd (Prod.snd (Prod.snd x))))) (((0 : Int) ≤ Prod.snd (Prod.snd (Prod.snd (Prod.snd x))) ∧ Prod.snd (Prod.snd (Prod.snd (Prod.snd x))) < (↑(List.length (Prod.fst x)) : Int)) ∧ ifB (!bodyOk (Ty.ix Ty.body (Prod.fst x) (Int.toNat (Prod.snd (Prod.snd (Prod.snd (Prod.snd x))))))) (Q (SV.bool false) [(false, Blk.vec Ty.body (Prod.fst x))]) (ifB (decide (Prod.snd (Prod.snd (Prod.snd (Prod.snd x))) > (0 : Int))) (((0 : Int) ≤ IntKind.wrap IntKind.i64 (Prod.snd (Prod.snd (Prod.snd (Prod.snd x))) - (1 : Int)) ∧ IntKind.wrap IntKind.i64 (Prod.snd (Prod.snd (Prod.snd (Prod.snd x))) - (1 : Int)) < (↑(List.length (Prod.fst x)) : Int)) ∧ ifB (decide (Body.Id (Ty.ix Ty.body (Prod.fst x) (Int.toNat (Prod.snd (Prod.snd (Prod.snd (Prod.snd x)))))) ≤ Body.Id (Ty.ix Ty.body (Prod.fst x) (Int.toNat (IntKind.wrap IntKind.i64 (Prod.snd (Prod.snd (Prod.snd (Prod.snd x))) - (1 : Int))))))) (Q (SV.bool false) [(false, Blk.vec Ty.body (Prod.fst x))]) (Holds (Prod.fst x = xs ∧ Prod.fst (Prod.snd (Prod.snd (Prod.snd x))) = A1_ ∧ (0 : Int) ≤ IntKind.wrap IntKind.i64 (Prod.snd (Prod.snd (Prod.snd (Prod.snd x))) + (1 : Int)) ∧ IntKind.wrap IntKind.i64 (Prod.snd (Prod.snd (Prod.snd (Prod.snd x))) + (1 : Int)) ≤ A1_ ∧ allTo (bodyAt xs) (Int.toNat (IntKind.wrap IntKind.i64 (Prod.snd (Prod.snd (Prod.snd (Prod.snd x))) + (1 : Int)))) = true) ∧ Int.toNat ((↑(List.length (Prod.fst x)) : Int) - IntKind.wrap IntKind.i64 (Prod.snd (Prod.snd (Prod.snd (Prod.snd x))) + (1 : Int))) < Int.toNat ((↑(List.length (Prod.fst x)) : Int) - Prod.snd (Prod.snd (Prod.snd (Prod.snd x)))))) (Holds (Prod.fst x = xs ∧ Prod.fst (Prod.snd (Prod.snd (Prod.snd x))) = A1_ ∧ (0 : Int) ≤ IntKind.wrap IntKind.i64 (Prod.snd (Prod.snd (Prod.snd (Prod.snd x))) + (1 : Int)) ∧ IntKind.wrap IntKind.i64 (Prod.snd (Prod.snd (Prod.snd (Prod.snd x))) + (1 : Int)) ≤ A1_ ∧ allTo (bodyAt xs) (Int.toNat (IntKind.wrap IntKind.i64 (Prod.snd (Prod.snd (Prod.snd (Prod.snd x))) + (1 : Int)))) = true) ∧ Int.toNat ((↑(List.length (Prod.fst x)) : Int) - IntKind.wrap IntKind.i64 (Prod.snd (Prod.snd (Prod.snd (Prod.snd x))) + (1 : Int))) < Int.toNat ((↑(List.length (Prod.fst x)) : Int) - Prod.snd (Prod.snd (Prod.snd (Prod.snd x))))))) (Q (SV.bool (decide ((↑(List.length (Prod.fst x)) : Int) ≤ (12 : Int)))) [(false, Blk.vec Ty.body (Prod.fst x))])) := by kernel_rfl

theorem ok_implBodiesOk : FsOk Try.prog 20 fs_implBodiesOk := fsOk_of tt_ok (tabFs_cons ok_implBodyOk tabFs_nil) mixed Try.func20 (by kernel_rfl) (by kernel_rfl) (by
    intro args LL p r HH h hp
    unfold fs_implBodiesOk at h
    dsimp only at h
    split at h
    case h_2 => cases h
    rename_i xs
    simp only [Option.some.injEq, Prod.mk.injEq] at h
    obtain ⟨rfl, rfl, rfl⟩ := h
    refine ⟨by simp [Form, stays], (L_implBodiesOk), ?_⟩
    rw [vc_implBodiesOk]
    try dsimp only
    have hb := hp _ rfl
    refine ⟨⟨(by trivial), (by trivial), by omega, by omega, (by trivial)⟩, ?_⟩
    rintro ⟨xs', u, v, n, i⟩ ⟨h⟩
    dsimp only at h ⊢
    obtain ⟨rfl, rfl, h0, h1, h3⟩ := h
    refine ifB_of (fun c => ?_) (fun c => ?_)
    · have hi : i < xs'.length := of_decide_eq_true c
      have e1 : (i + 1).toNat = i.toNat + 1 := by omega
      have fl : bodyAt xs' i.toNat = false → bodiesOk xs' = false := fun h => by simp [bodiesOk, allTo_false h (show i.toNat < xs'.length by omega)]
      have nx : bodyAt xs' i.toNat = true → allTo (bodyAt xs') (i.toNat + 1) = true := fun h => by simp [allTo, h3, h]
      have hw1 : IntKind.i64.wrap (i + 1) = i + 1 := wrap_small (by omega) (by omega)
      have hw2 : IntKind.i64.wrap (i - 1) = i - 1 := wrap_small (by omega) (by omega)
      have e2 : (i - 1).toNat = i.toNat - 1 := by omega
      rw [hw1, hw2, e1, e2]
      refine ⟨⟨h0, hi⟩, ifB_of (fun c1 => ?_) (fun c1 => ?_)⟩
      · rw [fl (by simp [bodyAt, not_true c1])]
        exact ⟨rfl, rfl⟩
      have c1 := not_false c1
      refine ifB_of (fun c3 => ?_) (fun c3 => ?_)
      · have c3 : i > 0 := of_decide_eq_true c3
        have hne : ¬ i.toNat = 0 := by omega
        refine ⟨⟨by omega, by omega⟩, ifB_of (fun c4 => ?_) (fun c4 => ?_)⟩
        · have c4 := of_decide_eq_true c4
          rw [fl (by simp only [bodyAt, c1]; simp [hne]; omega)]
          exact ⟨rfl, rfl⟩
        · have c4 := of_decide_eq_false c4
          refine ⟨⟨(by trivial), (by trivial), by omega, by omega, nx ?_⟩, by omega⟩
          simp only [bodyAt, c1]
          simp [hne]
          omega
      · have c3 : ¬ i > 0 := of_decide_eq_false c3
        have hz : i.toNat = 0 := by omega
        refine ⟨⟨(by trivial), (by trivial), by omega, by omega, nx ?_⟩, by omega⟩
        simp only [bodyAt, c1]
        simp [hz]
    · have hi : ¬ i < xs'.length := of_decide_eq_false c
      have e1 : i.toNat = xs'.length := by omega
      rw [e1] at h3
      rw [fin_bodies, h3]
      exact ⟨rfl, rfl⟩)


/-! ### Still -/
def moves (b : Body) : Bool := !(b.Mass == 0) && !(b.Quiet == 8)
def stillF (xs : List Body) : Bool := bodiesOk xs && !(xs.any moves)
noncomputable def fs_implMoves : Fs := ⟨[], fun args H => match args, H with
  | [.agg [.int .i64 bI, .int .i64 bK, .int .i64 bW, .int .i64 bH, .int .i64 bX, .int .i64 bY, .int .i64 bU, .int .i64 bV, .int .i64 bM, .int .i64 bB, .int .i64 bR, .int .i64 bQ]], [] => some (none, .bool (moves (Body.mk bI (Shape.mk bK bW bH) (Vec.mk bX bY) (Vec.mk bU bV) bM bB bR bQ)), [])
  | _, _ => none⟩

theorem vc_implMoves (bI : Int) (bK : Int) (bW : Int) (bH : Int) (bX : Int) (bY : Int) (bU : Int) (bV : Int) (bM : Int) (bB : Int) (bR : Int) (bQ : Int) (Q : SV → List Ent → Prop) :
    fnVC tt (look [(40, fs_bodyFixed), (27, fs_bodySleeps)]) L0 Try.f28 [.agg [.int .i64 bI, .int .i64 bK, .int .i64 bW, .int .i64 bH, .int .i64 bX, .int .i64 bY, .int .i64 bU, .int .i64 bV, .int .i64 bM, .int .i64 bB, .int .i64 bR, .int .i64 bQ]] [] Q =
    (ifB (!bM == (0 : Int)) (Q (SV.bool !bQ == (8 : Int)) []) (Q (SV.bool false) [])) := by kernel_rfl

theorem ok_implMoves : FsOk Try.prog 28 fs_implMoves := fsOk_of tt_ok (tabFs_cons ok_bodyFixed (tabFs_cons ok_bodySleeps tabFs_nil)) mixed Try.func28 (by kernel_rfl) (by kernel_rfl) (by
    intro args LL p r HH h hp
    unfold fs_implMoves at h
    dsimp only at h
    split at h
    case h_2 => cases h
    rename_i bI bK bW bH bX bY bU bV bM bB bR bQ
    simp only [Option.some.injEq, Prod.mk.injEq] at h
    obtain ⟨rfl, rfl, rfl⟩ := h
    refine ⟨by simp [Form, stays], L0, ?_⟩
    rw [vc_implMoves]
    try dsimp only

    repeat' (first | refine ifB_of (fun _ => ?_) (fun _ => ?_) | refine pre_of ?_ (fun _ => ?_))
    all_goals first
      | rfl
      | (simp only [W, moves, *, cond_true, cond_false, Bool.true_and, Bool.false_and, Bool.and_true, Bool.and_false, Bool.not_true, Bool.not_false, and_self, true_and]; done)
      | (simp_all [W, moves]; done)
      | (simp_all [W, moves] <;> omega))

/-- The first place at which something holds; -1 if there is none. -/
def firstI {α : Type} (p : α → Bool) (xs : List α) : Int := bif xs.any p then (xs.findIdx p : Int) else -1
theorem firstI_at {T : Ty} {p : T.El → Bool} {xs : List T.El} {i : Nat} (hi : i < xs.length) (h : p (T.ix xs i) = true) (hb : ∀ k, k < i → p (T.ix xs k) = false) : firstI p xs = i := by
  have hx : ∀ k (hk : k < xs.length), xs[k] = T.ix xs k := fun k hk => by simp [Ty.ix, List.getD, hk]
  have h1 : xs.any p = true := List.any_eq_true.2 ⟨xs[i], List.getElem_mem hi, by rw [hx]; exact h⟩
  have h2 : xs.findIdx p = i := (List.findIdx_eq hi).2 ⟨by rw [hx]; exact h, fun k hk => by rw [hx]; exact hb k hk⟩
  simp [firstI, h1, h2]
theorem firstI_no {T : Ty} {p : T.El → Bool} {xs : List T.El} (hb : ∀ k, k < xs.length → p (T.ix xs k) = false) : firstI p xs = -1 := by
  have h1 : xs.any p = false := by
    rw [List.any_eq_false]
    intro x hx
    obtain ⟨k, hk, rfl⟩ := List.getElem_of_mem hx
    have := hb k hk
    rw [show T.ix xs k = xs[k] by simp [Ty.ix, List.getD, hk]] at this
    simp [this]
  simp [firstI, h1]
theorem firstI_neg {α : Type} {p : α → Bool} {xs : List α} : decide (firstI p xs ≥ 0) = xs.any p := by
  cases h : xs.any p <;> simp [firstI, h]
def LSidxMoves  : LS where
  S := List Body × Unit × Unit × Int × Int
  live := [(0, [none]), (1, [none]), (7, [none]), (8, [none])]
  shape := fun s => ([.vec 0, .fn 28 none, .int .i64 s.2.2.2.1, .int .i64 s.2.2.2.2], [(false, .vec .body s.1)])
  get := fun v h => match v, h with
    | [.vec 0, .fn 28 none, .int .i64 n, .int .i64 i], [(false, .vec .body xs)] => some (xs, (), (), n, i)
    | _, _ => none
  inv := fun s0 s => Holds (s.1 = s0.1 ∧ s.2.2.2.1 = s0.1.length ∧ 0 ≤ s.2.2.2.2 ∧ s.2.2.2.2 ≤ s0.1.length ∧ (∀ k, k < s.2.2.2.2.toNat → moves (Ty.ix .body s0.1 k) = false))
  mu := fun s => ((s.1.length : Int) - s.2.2.2.2).toNat
  ok := by
    intro v h s hg
    try dsimp only at hg
    split at hg <;> cases hg
    rfl

def L_idxMoves : Loops := fun n => match n with
  | 2 => some LSidxMoves
  | _ => none
noncomputable def fs_idxMoves : Fs := ⟨[], fun args H => match args, H with
  | [.vec 0, .fn 28 none], [(false, .vec .body xs)] => some ((some (xs.length ≤ 4611686018427387904)), .int .i64 (firstI moves xs), [(false, .vec .body xs)])
  | _, _ => none⟩

theorem vc_idxMoves (xs : List Body) (Q : SV → List Ent → Prop) :
    fnVC tt (look [(28, fs_implMoves)]) (L_idxMoves) Try.f38 [.vec 0, .fn 28 none] [(false, .vec .body xs)] Q =
    (Holds (xs = xs ∧ (↑(List.length xs) : Int) = (↑(List.length xs) : Int) ∧ (0 : Int) ≤ (0 : Int) ∧ (0 : Int) ≤ (↑(List.length xs) : Int) ∧ ∀ (k : Nat), k < Int.toNat (0 : Int) → moves (Ty.ix Ty.body xs k) = false) ∧ ∀ (x : List Body × Unit × Unit × Int × Int), Holds (Prod.fst x = xs ∧ Prod.fst (Prod.snd (Prod.snd (Prod.snd x))) = (↑(List.length xs) : Int) ∧ (0 : Int) ≤ Prod.snd (Prod.snd (Prod.snd (Prod.snd x))) ∧ Prod.snd (Prod.snd (Prod.snd (Prod.snd x))) ≤ (↑(List.length xs) : Int) ∧ ∀ (k : Nat), k < Int.toNat (Prod.snd (Prod.snd (Prod.snd (Prod.snd x)))) → moves (Ty.ix Ty.body xs k) = false) → ifB (decide (Prod.snd (Prod.snd (Prod.snd (Prod.snd x))) < Prod.fst (Prod.snd (Prod.snd (Prod.snd x))))) (((0 : Int) ≤ Prod.snd (Prod.snd (Prod.snd (Prod.snd x))) ∧ Prod.snd (Prod.snd (Prod.snd (Prod.snd x))) < (↑(List.length (Prod.fst x)) : Int)) ∧ ifB (moves (Ty.ix Ty.body (Prod.fst x) (Int.toNat (Prod.snd (Prod.snd (Prod.snd (Prod.snd x))))))) (Q (SV.int IntKind.i64 (Prod.snd (Prod.snd (Prod.snd (Prod.snd x))))) [(false, Blk.vec Ty.body (Prod.fst x))]) (Holds (Prod.fst x = xs ∧ Prod.fst (Prod.snd (Prod.snd (Prod.snd x))) = (↑(List.length xs) : Int) ∧ (0 : Int) ≤ IntKind.wrap IntKind.i64 (Prod.snd (Prod.snd (Prod.snd (Prod.snd x))) + (1 : Int)) ∧ IntKind.wrap IntKind.i64 (Prod.snd (Prod.snd (Prod.snd (Prod.snd x))) + (1 : Int)) ≤ (↑(List.length xs) : Int) ∧ ∀ (k : Nat), k < Int.toNat (IntKind.wrap IntKind.i64 (Prod.snd (Prod.snd (Prod.snd (Prod.snd x))) + (1 : Int))) → moves (Ty.ix Ty.body xs k) = false) ∧ Int.toNat ((↑(List.length (Prod.fst x)) : Int) - IntKind.wrap IntKind.i64 (Prod.snd (Prod.snd (Prod.snd (Prod.snd x))) + (1 : Int))) < Int.toNat ((↑(List.length (Prod.fst x)) : Int) - Prod.snd (Prod.snd (Prod.snd (Prod.snd x)))))) (Q (SV.int IntKind.i64 (-1 : Int)) [(false, Blk.vec Ty.body (Prod.fst x))])) := by kernel_rfl

theorem ok_idxMoves : FsOk Try.prog 38 fs_idxMoves := fsOk_of tt_ok (tabFs_cons ok_implMoves tabFs_nil) mixed Try.func38 (by kernel_rfl) (by kernel_rfl) (by
    intro args LL p r HH h hp
    unfold fs_idxMoves at h
    dsimp only at h
    split at h
    case h_2 => cases h
    rename_i xs
    simp only [Option.some.injEq, Prod.mk.injEq] at h
    obtain ⟨rfl, rfl, rfl⟩ := h
    refine ⟨by simp [Form, stays], (L_idxMoves), ?_⟩
    rw [vc_idxMoves]
    try dsimp only
    have hb := hp _ rfl
    refine ⟨⟨(by trivial), (by trivial), by omega, by omega, fun k hk => absurd hk (by simp)⟩, ?_⟩
    rintro ⟨xs', u, f, n, i⟩ ⟨h⟩
    dsimp only at h ⊢
    obtain ⟨rfl, rfl, h0, h1, h3⟩ := h
    refine ifB_of (fun c => ?_) (fun c => ?_)
    · have hi : i < xs'.length := of_decide_eq_true c
      have e1 : (i + 1).toNat = i.toNat + 1 := by omega
      refine ⟨⟨h0, hi⟩, ifB_of (fun c1 => ?_) (fun c1 => ?_)⟩
      · rw [firstI_at (T := .body) (i := i.toNat) (by omega) c1 h3]
        refine ⟨?_, (by trivial)⟩
        congr 1
        omega
      · simp (disch := omega) only [wrap_small, e1]
        refine ⟨⟨(by trivial), (by trivial), by omega, by omega, fun k hk => ?_⟩, by omega⟩
        by_cases e : k = i.toNat
        · rw [e]; exact c1
        · exact h3 k (by omega)
    · have hi : ¬ i < xs'.length := of_decide_eq_false c
      rw [firstI_no (T := .body) fun k hk => h3 k (by omega)]
      exact ⟨rfl, rfl⟩)

theorem moves_iff {b : Body} (h : bodyOk b = true) : moves b = (decide (b.Mass > 0) && !decide (b.Quiet ≥ 8)) := by
  simp only [bodyOk, Bool.and_eq_true, isIn, decide_eq_true_eq] at h
  unfold moves
  by_cases h1 : b.Mass = 0
  · simp [h1]
  · by_cases h2 : b.Quiet = 8
    · simp [h2]
    · have : b.Mass > 0 := by omega
      have : ¬ b.Quiet ≥ 8 := by omega
      simp [h1, h2, *]
def LSspecStill  : LS where
  S := List Body × Unit × Int
  live := [(0, [none]), (3, [none])]
  shape := fun s => ([.vec 0, .int .i64 s.2.2], [(false, .vec .body s.1)])
  get := fun v h => match v, h with
    | [.vec 0, .int .i64 i], [(false, .vec .body xs)] => some (xs, (), i)
    | _, _ => none
  inv := fun s0 s => Holds (s.1 = s0.1 ∧ 0 ≤ s.2.2 ∧ s.2.2 ≤ s0.1.length ∧ (bodiesOk s0.1 = true → ∀ k, k < s.2.2.toNat → moves (Ty.ix .body s0.1 k) = false))
  mu := fun s => ((s.1.length : Int) - s.2.2).toNat
  ok := by
    intro v h s hg
    try dsimp only at hg
    split at hg <;> cases hg
    rfl

def L_specStill : Loops := fun n => match n with
  | 2 => some LSspecStill
  | _ => none
end Go.Proofs.Ytdhbkcaaijgocaa.Sym
