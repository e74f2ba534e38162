/-
  What the rows of this claim stand on, part 7: the machine, the walks, the plain laws, as far as they are used.
  No condition.
-/
import Derived.Test.YtdhbkcaaijgocaaGreatCB6
namespace Go.Proofs.YtdhbkcaaijgocaaGreat.Sym
open Go
set_option linter.unusedVariables false
set_option linter.unusedSimpArgs false
set_option maxRecDepth 100000
noncomputable section

def agree (xs : List Body) (out : List Int) (f : Nat → Int) : Prop := out.length = xs.length ∧ ∀ j, j < xs.length → gi out j = f j
def edgesC (xs : List Body) (cs : List Contact) : List Grp.Edge := (cs.filter fun c => freeB xs c.A.toNat && freeB xs c.B.toNat).map edgeC
theorem edgesC_drop {xs : List Body} {cs : List Contact} {i : Nat} (h : i < cs.length) :
    edgesC xs (cs.drop i) = (bif freeB xs (Ty.ix .contact cs i).A.toNat && freeB xs (Ty.ix .contact cs i).B.toNat then [edgeC (Ty.ix .contact cs i)] else []) ++ edgesC xs (cs.drop (i + 1)) := by
  unfold edgesC
  rw [drop_ix (T := .contact) h, List.filter_cons]
  cases freeB xs (Ty.ix .contact cs i).A.toNat && freeB xs (Ty.ix .contact cs i).B.toNat <;> simp
theorem agree_relax {xs : List Body} {out : List Int} {f : Nat → Int} {a b : Nat} (h : agree xs out f) (ha : a < xs.length) (hb : b < xs.length) :
    agree xs ((out.set a (min (gi out a) (gi out b))).set b (min (gi out a) (gi out b))) (Grp.relax f (a, b)) := by
  obtain ⟨h1, h2⟩ := h
  refine ⟨by simp [h1], fun j hj => ?_⟩
  rw [gi_set (by simp; omega), gi_set (by omega), Grp.relax_at, h2 a ha, h2 b hb]
  by_cases e1 : b = j
  · rw [if_pos e1, if_pos (.inl e1.symm)]
  · by_cases e2 : a = j
    · rw [if_neg e1, if_pos e2, if_pos (.inr e2.symm)]
    · rw [if_neg e1, if_neg e2, if_neg (by rintro (q | q); exact e1 q.symm; exact e2 q.symm)]
      exact h2 j hj
theorem gen_succ {α : Type} (f : Nat → α) (n : Nat) : gen f (n + 1) = gen f n ++ [f n] := by simp [gen, List.range_succ]
theorem edges_lt (xs : List Body) : ∀ e, e ∈ edgesX xs → e.1 < xs.length ∧ e.2 < xs.length := fun e he => by
  obtain ⟨_, _, _, _, _, h1, h2⟩ := of_edges he
  exact ⟨h1, h2⟩
/-- Each body's label is the least of its part. -/
def LabOk (xs : List Body) (gs : List Int) : Prop := gs.length = xs.length ∧ ∀ j, j < xs.length → gi gs j = cmX xs j
theorem lab_done {xs : List Body} {out : List Int} {f : Nat → Int} (h : agree xs out f) (hr : Grp.rounds (edgesX xs) 0 f = Grp.rounds (edgesX xs) xs.length (fun j => (j : Int))) : LabOk xs out := by
  refine ⟨h.1, fun j hj => ?_⟩
  have e : Grp.rounds (edgesX xs) xs.length (fun j => (j : Int)) j = (cmX xs j : Int) := Grp.rounds_cm (edges_lt xs) hj
  rw [h.2 j hj, ← e, ← hr]
  rfl
def firstsI (xs : List Body) (i : Nat) : List Int := (Grp.firsts (freeB xs) (cmX xs) i).map fun k : Nat => (k : Int)
theorem length_firstsI (xs : List Body) (i : Nat) : (firstsI xs i).length = numX xs i := by simp [firstsI, Grp.length_firsts, numX]
theorem firstsI_lead {xs : List Body} {i : Nat} (h : Grp.lead (freeB xs) (cmX xs) i = true) : firstsI xs (i + 1) = firstsI xs i ++ [(i : Int)] := by simp [firstsI, Grp.firsts, h]
theorem firstsI_not {xs : List Body} {i : Nat} (h : Grp.lead (freeB xs) (cmX xs) i = false) : firstsI xs (i + 1) = firstsI xs i := by simp [firstsI, Grp.firsts, h]
def AtInv (xs : List Body) (i k : Nat) (at' : Int) : Prop := (at' = -1 ∧ ∀ p, p < k → gi (firstsI xs i) p ≠ cmX xs i) ∨ (at' = numX xs (cmX xs i) ∧ cmX xs i < i)
theorem at_hit {xs : List Body} {i k : Nat} (hk : k < (firstsI xs i).length) (h : gi (firstsI xs i) k = cmX xs i) : AtInv xs i (k + 1) k := by
  have h1 : (firstsI xs i)[k]? = some ((cmX xs i : Nat) : Int) := by rw [← h]; exact ix_get (T := .int) hk
  simp only [firstsI, List.getElem?_map, Option.map_eq_some_iff] at h1
  obtain ⟨m, m1, m2⟩ := h1
  have m3 : m = cmX xs i := Int.ofNat.inj m2
  rw [m3] at m1
  have p1 := Grp.firsts_pos m1
  have p2 := Grp.firsts_lt _ _ _ _ (List.mem_of_getElem? m1)
  exact .inr ⟨by rw [show (k : Int) = ((numX xs (cmX xs i) : Nat) : Int) from congrArg _ p1], p2⟩
theorem at_miss {xs : List Body} {i k : Nat} {a : Int} (h : AtInv xs i k a) (hn : gi (firstsI xs i) k ≠ cmX xs i) : AtInv xs i (k + 1) a := by
  rcases h with h | h
  · refine .inl ⟨h.1, fun p hp => ?_⟩
    by_cases e : p = k
    · rw [e]; exact hn
    · exact h.2 p (by omega)
  · exact .inr h
theorem at_end {xs : List Body} {i : Nat} {a : Int} (h : AtInv xs i (firstsI xs i).length a) (hf : freeB xs i = true) :
    (a = -1 ∧ cmX xs i = i ∧ Grp.lead (freeB xs) (cmX xs) i = true) ∨ (a = numX xs (cmX xs i) ∧ 0 ≤ a ∧ Grp.lead (freeB xs) (cmX xs) i = false) := by
  have hle := cmX_le xs i
  rcases h with h | h
  · left
    have e : cmX xs i = i := by
      refine Classical.byContradiction fun hne => ?_
      have h1 := Grp.firsts_at (lead_cm hf) i (by omega)
      have h2 : (firstsI xs i)[numX xs (cmX xs i)]? = some ((cmX xs i : Nat) : Int) := by
        simp only [firstsI, List.getElem?_map]
        unfold numX
        rw [h1]
        rfl
      exact h.2 _ (List.getElem?_eq_some_iff.1 h2).1 (ix_eq (T := .int) h2)
    exact ⟨h.1, e, lead_iff.2 ⟨hf, e⟩⟩
  · right
    refine ⟨h.1, by rw [h.1]; exact Int.natCast_nonneg _, ?_⟩
    cases q : Grp.lead (freeB xs) (cmX xs) i with
    | false => rfl
    | true =>
      have := (lead_iff.1 q).2
      omega
theorem groupsX_drop {xs : List Body} {i : Nat} (h : i < xs.length) : (groupsX xs).drop i = gOf xs xs.length i :: (groupsX xs).drop (i + 1) := by
  have := drop_ix (T := .int) (xs := groupsX xs) (i := i) (by simp only [groupsX, length_gen]; exact h)
  rw [show Ty.ix .int (groupsX xs) i = gOf xs xs.length i from ix_gen (T := .int) h] at this
  exact this
def LSnu1  : LS where
  S := List Body × List Int × Unit × Unit × List Int × List Int × Int
  live := [(0, [none]), (1, [none]), (5, [some .int]), (6, [some .int]), (7, [none])]
  shape := fun s => ([.vec 0, .vec 1, .vec 2, .vec 3, .int .i64 s.2.2.2.2.2.2], [(false, .vec .body s.1), (false, .vec .int s.2.1), (true, .vec .int s.2.2.2.2.1), (true, .vec .int s.2.2.2.2.2.1)])
  get := fun v h => match v, h with
    | [.vec 0, .vec 1, .vec 2, .vec 3, .int .i64 i], [(false, .vec .body xs), (false, .vec .int gs), (true, .vec .int out), (true, .vec .int fs)] => some (xs, gs, (), (), out, fs, i)
    | _, _ => none
  inv := fun s0 s => Holds (s.1 = s0.1 ∧ s.2.1 = s0.2.1 ∧ 0 ≤ s.2.2.2.2.2.2 ∧ s.2.2.2.2.2.2 ≤ s0.1.length ∧ s.2.2.2.2.2.1 = firstsI s0.1 s.2.2.2.2.2.2.toNat ∧ s.2.2.2.2.1 ++ (groupsX s0.1).drop s.2.2.2.2.2.2.toNat = groupsX s0.1)
  mu := fun s => ((s.1.length : Int) - s.2.2.2.2.2.2).toNat
  ok := by
    intro v h s hg
    try dsimp only at hg
    split at hg <;> cases hg
    rfl

def LSnu2  : LS where
  S := List Body × List Int × Unit × Unit × List Int × List Int × Int × Int × Int
  live := [(0, [none]), (1, [none]), (5, [some .int]), (6, [some .int]), (7, [none]), (8, [none]), (9, [none])]
  shape := fun s => ([.vec 0, .vec 1, .vec 2, .vec 3, .int .i64 s.2.2.2.2.2.2.1, .int .i64 s.2.2.2.2.2.2.2.1, .int .i64 s.2.2.2.2.2.2.2.2], [(false, .vec .body s.1), (false, .vec .int s.2.1), (true, .vec .int s.2.2.2.2.1), (true, .vec .int s.2.2.2.2.2.1)])
  get := fun v h => match v, h with
    | [.vec 0, .vec 1, .vec 2, .vec 3, .int .i64 i, .int .i64 a, .int .i64 k], [(false, .vec .body xs), (false, .vec .int gs), (true, .vec .int out), (true, .vec .int fs)] => some (xs, gs, (), (), out, fs, i, a, k)
    | _, _ => none
  inv := fun s0 s => Holds (s.1 = s0.1 ∧ s.2.1 = s0.2.1 ∧ s.2.2.2.2.1 = s0.2.2.2.2.1 ∧ s.2.2.2.2.2.1 = s0.2.2.2.2.2.1 ∧ s.2.2.2.2.2.2.1 = s0.2.2.2.2.2.2.1 ∧ 0 ≤ s.2.2.2.2.2.2.2.2 ∧ s.2.2.2.2.2.2.2.2 ≤ s0.2.2.2.2.2.1.length ∧ AtInv s0.1 s0.2.2.2.2.2.2.1.toNat s.2.2.2.2.2.2.2.2.toNat s.2.2.2.2.2.2.2.1)
  mu := fun s => ((s.2.2.2.2.2.1.length : Int) - s.2.2.2.2.2.2.2.2).toNat
  ok := by
    intro v h s hg
    try dsimp only at hg
    split at hg <;> cases hg
    rfl

def L_number : Loops := fun n => match n with
  | 4 => some LSnu1
  | 10 => some LSnu2
  | _ => none
noncomputable def fs_l7Number : Fs := ⟨[], fun args H => match args, H with
  | [.vec 0, .vec 1], [(false, .vec .body xs), (false, .vec .int gs)] => some ((some (xs.length ≤ 12 ∧ LabOk xs gs)), .vec 2, [(false, .vec .body xs), (false, .vec .int gs), (true, .vec .int (groupsX xs))])
  | _, _ => none⟩

theorem vc_l7Number (xs : List Body) (gs : List Int) (Q : SV → List Ent → Prop) :
    fnVC tt (look []) (L_number) Tryz.f214 [.vec 0, .vec 1] [(false, .vec .body xs), (false, .vec .int gs)] Q =
    (let w_ := IntKind.wrap IntKind.i64; let n_ := Int.toNat; Holds (xs = xs ∧ gs = gs ∧ (0 : Int) ≤ (0 : Int) ∧ (0 : Int) ≤ (↑(List.length xs) : Int) ∧ [] = firstsI xs (n_ (0 : Int)) ∧ [] ++ List.drop (n_ (0 : Int)) (groupsX xs) = groupsX xs) ∧ ∀ (y8 : List Body × List Int × Unit × Unit × List Int × List Int × Int), let y8f0_ := Prod.fst y8; let y8s1_ := Prod.snd y8; let y8f1_ := Prod.fst (Prod.snd y8); let y8f4_ := Prod.fst (Prod.snd (Prod.snd (Prod.snd (Prod.snd y8)))); let y8s5_ := Prod.snd (Prod.snd (Prod.snd (Prod.snd (Prod.snd y8)))); let y8f5_ := Prod.fst (Prod.snd (Prod.snd (Prod.snd (Prod.snd (Prod.snd y8))))); let y8s6_ := Prod.snd (Prod.snd (Prod.snd (Prod.snd (Prod.snd (Prod.snd y8))))); let A10_ := (Prod.snd y8s5_ + (1 : Int)); let A9_ := (↑(List.length y8f0_) : Int); Holds (Prod.fst y8 = xs ∧ y8f1_ = gs ∧ (0 : Int) ≤ y8s6_ ∧ y8s6_ ≤ (↑(List.length xs) : Int) ∧ y8f5_ = firstsI xs (n_ y8s6_) ∧ y8f4_ ++ List.drop (n_ y8s6_) (groupsX xs) = groupsX xs) → ifB (decide (Prod.snd y8s5_ < A9_)) (((0 : Int) ≤ y8s6_ ∧ y8s6_ < A9_) ∧ ifB (Body.Mass (Ty.ix Ty.body y8f0_ (n_ y8s6_)) == (0 : Int)) ((List.length y8f4_ + List.length [(-1 : Int)]) * (8 : Nat) ≤ room ∧ Holds (Prod.fst y8 = xs ∧ y8f1_ = gs ∧ (0 : Int) ≤ w_ A10_ ∧ w_ A10_ ≤ (↑(List.length xs) : Int) ∧ y8f5_ = firstsI xs (n_ (w_ A10_)) ∧ y8f4_ ++ [(-1 : Int)] ++ List.drop (n_ (w_ A10_)) (groupsX xs) = groupsX xs) ∧ n_ (A9_ - w_ A10_) < n_ (A9_ - y8s6_)) (Holds (Prod.fst y8 = y8f0_ ∧ y8f1_ = y8f1_ ∧ y8f4_ = y8f4_ ∧ y8f5_ = y8f5_ ∧ y8s6_ = y8s6_ ∧ (0 : Int) ≤ (0 : Int) ∧ (0 : Int) ≤ (↑(List.length y8f5_) : Int) ∧ AtInv y8f0_ (n_ y8s6_) (n_ (0 : Int)) (-1 : Int)) ∧ ∀ (y1 : List Body × List Int × Unit × Unit × List Int × List Int × Int × Int × Int), let y1f0_ := Prod.fst y1; let y1s1_ := Prod.snd y1; let y1f1_ := Prod.fst (Prod.snd y1); let y1f4_ := Prod.fst (Prod.snd (Prod.snd (Prod.snd (Prod.snd y1)))); let y1f5_ := Prod.fst (Prod.snd (Prod.snd (Prod.snd (Prod.snd (Prod.snd y1))))); let y1s6_ := Prod.snd (Prod.snd (Prod.snd (Prod.snd (Prod.snd (Prod.snd y1))))); let y1f6_ := Prod.fst (Prod.snd (Prod.snd (Prod.snd (Prod.snd (Prod.snd (Prod.snd y1)))))); let y1s7_ := Prod.snd (Prod.snd (Prod.snd (Prod.snd (Prod.snd (Prod.snd (Prod.snd y1)))))); let y1f7_ := Prod.fst (Prod.snd (Prod.snd (Prod.snd (Prod.snd (Prod.snd (Prod.snd (Prod.snd y1))))))); let y1s8_ := Prod.snd (Prod.snd (Prod.snd (Prod.snd (Prod.snd (Prod.snd (Prod.snd (Prod.snd y1))))))); let A6_ := (Prod.snd (Prod.snd (Prod.snd y8s1_))); let A5_ := (Prod.snd y1s7_ + (1 : Int)); let A4_ := (↑(List.length y1f5_) : Int); let A3_ := (Prod.fst y1s6_ + (1 : Int)); let A7_ := (n_ (w_ A3_)); let A2_ := (Prod.snd A6_); Holds (Prod.fst y1 = y8f0_ ∧ y1f1_ = y8f1_ ∧ y1f4_ = Prod.fst A6_ ∧ y1f5_ = Prod.fst A2_ ∧ y1f6_ = Prod.snd A2_ ∧ (0 : Int) ≤ y1s8_ ∧ y1s8_ ≤ (↑(List.length (Prod.fst A2_)) : Int) ∧ AtInv y8f0_ (n_ (Prod.snd A2_)) (n_ y1s8_) y1f7_) → ifB (decide (Prod.snd y1s7_ < A4_)) (((0 : Int) ≤ y1s8_ ∧ y1s8_ < A4_) ∧ ((0 : Int) ≤ y1f6_ ∧ y1f6_ < (↑(List.length y1f1_) : Int)) ∧ ifB (Ty.ix Ty.int y1f5_ (n_ y1s8_) == Ty.ix Ty.int y1f1_ (n_ y1f6_)) (Holds (Prod.fst y1 = y8f0_ ∧ y1f1_ = y8f1_ ∧ y1f4_ = Prod.fst A6_ ∧ y1f5_ = Prod.fst A2_ ∧ y1f6_ = Prod.snd A2_ ∧ (0 : Int) ≤ w_ A5_ ∧ w_ A5_ ≤ (↑(List.length (Prod.fst A2_)) : Int) ∧ AtInv y8f0_ (n_ (Prod.snd A2_)) (n_ (w_ A5_)) y1s8_) ∧ n_ (A4_ - w_ A5_) < n_ (A4_ - y1s8_)) (Holds (Prod.fst y1 = y8f0_ ∧ y1f1_ = y8f1_ ∧ y1f4_ = Prod.fst A6_ ∧ y1f5_ = Prod.fst A2_ ∧ y1f6_ = Prod.snd A2_ ∧ (0 : Int) ≤ w_ A5_ ∧ w_ A5_ ≤ (↑(List.length (Prod.fst A2_)) : Int) ∧ AtInv y8f0_ (n_ (Prod.snd A2_)) (n_ (w_ A5_)) y1f7_) ∧ n_ (A4_ - w_ A5_) < n_ (A4_ - y1s8_))) (ifB (decide (Prod.fst y1s7_ < (0 : Int))) (((0 : Int) ≤ y1f6_ ∧ y1f6_ < (↑(List.length y1f1_) : Int)) ∧ (List.length y1f5_ + List.length [Ty.ix Ty.int y1f1_ (n_ y1f6_)]) * (8 : Nat) ≤ room ∧ (List.length y1f4_ + List.length [A4_]) * (8 : Nat) ≤ room ∧ Holds (Prod.fst y1 = xs ∧ y1f1_ = gs ∧ (0 : Int) ≤ w_ A3_ ∧ w_ A3_ ≤ (↑(List.length xs) : Int) ∧ y1f5_ ++ [Ty.ix Ty.int y1f1_ (n_ y1f6_)] = firstsI xs A7_ ∧ y1f4_ ++ [A4_] ++ List.drop A7_ (groupsX xs) = groupsX xs) ∧ n_ ((↑(List.length y1f0_) : Int) - w_ A3_) < n_ (A9_ - Prod.snd A2_)) ((List.length y1f4_ + List.length [y1f7_]) * (8 : Nat) ≤ room ∧ Holds (Prod.fst y1 = xs ∧ y1f1_ = gs ∧ (0 : Int) ≤ w_ A3_ ∧ w_ A3_ ≤ (↑(List.length xs) : Int) ∧ y1f5_ = firstsI xs A7_ ∧ y1f4_ ++ [y1f7_] ++ List.drop A7_ (groupsX xs) = groupsX xs) ∧ n_ ((↑(List.length y1f0_) : Int) - w_ A3_) < n_ (A9_ - Prod.snd A2_))))) (Q (SV.vec (2 : Nat)) [(false, Blk.vec Ty.body y8f0_), (false, Blk.vec Ty.int y8f1_), (true, Blk.vec Ty.int y8f4_)])) := by kernel_rfl

theorem ok_l7Number : FsOk Tryz.prog 214 fs_l7Number := fsOk_of tt_ok tabFs_nil mixed Tryz.func214 (by kernel_rfl) (by kernel_rfl) (by
    intro args LL p r HH h hp
    unfold fs_l7Number at h
    dsimp only at h
    split at h
    case h_2 => cases h
    rename_i xs gs
    simp only [Option.some.injEq, Prod.mk.injEq] at h
    obtain ⟨rfl, rfl, rfl⟩ := h
    refine ⟨by simp [Form, stays], (L_number), ?_⟩
    rw [vc_l7Number]
    try dsimp only
    obtain ⟨hl, hL⟩ := hp _ rfl
    have hgl : (groupsX xs).length = xs.length := by simp only [groupsX, length_gen]
    refine ⟨⟨(by trivial), (by trivial), by omega, by omega, rfl, rfl⟩, ?_⟩
    rintro ⟨xs', gs', u, v, out, fs, i⟩ ⟨h⟩
    dsimp only at h ⊢
    obtain ⟨rfl, rfl, i0, i1, rfl, h5⟩ := h
    have hs := congrArg List.length h5
    rw [List.length_append, List.length_drop] at hs
    have hfl := length_firstsI xs' i.toNat
    have hnl := num_le xs' i.toNat
    refine ifB_of (fun c => ?_) (fun c => ?_)
    · have c := of_decide_eq_true c
      have hi : i.toNat < xs'.length := by omega
      have e1 : (i + 1).toNat = i.toNat + 1 := by omega
      have w : IntKind.i64.wrap (i + 1) = i + 1 := wrap_small (by omega) (by omega)
      have hgi : Ty.ix .int gs' i.toNat = (cmX xs' i.toNat : Int) := hL.2 _ hi
      rw [groupsX_drop hi] at h5
      have hgo := gOf_all hi
      rw [w, e1]
      refine ⟨⟨i0, c⟩, ifB_of (fun d => ?_) (fun d => ⟨⟨(by trivial), (by trivial), (by trivial), (by trivial), (by trivial), by omega, by omega, .inl ⟨rfl, fun p hp => absurd hp (by simp)⟩⟩, ?_⟩)⟩
      · have f : freeB xs' i.toNat = false := by
          unfold freeB
          rw [d]
          rfl
        have l0 : Grp.lead (freeB xs') (cmX xs') i.toNat = false := by simp [Grp.lead, f]
        rw [f] at hgo
        refine ⟨by simp only [room, List.length_singleton]; omega, ⟨(by trivial), (by trivial), by omega, by omega, (firstsI_not l0).symm, ?_⟩, by omega⟩
        rw [hgo] at h5
        rw [List.append_assoc]
        exact h5
      · have f : freeB xs' i.toNat = true := by
          unfold freeB
          rw [d]
          rfl
        rw [f] at hgo
        have hgo : gOf xs' xs'.length i.toNat = (numX xs' (cmX xs' i.toNat) : Int) := hgo
        rintro ⟨xs2, gs2, u2, v2, out2, fs2, i2, a, k⟩ ⟨h⟩
        dsimp only at h ⊢
        obtain ⟨rfl, rfl, rfl, rfl, rfl, k0, k1, hA⟩ := h
        refine ifB_of (fun c2 => ?_) (fun c2 => ?_)
        · have c2 := of_decide_eq_true c2
          have e2 : (k + 1).toNat = k.toNat + 1 := by omega
          have w2 : IntKind.i64.wrap (k + 1) = k + 1 := wrap_small (by omega) (by omega)
          rw [w2, e2]
          refine ⟨⟨k0, c2⟩, ⟨i0, by rw [hL.1]; omega⟩, ifB_of (fun q => ⟨⟨(by trivial), (by trivial), (by trivial), (by trivial), (by trivial), by omega, by omega, ?_⟩, by omega⟩) (fun q => ⟨⟨(by trivial), (by trivial), (by trivial), (by trivial), (by trivial), by omega, by omega, at_miss hA ?_⟩, by omega⟩)⟩
          · have q := (eq_of_beq q).trans hgi
            have := at_hit (xs := xs2) (i := i2.toNat) (k := k.toNat) (by omega) q
            rwa [show ((k.toNat : Nat) : Int) = k by omega] at this
          · intro z
            exact beq_eq_false_iff_ne.1 q (z.trans hgi.symm)
        · have c2 := of_decide_eq_false c2
          rw [show k.toNat = (firstsI xs2 i2.toNat).length by omega] at hA
          rw [hgo] at h5
          rw [w, e1, hgi]
          rcases at_end hA f with ⟨q1, q2, q3⟩ | ⟨q1, q2, q3⟩
          · subst q1
            refine ifB_of (fun _ => ?_) (fun z => absurd (of_decide_eq_false z) (by omega))
            refine ⟨⟨i0, by rw [hL.1]; omega⟩, by simp only [room, List.length_singleton]; omega, by simp only [room, List.length_singleton]; omega, ⟨(by trivial), (by trivial), by omega, by omega, ?_, ?_⟩, by omega⟩
            · rw [firstsI_lead q3, q2]
            · rw [List.append_assoc, hfl]
              rw [q2] at h5
              exact h5
          · refine ifB_of (fun z => ?_) (fun _ => ?_)
            · have := of_decide_eq_true z
              omega
            · refine ⟨by simp only [room, List.length_singleton]; omega, ⟨(by trivial), (by trivial), by omega, by omega, (firstsI_not q3).symm, ?_⟩, by omega⟩
              rw [List.append_assoc, q1]
              exact h5
    · have c := of_decide_eq_false c
      rw [drop_end (by omega), List.append_nil] at h5
      rw [h5]
      exact ⟨(by trivial), (by trivial)⟩)

def LSgp1  : LS where
  S := List Body × List Contact × Unit × Unit × List Int × Int
  live := [(0, [none]), (1, [none]), (5, [some .int]), (6, [none])]
  shape := fun s => ([.vec 0, .vec 1, .vec 2, .int .i64 s.2.2.2.2.2], [(false, .vec .body s.1), (false, .vec .contact s.2.1), (true, .vec .int s.2.2.2.2.1)])
  get := fun v h => match v, h with
    | [.vec 0, .vec 1, .vec 2, .int .i64 i], [(false, .vec .body xs), (false, .vec .contact cs), (true, .vec .int out)] => some (xs, cs, (), (), out, i)
    | _, _ => none
  inv := fun s0 s => Holds (s.1 = s0.1 ∧ s.2.1 = s0.2.1 ∧ 0 ≤ s.2.2.2.2.2 ∧ s.2.2.2.2.2 ≤ s0.1.length ∧ s.2.2.2.2.1 = gen (fun j => (j : Int)) s.2.2.2.2.2.toNat)
  mu := fun s => ((s.1.length : Int) - s.2.2.2.2.2).toNat
  ok := by
    intro v h s hg
    try dsimp only at hg
    split at hg <;> cases hg
    rfl

def LSgp2  : LS where
  S := List Body × List Contact × Unit × Unit × List Int × Int
  live := [(0, [none]), (1, [none]), (5, [some .int]), (7, [none])]
  shape := fun s => ([.vec 0, .vec 1, .vec 2, .int .i64 s.2.2.2.2.2], [(false, .vec .body s.1), (false, .vec .contact s.2.1), (true, .vec .int s.2.2.2.2.1)])
  get := fun v h => match v, h with
    | [.vec 0, .vec 1, .vec 2, .int .i64 n], [(false, .vec .body xs), (false, .vec .contact cs), (true, .vec .int out)] => some (xs, cs, (), (), out, n)
    | _, _ => none
  inv := fun s0 s => Holds (s.1 = s0.1 ∧ s.2.1 = s0.2.1 ∧ 0 ≤ s.2.2.2.2.2 ∧ s.2.2.2.2.2 ≤ s0.1.length ∧ ∃ f, agree s0.1 s.2.2.2.2.1 f ∧ Grp.rounds (edgesX s0.1) (s0.1.length - s.2.2.2.2.2.toNat) f = Grp.rounds (edgesX s0.1) s0.1.length (fun j => (j : Int)))
  mu := fun s => ((s.1.length : Int) - s.2.2.2.2.2).toNat
  ok := by
    intro v h s hg
    try dsimp only at hg
    split at hg <;> cases hg
    rfl

def LSgp3  : LS where
  S := List Body × List Contact × Unit × Unit × List Int × Int × Int
  live := [(0, [none]), (1, [none]), (5, [some .int]), (7, [none]), (8, [none])]
  shape := fun s => ([.vec 0, .vec 1, .vec 2, .int .i64 s.2.2.2.2.2.1, .int .i64 s.2.2.2.2.2.2], [(false, .vec .body s.1), (false, .vec .contact s.2.1), (true, .vec .int s.2.2.2.2.1)])
  get := fun v h => match v, h with
    | [.vec 0, .vec 1, .vec 2, .int .i64 n, .int .i64 k], [(false, .vec .body xs), (false, .vec .contact cs), (true, .vec .int out)] => some (xs, cs, (), (), out, n, k)
    | _, _ => none
  inv := fun s0 s => Holds (s.1 = s0.1 ∧ s.2.1 = s0.2.1 ∧ s.2.2.2.2.2.1 = s0.2.2.2.2.2.1 ∧ 0 ≤ s.2.2.2.2.2.2 ∧ s.2.2.2.2.2.2 ≤ s0.2.1.length ∧ ∃ f, agree s0.1 s.2.2.2.2.1 f ∧ Grp.rounds (edgesX s0.1) (s0.1.length - (s0.2.2.2.2.2.1.toNat + 1)) ((edgesC s0.1 (s0.2.1.drop s.2.2.2.2.2.2.toNat)).foldl Grp.relax f) = Grp.rounds (edgesX s0.1) s0.1.length (fun j => (j : Int)))
  mu := fun s => ((s.2.1.length : Int) - s.2.2.2.2.2.2).toNat
  ok := by
    intro v h s hg
    try dsimp only at hg
    split at hg <;> cases hg
    rfl

def L_groupsS : Loops := fun n => match n with
  | 3 => some LSgp1
  | 7 => some LSgp2
  | 10 => some LSgp3
  | _ => none
noncomputable def fs_l7Groups : Fs := ⟨[], fun args H => match args, H with
  | [.vec 0, .vec 1], [(false, .vec .body xs), (false, .vec .contact cs)] => some ((some (xs.length ≤ 12 ∧ cs = contactsF xs)), .vec 2, [(false, .vec .body xs), (false, .vec .contact cs), (true, .vec .int (groupsX xs))])
  | _, _ => none⟩

theorem vc_l7Groups (xs : List Body) (cs : List Contact) (Q : SV → List Ent → Prop) :
    fnVC tt (look [(213, fs_l3Less), (214, fs_l7Number)]) (L_groupsS) Tryz.f161 [.vec 0, .vec 1] [(false, .vec .body xs), (false, .vec .contact cs)] Q =
    (let w_ := IntKind.wrap IntKind.i64; let n_ := Int.toNat; Holds (xs = xs ∧ cs = cs ∧ (0 : Int) ≤ (0 : Int) ∧ (0 : Int) ≤ (↑(List.length xs) : Int) ∧ [] = gen (fun j => (↑j : Int)) (n_ (0 : Int))) ∧ ∀ (y12 : List Body × List Contact × Unit × Unit × List Int × Int), let y12f0_ := Prod.fst y12; let y12s1_ := Prod.snd y12; let y12f1_ := Prod.fst (Prod.snd y12); let y12s4_ := Prod.snd (Prod.snd (Prod.snd (Prod.snd y12))); let y12f4_ := Prod.fst (Prod.snd (Prod.snd (Prod.snd (Prod.snd y12)))); let y12s5_ := Prod.snd (Prod.snd (Prod.snd (Prod.snd (Prod.snd y12)))); let A13_ := (↑(List.length y12f0_) : Int); Holds (Prod.fst y12 = xs ∧ y12f1_ = cs ∧ (0 : Int) ≤ y12s5_ ∧ y12s5_ ≤ (↑(List.length xs) : Int) ∧ y12f4_ = gen (fun j => (↑j : Int)) (n_ y12s5_)) → ifB (decide (Prod.snd y12s4_ < A13_)) ((List.length y12f4_ + List.length [y12s5_]) * (8 : Nat) ≤ room ∧ Holds (Prod.fst y12 = xs ∧ y12f1_ = cs ∧ (0 : Int) ≤ w_ (Prod.snd y12s4_ + (1 : Int)) ∧ w_ (Prod.snd y12s4_ + (1 : Int)) ≤ (↑(List.length xs) : Int) ∧ y12f4_ ++ [y12s5_] = gen (fun j => (↑j : Int)) (n_ (w_ (Prod.snd y12s4_ + (1 : Int))))) ∧ n_ (A13_ - w_ (Prod.snd y12s4_ + (1 : Int))) < n_ (A13_ - y12s5_)) (Holds (Prod.fst y12 = y12f0_ ∧ y12f1_ = y12f1_ ∧ (0 : Int) ≤ (0 : Int) ∧ (0 : Int) ≤ A13_ ∧ ∃ f, agree y12f0_ y12f4_ f ∧ Grp.rounds (edgesX y12f0_) (List.length y12f0_ - n_ (0 : Int)) f = Grp.rounds (edgesX y12f0_) (List.length y12f0_) fun j => (↑j : Int)) ∧ ∀ (y11 : List Body × List Contact × Unit × Unit × List Int × Int), let y11f0_ := Prod.fst y11; let y11f1_ := Prod.fst (Prod.snd y11); let y11s4_ := Prod.snd (Prod.snd (Prod.snd (Prod.snd y11))); let y11f4_ := Prod.fst (Prod.snd (Prod.snd (Prod.snd (Prod.snd y11)))); let y11s5_ := Prod.snd (Prod.snd (Prod.snd (Prod.snd (Prod.snd y11)))); Holds (Prod.fst y11 = y12f0_ ∧ y11f1_ = y12f1_ ∧ (0 : Int) ≤ y11s5_ ∧ y11s5_ ≤ A13_ ∧ ∃ f, agree y12f0_ y11f4_ f ∧ Grp.rounds (edgesX y12f0_) (List.length y12f0_ - n_ y11s5_) f = Grp.rounds (edgesX y12f0_) (List.length y12f0_) fun j => (↑j : Int)) → ifB (decide (Prod.snd y11s4_ < (↑(List.length y11f0_) : Int))) (Holds (Prod.fst y11 = y11f0_ ∧ y11f1_ = y11f1_ ∧ y11s5_ = y11s5_ ∧ (0 : Int) ≤ (0 : Int) ∧ (0 : Int) ≤ (↑(List.length y11f1_) : Int) ∧ ∃ f, agree y11f0_ y11f4_ f ∧ Grp.rounds (edgesX y11f0_) (List.length y11f0_ - (n_ y11s5_ + (1 : Nat))) (List.foldl Grp.relax f (edgesC y11f0_ (List.drop (n_ (0 : Int)) y11f1_))) = Grp.rounds (edgesX y11f0_) (List.length y11f0_) fun j => (↑j : Int)) ∧ ∀ (y1 : List Body × List Contact × Unit × Unit × List Int × Int × Int), let y1f0_ := Prod.fst y1; let y1s1_ := Prod.snd y1; let y1f1_ := Prod.fst (Prod.snd y1); let y1f4_ := Prod.fst (Prod.snd (Prod.snd (Prod.snd (Prod.snd y1)))); let y1s5_ := Prod.snd (Prod.snd (Prod.snd (Prod.snd (Prod.snd y1)))); let y1f5_ := Prod.fst (Prod.snd (Prod.snd (Prod.snd (Prod.snd (Prod.snd y1))))); let y1s6_ := Prod.snd (Prod.snd (Prod.snd (Prod.snd (Prod.snd (Prod.snd y1))))); let A10_ := (List.length y11f0_); let A9_ := (↑(List.length y11f1_) : Int); let A8_ := (↑(List.length y1f1_) : Int); let A4_ := (Prod.snd y1s5_ + (1 : Int)); let A5_ := (edgesC y11f0_ (List.drop (n_ (w_ A4_)) y11f1_)); let A3_ := y11s4_; let A7_ := (List.length y11f0_ - (n_ (Prod.snd A3_) + (1 : Nat))); let A2_ := (Ty.ix Ty.contact y1f1_ (n_ y1s6_)); let A6_ := (min (Ty.ix Ty.int y1f4_ (n_ (Contact.A A2_))) (Ty.ix Ty.int y1f4_ (n_ (Contact.B A2_)))); Holds (Prod.fst y1 = y11f0_ ∧ y1f1_ = y11f1_ ∧ y1f5_ = Prod.snd A3_ ∧ (0 : Int) ≤ y1s6_ ∧ y1s6_ ≤ A9_ ∧ ∃ f, agree y11f0_ y1f4_ f ∧ Grp.rounds (edgesX y11f0_) A7_ (List.foldl Grp.relax f (edgesC y11f0_ (List.drop (n_ y1s6_) y11f1_))) = Grp.rounds (edgesX y11f0_) A10_ fun j => (↑j : Int)) → ifB (decide (Prod.snd y1s5_ < A8_)) (((0 : Int) ≤ y1s6_ ∧ y1s6_ < A8_) ∧ ((0 : Int) ≤ Contact.A A2_ ∧ Contact.A A2_ < (↑(List.length y1f0_) : Int)) ∧ ifB (Body.Mass (Ty.ix Ty.body y1f0_ (n_ (Contact.A A2_))) == (0 : Int)) (Holds (Prod.fst y1 = y11f0_ ∧ y1f1_ = y11f1_ ∧ y1f5_ = Prod.snd A3_ ∧ (0 : Int) ≤ w_ A4_ ∧ w_ A4_ ≤ A9_ ∧ ∃ f, agree y11f0_ y1f4_ f ∧ Grp.rounds (edgesX y11f0_) A7_ (List.foldl Grp.relax f A5_) = Grp.rounds (edgesX y11f0_) A10_ fun j => (↑j : Int)) ∧ n_ (A8_ - w_ A4_) < n_ (A8_ - y1s6_)) (((0 : Int) ≤ Contact.B A2_ ∧ Contact.B A2_ < (↑(List.length y1f0_) : Int)) ∧ ifB (Body.Mass (Ty.ix Ty.body y1f0_ (n_ (Contact.B A2_))) == (0 : Int)) (Holds (Prod.fst y1 = y11f0_ ∧ y1f1_ = y11f1_ ∧ y1f5_ = Prod.snd A3_ ∧ (0 : Int) ≤ w_ A4_ ∧ w_ A4_ ≤ A9_ ∧ ∃ f, agree y11f0_ y1f4_ f ∧ Grp.rounds (edgesX y11f0_) A7_ (List.foldl Grp.relax f A5_) = Grp.rounds (edgesX y11f0_) A10_ fun j => (↑j : Int)) ∧ n_ (A8_ - w_ A4_) < n_ (A8_ - y1s6_)) (((0 : Int) ≤ Contact.A A2_ ∧ Contact.A A2_ < (↑(List.length y1f4_) : Int)) ∧ ((0 : Int) ≤ Contact.B A2_ ∧ Contact.B A2_ < (↑(List.length y1f4_) : Int)) ∧ ((0 : Int) ≤ Contact.A A2_ ∧ Contact.A A2_ < (↑(List.length y1f4_) : Int)) ∧ ((0 : Int) ≤ Contact.B A2_ ∧ Contact.B A2_ < (↑(List.length (List.set y1f4_ (n_ (Contact.A A2_)) A6_)) : Int)) ∧ Holds (Prod.fst y1 = y11f0_ ∧ y1f1_ = y11f1_ ∧ y1f5_ = Prod.snd A3_ ∧ (0 : Int) ≤ w_ A4_ ∧ w_ A4_ ≤ A9_ ∧ ∃ f, agree y11f0_ (List.set (List.set y1f4_ (n_ (Contact.A A2_)) A6_) (n_ (Contact.B A2_)) A6_) f ∧ Grp.rounds (edgesX y11f0_) A7_ (List.foldl Grp.relax f A5_) = Grp.rounds (edgesX y11f0_) A10_ fun j => (↑j : Int)) ∧ n_ (A8_ - w_ A4_) < n_ (A8_ - y1s6_)))) (Holds (Prod.fst y1 = y12f0_ ∧ y1f1_ = y12f1_ ∧ (0 : Int) ≤ w_ (Prod.fst y1s5_ + (1 : Int)) ∧ w_ (Prod.fst y1s5_ + (1 : Int)) ≤ A13_ ∧ ∃ f, agree y12f0_ y1f4_ f ∧ Grp.rounds (edgesX y12f0_) (List.length y12f0_ - n_ (w_ (Prod.fst y1s5_ + (1 : Int)))) f = Grp.rounds (edgesX y12f0_) (List.length y12f0_) fun j => (↑j : Int)) ∧ n_ ((↑(List.length y1f0_) : Int) - w_ (Prod.fst y1s5_ + (1 : Int))) < n_ ((↑A10_ : Int) - Prod.snd A3_))) ((List.length y11f0_ ≤ (12 : Nat) ∧ List.length y11f4_ = List.length y11f0_ ∧ ∀ (j : Nat), j < List.length y11f0_ → gi y11f4_ j = (↑(cmX y11f0_ j) : Int)) ∧ Q (SV.vec (2 : Nat)) [(false, Blk.vec Ty.body y11f0_), (false, Blk.vec Ty.contact y11f1_), (true, Blk.vec Ty.int (groupsX y11f0_))]))) := by kernel_rfl

theorem ok_l7Groups : FsOk Tryz.prog 161 fs_l7Groups := fsOk_of tt_ok (tabFs_cons ok_l3Less (tabFs_cons ok_l7Number tabFs_nil)) mixed Tryz.func161 (by kernel_rfl) (by kernel_rfl) (by
    intro args LL p r HH h hp
    unfold fs_l7Groups at h
    dsimp only at h
    split at h
    case h_2 => cases h
    rename_i xs cs
    simp only [Option.some.injEq, Prod.mk.injEq] at h
    obtain ⟨rfl, rfl, rfl⟩ := h
    refine ⟨by simp [Form, stays], (L_groupsS), ?_⟩
    rw [vc_l7Groups]
    try dsimp only
    obtain ⟨hl, hC⟩ := hp _ rfl
    have hq := length_contactsF hl
    rw [← hC] at hq
    refine ⟨⟨(by trivial), (by trivial), by omega, by omega, rfl⟩, ?_⟩
    rintro ⟨xs', cs', u, v, out, i⟩ ⟨h⟩
    dsimp only at h ⊢
    obtain ⟨rfl, rfl, i0, i1, h5⟩ := h
    have hs := congrArg List.length h5
    rw [length_gen] at hs
    refine ifB_of (fun c => ?_) (fun c => ?_)
    · have c := of_decide_eq_true c
      have e1 : (i + 1).toNat = i.toNat + 1 := by omega
      have w : IntKind.i64.wrap (i + 1) = i + 1 := wrap_small (by omega) (by omega)
      rw [w, e1]
      refine ⟨by simp only [room, List.length_singleton]; omega, ⟨(by trivial), (by trivial), by omega, by omega, ?_⟩, by omega⟩
      rw [gen_succ, h5, show ((i.toNat : Nat) : Int) = i by omega]
    · have c := of_decide_eq_false c
      have hag : agree xs' out (fun j => (j : Int)) := by
        refine ⟨by omega, fun j hj => ?_⟩
        rw [h5]
        exact ix_gen (T := .int) (by omega)
      refine ⟨⟨(by trivial), (by trivial), by omega, by omega, _, hag, rfl⟩, ?_⟩
      clear h5 hs c hag i0 i1
      rintro ⟨xs2, cs2, u2, v2, out2, n⟩ ⟨h⟩
      dsimp only at h ⊢
      obtain ⟨rfl, rfl, n0, n1, f, ha, hr⟩ := h
      refine ifB_of (fun c => ?_) (fun c => ?_)
      · have c := of_decide_eq_true c
        have e1 : (n + 1).toNat = n.toNat + 1 := by omega
        have w : IntKind.i64.wrap (n + 1) = n + 1 := wrap_small (by omega) (by omega)
        have hEd : edgesC xs2 cs2 = edgesX xs2 := by rw [hC]; rfl
        refine ⟨⟨(by trivial), (by trivial), (by trivial), by omega, by omega, f, ha, ?_⟩, ?_⟩
        · rw [← hr, show xs2.length - n.toNat = (xs2.length - (n.toNat + 1)) + 1 by omega]
          show Grp.rounds (edgesX xs2) (xs2.length - (n.toNat + 1)) ((edgesC xs2 cs2).foldl Grp.relax f) = _
          rw [hEd]
          rfl
        clear ha hr f
        rintro ⟨xs3, cs3, u3, v3, out3, n3, k⟩ ⟨h⟩
        dsimp only at h ⊢
        obtain ⟨rfl, rfl, rfl, k0, k1, f, ha, hr⟩ := h
        refine ifB_of (fun c2 => ?_) (fun c2 => ?_)
        · have c2 := of_decide_eq_true c2
          have hk : k.toNat < cs3.length := by omega
          have e2 : (k + 1).toNat = k.toNat + 1 := by omega
          have w2 : IntKind.i64.wrap (k + 1) = k + 1 := wrap_small (by omega) (by omega)
          have hc : 0 ≤ (Ty.ix .contact cs3 k.toNat).A ∧ (Ty.ix .contact cs3 k.toNat).A < xs3.length ∧ 0 ≤ (Ty.ix .contact cs3 k.toNat).B ∧ (Ty.ix .contact cs3 k.toNat).B < xs3.length := by
            have := contact_ok0 (xs := xs3) (i := k.toNat) (by rw [← hC]; exact hk)
            rw [← hC] at this
            exact ⟨this.1, this.2.1, this.2.2.1, this.2.2.2.1⟩
          obtain ⟨a0, a1, b0, b1⟩ := hc
          rw [edgesC_drop hk] at hr
          rw [w2, e2]
          have stay : (freeB xs3 (Ty.ix .contact cs3 k.toNat).A.toNat && freeB xs3 (Ty.ix .contact cs3 k.toNat).B.toNat) = false → ∃ f, agree xs3 out3 f ∧ Grp.rounds (edgesX xs3) (xs3.length - (n3.toNat + 1)) ((edgesC xs3 (cs3.drop (k.toNat + 1))).foldl Grp.relax f) = Grp.rounds (edgesX xs3) xs3.length (fun j => (j : Int)) := by
            intro z
            rw [z] at hr
            exact ⟨f, ha, hr⟩
          refine ⟨⟨k0, c2⟩, ⟨a0, a1⟩, ifB_of (fun d1 => ⟨⟨(by trivial), (by trivial), (by trivial), by omega, by omega, stay ?_⟩, by omega⟩) (fun d1 => ⟨⟨b0, b1⟩, ifB_of (fun d2 => ⟨⟨(by trivial), (by trivial), (by trivial), by omega, by omega, stay ?_⟩, by omega⟩) (fun d2 => ?_)⟩)⟩
          · unfold freeB
            rw [d1]
            rfl
          · unfold freeB
            rw [d2, Bool.not_true, Bool.and_false]
          · have fA : freeB xs3 (Ty.ix .contact cs3 k.toNat).A.toNat = true := by unfold freeB; rw [d1]; rfl
            have fB : freeB xs3 (Ty.ix .contact cs3 k.toNat).B.toNat = true := by unfold freeB; rw [d2]; rfl
            rw [fA, fB] at hr
            have hl3 := ha.1
            refine ⟨⟨a0, by omega⟩, ⟨b0, by omega⟩, ⟨a0, by omega⟩, ⟨b0, by rw [List.length_set]; omega⟩, ⟨(by trivial), (by trivial), (by trivial), by omega, by omega, _, agree_relax ha (by omega) (by omega), hr⟩, by omega⟩
        · have c2 := of_decide_eq_false c2
          rw [drop_end (by omega)] at hr
          have hr : Grp.rounds (edgesX xs3) (xs3.length - (n3.toNat + 1)) f = _ := hr
          rw [w, e1]
          exact ⟨⟨(by trivial), (by trivial), by omega, by omega, f, ha, hr⟩, by omega⟩
      · have c := of_decide_eq_false c
        rw [show xs2.length - n.toNat = 0 by omega] at hr
        exact ⟨⟨hl, lab_done ha hr⟩, (by trivial), (by trivial)⟩)

def LSsaw  : LS where
  S := List Body × List Int × Unit × Unit × List Bool × Int
  live := [(0, [none]), (1, [none]), (5, [some .bool]), (6, [none])]
  shape := fun s => ([.vec 0, .vec 1, .vec 2, .int .i64 s.2.2.2.2.2], [(false, .vec .body s.1), (false, .vec .int s.2.1), (true, .vec .bool s.2.2.2.2.1)])
  get := fun v h => match v, h with
    | [.vec 0, .vec 1, .vec 2, .int .i64 i], [(false, .vec .body xs), (false, .vec .int gs), (true, .vec .bool out)] => some (xs, gs, (), (), out, i)
    | _, _ => none
  inv := fun s0 s => Holds (s.1 = s0.1 ∧ s.2.1 = s0.2.1 ∧ 0 ≤ s.2.2.2.2.2 ∧ s.2.2.2.2.2 ≤ s0.1.length ∧ s.2.2.2.2.1 = awkF s0.1 s.2.2.2.2.2.toNat)
  mu := fun s => ((s.1.length : Int) - s.2.2.2.2.2).toNat
  ok := by
    intro v h s hg
    try dsimp only at hg
    split at hg <;> cases hg
    rfl

def L_sawake : Loops := fun n => match n with
  | 3 => some LSsaw
  | _ => none
noncomputable def fs_l7Awake : Fs := ⟨[], fun args H => match args, H with
  | [.vec 0, .vec 1], [(false, .vec .body xs), (false, .vec .int gs)] => some ((some (bodiesOk xs = true ∧ gs = groupsX xs)), .vec 2, [(false, .vec .body xs), (false, .vec .int gs), (true, .vec .bool (awkF xs xs.length))])
  | _, _ => none⟩

theorem vc_l7Awake (xs : List Body) (gs : List Int) (Q : SV → List Ent → Prop) :
    fnVC tt (look [(215, fs_l6Sleeps)]) (L_sawake) Tryz.f162 [.vec 0, .vec 1] [(false, .vec .body xs), (false, .vec .int gs)] Q =
    (let w_ := IntKind.wrap IntKind.i64; let n_ := Int.toNat; let ii_ := Ty.ix Ty.int; Holds (xs = xs ∧ gs = gs ∧ (0 : Int) ≤ (0 : Int) ∧ (0 : Int) ≤ (↑(List.length xs) : Int) ∧ [] = awkF xs (n_ (0 : Int))) ∧ ∀ (y1 : List Body × List Int × Unit × Unit × List Bool × Int), let y1f0_ := Prod.fst y1; let y1s1_ := Prod.snd y1; let y1f1_ := Prod.fst (Prod.snd y1); let y1s4_ := Prod.snd (Prod.snd (Prod.snd (Prod.snd y1))); let y1f4_ := Prod.fst (Prod.snd (Prod.snd (Prod.snd (Prod.snd y1)))); let y1s5_ := Prod.snd (Prod.snd (Prod.snd (Prod.snd (Prod.snd y1)))); let A9_ := (Prod.fst y1s4_ ++ [false]); let A8_ := (↑(List.length xs) : Int); let A7_ := (↑(List.length y1f1_) : Int); let A4_ := (n_ (ii_ y1f1_ (n_ y1s5_))); let A3_ := (↑(List.length y1f0_) : Int); let A2_ := (Prod.snd y1s4_ + (1 : Int)); let A6_ := (A3_ - w_ A2_); let A5_ := (n_ (w_ A2_)); Holds (Prod.fst y1 = xs ∧ y1f1_ = gs ∧ (0 : Int) ≤ y1s5_ ∧ y1s5_ ≤ A8_ ∧ y1f4_ = awkF xs (n_ y1s5_)) → ifB (decide (Prod.snd y1s4_ < A3_)) (((0 : Int) ≤ y1s5_ ∧ y1s5_ < A7_) ∧ ifB (ii_ y1f1_ (n_ y1s5_) == (↑(List.length y1f4_) : Int)) ((List.length y1f4_ + List.length [false]) * (1 : Nat) ≤ room ∧ ((0 : Int) ≤ y1s5_ ∧ y1s5_ < A7_) ∧ ifB (decide (ii_ y1f1_ (n_ y1s5_) ≥ (0 : Int))) (((0 : Int) ≤ y1s5_ ∧ y1s5_ < A7_) ∧ ((0 : Int) ≤ y1s5_ ∧ y1s5_ < A7_) ∧ ((0 : Int) ≤ ii_ y1f1_ (n_ y1s5_) ∧ ii_ y1f1_ (n_ y1s5_) < (↑(List.length A9_) : Int)) ∧ ifB (Ty.ix Ty.bool A9_ A4_) (((0 : Int) ≤ ii_ y1f1_ (n_ y1s5_) ∧ ii_ y1f1_ (n_ y1s5_) < (↑(List.length A9_) : Int)) ∧ Holds (Prod.fst y1 = xs ∧ y1f1_ = gs ∧ (0 : Int) ≤ w_ A2_ ∧ w_ A2_ ≤ A8_ ∧ List.set A9_ A4_ true = awkF xs A5_) ∧ n_ A6_ < n_ (A3_ - y1s5_)) (((0 : Int) ≤ y1s5_ ∧ y1s5_ < A3_) ∧ ((0 : Int) ≤ ii_ y1f1_ (n_ y1s5_) ∧ ii_ y1f1_ (n_ y1s5_) < (↑(List.length A9_) : Int)) ∧ Holds (Prod.fst y1 = xs ∧ y1f1_ = gs ∧ (0 : Int) ≤ w_ A2_ ∧ w_ A2_ ≤ A8_ ∧ (List.set A9_ A4_ !decide (Body.Quiet (Ty.ix Ty.body y1f0_ (n_ y1s5_)) ≥ (8 : Int))) = awkF xs A5_) ∧ n_ A6_ < n_ (A3_ - y1s5_))) (Holds (Prod.fst y1 = xs ∧ y1f1_ = gs ∧ (0 : Int) ≤ w_ A2_ ∧ w_ A2_ ≤ A8_ ∧ y1f4_ ++ [false] = awkF xs A5_) ∧ n_ A6_ < n_ (A3_ - y1s5_))) (((0 : Int) ≤ y1s5_ ∧ y1s5_ < A7_) ∧ ifB (decide (ii_ y1f1_ (n_ y1s5_) ≥ (0 : Int))) (((0 : Int) ≤ y1s5_ ∧ y1s5_ < A7_) ∧ ((0 : Int) ≤ y1s5_ ∧ y1s5_ < A7_) ∧ ((0 : Int) ≤ ii_ y1f1_ (n_ y1s5_) ∧ ii_ y1f1_ (n_ y1s5_) < (↑(List.length y1f4_) : Int)) ∧ ifB (Ty.ix Ty.bool y1f4_ A4_) (((0 : Int) ≤ ii_ y1f1_ (n_ y1s5_) ∧ ii_ y1f1_ (n_ y1s5_) < (↑(List.length y1f4_) : Int)) ∧ Holds (Prod.fst y1 = xs ∧ y1f1_ = gs ∧ (0 : Int) ≤ w_ A2_ ∧ w_ A2_ ≤ A8_ ∧ List.set y1f4_ A4_ true = awkF xs A5_) ∧ n_ A6_ < n_ (A3_ - y1s5_)) (((0 : Int) ≤ y1s5_ ∧ y1s5_ < A3_) ∧ ((0 : Int) ≤ ii_ y1f1_ (n_ y1s5_) ∧ ii_ y1f1_ (n_ y1s5_) < (↑(List.length y1f4_) : Int)) ∧ Holds (Prod.fst y1 = xs ∧ y1f1_ = gs ∧ (0 : Int) ≤ w_ A2_ ∧ w_ A2_ ≤ A8_ ∧ (List.set y1f4_ A4_ !decide (Body.Quiet (Ty.ix Ty.body y1f0_ (n_ y1s5_)) ≥ (8 : Int))) = awkF xs A5_) ∧ n_ A6_ < n_ (A3_ - y1s5_))) (Holds (Prod.fst y1 = xs ∧ y1f1_ = gs ∧ (0 : Int) ≤ w_ A2_ ∧ w_ A2_ ≤ A8_ ∧ y1f4_ = awkF xs A5_) ∧ n_ A6_ < n_ (A3_ - y1s5_)))) (Q (SV.vec (2 : Nat)) [(false, Blk.vec Ty.body y1f0_), (false, Blk.vec Ty.int y1f1_), (true, Blk.vec Ty.bool y1f4_)])) := by kernel_rfl

theorem ok_l7Awake : FsOk Tryz.prog 162 fs_l7Awake := fsOk_of tt_ok (tabFs_cons ok_l6Sleeps tabFs_nil) mixed Tryz.func162 (by kernel_rfl) (by kernel_rfl) (by
    intro args LL p r HH h hp
    unfold fs_l7Awake at h
    dsimp only at h
    split at h
    case h_2 => cases h
    rename_i xs gs
    simp only [Option.some.injEq, Prod.mk.injEq] at h
    obtain ⟨rfl, rfl, rfl⟩ := h
    refine ⟨by simp [Form, stays], (L_sawake), ?_⟩
    rw [vc_l7Awake]
    try dsimp only
    obtain ⟨hok, hG⟩ := hp _ rfl
    have hl := bodiesOk_len hok
    have hgl : (groupsX xs).length = xs.length := by simp only [groupsX, length_gen]
    refine ⟨⟨(by trivial), (by trivial), by omega, by omega, rfl⟩, ?_⟩
    rintro ⟨xs', gs', u, v, out, i⟩ ⟨h⟩
    dsimp only at h ⊢
    obtain ⟨rfl, rfl, i0, i1, rfl⟩ := h
    subst hG
    refine ifB_of (fun c => ?_) (fun c => ?_)
    · have c := of_decide_eq_true c
      have hi : i.toNat < xs'.length := by omega
      have e1 : (i + 1).toNat = i.toNat + 1 := by omega
      have w : IntKind.i64.wrap (i + 1) = i + 1 := wrap_small (by omega) (by omega)
      have hg : Ty.ix .int (groupsX xs') i.toNat = gOf xs' xs'.length i.toNat := ix_gen (T := .int) hi
      have hle := length_awkF xs' i.toNat
      have hll := lead_len hi
      have hga := gOf_all hi
      have hns := num_succ xs' i.toNat
      have hnl := num_le xs' i.toNat
      have hqq : decide ((Ty.ix .body xs' i.toNat).Quiet ≥ 8) = ((Ty.ix .body xs' i.toNat).Quiet == 8) := by
        have h1 := bodiesOk_each hok hi
        simp only [bodyOk, Bool.and_eq_true, isIn, decide_eq_true_eq] at h1
        have h8 := h1.1.2
        rw [Bool.eq_iff_iff]
        simp only [decide_eq_true_eq, beq_iff_eq]
        omega
      rw [w, e1, hg, hle, hqq]
      cases f : freeB xs' i.toNat with
      | false =>
        rw [f] at hga
        have hga : gOf xs' xs'.length i.toNat = -1 := hga
        rw [hga]
        have fin : awkF xs' i.toNat = awkF xs' (i.toNat + 1) := (awk_fixed f).symm
        refine ⟨⟨i0, by omega⟩, ifB_of (fun d => ?_) (fun d => ⟨⟨i0, by omega⟩, ifB_of (fun d2 => ?_) (fun d2 => ⟨⟨(by trivial), (by trivial), by omega, by omega, fin⟩, by omega⟩)⟩)⟩
        · have d : (-1 : Int) = (numX xs' i.toNat : Int) := eq_of_beq d
          omega
        · exact absurd d2 (by decide)
      | true =>
        rw [f] at hga
        have hga : gOf xs' xs'.length i.toNat = (numX xs' (cmX xs' i.toNat) : Int) := hga
        have hin := num_in f
        rw [hga] at hll ⊢
        have hpos : ¬ decide ((numX xs' (cmX xs' i.toNat) : Int) ≥ 0) = false := by
          rw [decide_eq_true (by omega)]
          simp
        have same0 : ∀ {out : List Bool} {m : Nat} {v : Bool}, m < out.length → Ty.ix .bool out m = v → out.set m v = out := by
          rintro out m v hm rfl
          exact set_ix (T := .bool) out hm
        have key : ∀ {out : List Bool}, (bif !((Ty.ix .body xs' i.toNat).Quiet == 8) then out.set (numX xs' (cmX xs' i.toNat)) true else out) = awkF xs' (i.toNat + 1) → numX xs' (cmX xs' i.toNat) < out.length → ∀ b : Bool, Ty.ix .bool out (numX xs' (cmX xs' i.toNat)) = b →
            out.set (numX xs' (cmX xs' i.toNat)) (bif b then true else !((Ty.ix .body xs' i.toNat).Quiet == 8)) = awkF xs' (i.toNat + 1) := by
          intro out h1 h2 b h3
          rw [← h1]
          cases q : (Ty.ix .body xs' i.toNat).Quiet == 8
          · cases b <;> rfl
          · cases b
            · exact same0 h2 h3
            · exact same0 h2 h3
        refine ⟨⟨i0, by omega⟩, ifB_of (fun d => ⟨by simp only [room, List.length_singleton]; omega, ⟨i0, by omega⟩, ifB_of (fun _ => ⟨⟨i0, by omega⟩, ⟨i0, by omega⟩, ⟨by omega, ?_⟩, ifB_of (fun d3 => ⟨⟨by omega, ?_⟩, ⟨(by trivial), (by trivial), by omega, by omega, ?_⟩, by omega⟩) (fun d3 => ⟨⟨i0, c⟩, ⟨by omega, ?_⟩, ⟨(by trivial), (by trivial), by omega, by omega, ?_⟩, by omega⟩)⟩) (fun d2 => absurd d2 hpos)⟩)
          (fun d => ⟨⟨i0, by omega⟩, ifB_of (fun _ => ⟨⟨i0, by omega⟩, ⟨i0, by omega⟩, ⟨by omega, ?_⟩, ifB_of (fun d3 => ⟨⟨by omega, ?_⟩, ⟨(by trivial), (by trivial), by omega, by omega, ?_⟩, by omega⟩) (fun d3 => ⟨⟨i0, c⟩, ⟨by omega, ?_⟩, ⟨(by trivial), (by trivial), by omega, by omega, ?_⟩, by omega⟩)⟩) (fun d2 => absurd d2 hpos)⟩)⟩
        all_goals
          have d : Grp.lead (freeB xs') (cmX xs') i.toNat = _ := hll.symm.trans d
          rw [d] at hns
        case refine_1 | refine_2 | refine_4 =>
          simp only [cond_true] at hns
          exact Int.ofNat_lt.2 (by rw [List.length_append, hle, List.length_singleton]; omega)
        case refine_3 =>
          simp only [cond_true] at hns
          exact key (awk_free f d rfl).symm (by simp only [cond_true]; rw [List.length_append, hle, List.length_singleton]; omega) true d3
        case refine_5 =>
          simp only [cond_true] at hns
          exact key (awk_free f d rfl).symm (by simp only [cond_true]; rw [List.length_append, hle, List.length_singleton]; omega) false d3
        case refine_6 | refine_7 | refine_9 =>
          simp only [cond_false] at hns
          exact Int.ofNat_lt.2 (by omega)
        case refine_8 =>
          simp only [cond_false] at hns
          have := awk_free f d rfl
          simp only [cond_false, List.append_nil] at this
          exact key this.symm (by omega) true d3
        case refine_10 =>
          simp only [cond_false] at hns
          have := awk_free f d rfl
          simp only [cond_false, List.append_nil] at this
          exact key this.symm (by omega) false d3
    · have c := of_decide_eq_false c
      rw [show i.toNat = xs'.length by omega]
      exact ⟨(by trivial), (by trivial)⟩)

end
end Go.Proofs.YtdhbkcaaijgocaaGreat.Sym

namespace Go.Proofs.YtdhbkcaaijgocaaGreat.Sym
open Go
set_option linter.unusedVariables false
set_option linter.unusedSimpArgs false
set_option maxRecDepth 100000
noncomputable section

theorem quiet_ok2 {xs : List Body} (h : bodiesOk xs = true) {k : Nat} (hk : k < xs.length) : decide ((Ty.ix .body xs k).Quiet ≥ 8) = ((Ty.ix .body xs k).Quiet == 8) := by
  have := (bok_iff.1 (bodiesOk_each h hk)).2.2.2.2.2.2.2.1
  rw [Bool.eq_iff_iff]
  simp only [decide_eq_true_eq, beq_iff_eq]
  omega
theorem moves_ok2 {xs : List Body} (h : bodiesOk xs = true) {k : Nat} (hk : k < xs.length) : moves (Ty.ix .body xs k) = (decide ((Ty.ix .body xs k).Mass > 0) && !decide ((Ty.ix .body xs k).Quiet ≥ 8)) := moves_iff (bodiesOk_each h hk)
theorem wakeS_stay {xs : List Body} {gs : List Int} {ws : List Bool} {k : Nat} (h : ((Ty.ix .body xs k).Quiet == 8 && Ty.ix .bool ws (gi gs k).toNat) = false) : wakeS gs ws k (Ty.ix .body xs k) = Ty.ix .body xs k := by
  unfold wakeS
  rw [h]
  rfl
def LSl9w  : LS where
  S := List Body × List Int × List Bool × Unit × Unit × List Body × Int
  live := [(1, [none]), (2, [none]), (7, [some .body]), (8, [none])]
  shape := fun s => ([.vec 1, .vec 2, .vec 3, .int .i64 s.2.2.2.2.2.2], [(false, .vec .body s.1), (false, .vec .int s.2.1), (false, .vec .bool s.2.2.1), (true, .vec .body s.2.2.2.2.2.1)])
  get := fun v h => match v, h with
    | [.vec 1, .vec 2, .vec 3, .int .i64 i], [(false, .vec .body xs), (false, .vec .int gs), (false, .vec .bool ws), (true, .vec .body ys)] => some (xs, gs, ws, (), (), ys, i)
    | _, _ => none
  inv := fun s0 s => Holds (s.1 = s0.1 ∧ s.2.1 = s0.2.1 ∧ s.2.2.1 = s0.2.2.1 ∧ 0 ≤ s.2.2.2.2.2.2 ∧ s.2.2.2.2.2.2 ≤ s0.1.length ∧ s.2.2.2.2.2.1 = fill (fun e => wakeS s0.2.1 s0.2.2.1 e (Ty.ix .body s0.1 e)) s0.1 s.2.2.2.2.2.2.toNat)
  mu := fun s => ((s.1.length : Int) - s.2.2.2.2.2.2).toNat
  ok := by
    intro v h s hg
    try dsimp only at hg
    split at hg <;> cases hg
    rfl

def L_l9w : Loops := fun n => match n with
  | 3 => some LSl9w
  | _ => none
noncomputable def fs_l9Wake : Fs := ⟨[], fun args H => match args, H with
  | [.vec 0, .vec 1, .vec 2], [(false, .vec .body xs), (false, .vec .int gs), (false, .vec .bool ws)] => some ((some (bodiesOk xs = true ∧ gs = groupsX xs ∧ ws = awkF xs xs.length)), .vec 3, [(false, .vec .body xs), (false, .vec .int gs), (false, .vec .bool ws), (true, .vec .body (wokenF xs))])
  | _, _ => none⟩

theorem vc_l9Wake (xs : List Body) (gs : List Int) (ws : List Bool) (Q : SV → List Ent → Prop) :
    fnVC tt (look [(90, fs_specCopyB), (215, fs_l6Sleeps)]) (L_l9w) Tryz.f163 [.vec 0, .vec 1, .vec 2] [(false, .vec .body xs), (false, .vec .int gs), (false, .vec .bool ws)] Q =
    (let w_ := IntKind.wrap IntKind.i64; let n_ := Int.toNat; let ib_ := Ty.ix Ty.body; List.length xs ≤ (1048576 : Nat) ∧ Holds (xs = xs ∧ gs = gs ∧ ws = ws ∧ (0 : Int) ≤ (0 : Int) ∧ (0 : Int) ≤ (↑(List.length xs) : Int) ∧ xs = fill (fun e => wakeS gs ws e (ib_ xs e)) xs (n_ (0 : Int))) ∧ ∀ (y1 : List Body × List Int × List Bool × Unit × Unit × List Body × Int), let y1f0_ := Prod.fst y1; let y1s1_ := Prod.snd y1; let y1f1_ := Prod.fst (Prod.snd y1); let y1f2_ := Prod.fst (Prod.snd (Prod.snd y1)); let y1s5_ := Prod.snd (Prod.snd (Prod.snd (Prod.snd (Prod.snd y1)))); let y1f5_ := Prod.fst (Prod.snd (Prod.snd (Prod.snd (Prod.snd (Prod.snd y1))))); let y1s6_ := Prod.snd (Prod.snd (Prod.snd (Prod.snd (Prod.snd (Prod.snd y1))))); let A5_ := ((↑(List.length y1f0_) : Int) - y1s6_); let A2_ := (Prod.snd y1s5_ + (1 : Int)); let A4_ := (n_ (w_ A2_)); let A3_ := ((↑(List.length y1f0_) : Int) - w_ A2_); Holds (Prod.fst y1 = xs ∧ y1f1_ = gs ∧ y1f2_ = ws ∧ (0 : Int) ≤ y1s6_ ∧ y1s6_ ≤ (↑(List.length xs) : Int) ∧ y1f5_ = fill (fun e => wakeS gs ws e (ib_ xs e)) xs (n_ y1s6_)) → ifB (decide (Prod.snd y1s5_ < (↑(List.length y1f5_) : Int))) (((0 : Int) ≤ y1s6_ ∧ y1s6_ < (↑(List.length y1f1_) : Int)) ∧ ifB (decide (Ty.ix Ty.int y1f1_ (n_ y1s6_) ≥ (0 : Int))) (((0 : Int) ≤ y1s6_ ∧ y1s6_ < (↑(List.length y1f1_) : Int)) ∧ ((0 : Int) ≤ Ty.ix Ty.int y1f1_ (n_ y1s6_) ∧ Ty.ix Ty.int y1f1_ (n_ y1s6_) < (↑(List.length y1f2_) : Int)) ∧ ifB (Ty.ix Ty.bool y1f2_ (n_ (Ty.ix Ty.int y1f1_ (n_ y1s6_)))) (((0 : Int) ≤ y1s6_ ∧ y1s6_ < (↑(List.length y1f5_) : Int)) ∧ ifB (decide (Body.Quiet (ib_ y1f5_ (n_ y1s6_)) ≥ (8 : Int))) (((0 : Int) ≤ y1s6_ ∧ y1s6_ < (↑(List.length y1f5_) : Int)) ∧ Holds (Prod.fst y1 = xs ∧ y1f1_ = gs ∧ y1f2_ = ws ∧ (0 : Int) ≤ w_ A2_ ∧ w_ A2_ ≤ (↑(List.length xs) : Int) ∧ setC Ty.body y1f5_ (n_ y1s6_) ((0 : Nat) + (11 : Nat)) [SV.int IntKind.i64 (0 : Int)] = fill (fun e => wakeS gs ws e (ib_ xs e)) xs A4_) ∧ n_ A3_ < n_ A5_) (Holds (Prod.fst y1 = xs ∧ y1f1_ = gs ∧ y1f2_ = ws ∧ (0 : Int) ≤ w_ A2_ ∧ w_ A2_ ≤ (↑(List.length xs) : Int) ∧ y1f5_ = fill (fun e => wakeS gs ws e (ib_ xs e)) xs A4_) ∧ n_ A3_ < n_ A5_)) (Holds (Prod.fst y1 = xs ∧ y1f1_ = gs ∧ y1f2_ = ws ∧ (0 : Int) ≤ w_ A2_ ∧ w_ A2_ ≤ (↑(List.length xs) : Int) ∧ y1f5_ = fill (fun e => wakeS gs ws e (ib_ xs e)) xs A4_) ∧ n_ A3_ < n_ A5_)) (Holds (Prod.fst y1 = xs ∧ y1f1_ = gs ∧ y1f2_ = ws ∧ (0 : Int) ≤ w_ A2_ ∧ w_ A2_ ≤ (↑(List.length xs) : Int) ∧ y1f5_ = fill (fun e => wakeS gs ws e (ib_ xs e)) xs A4_) ∧ n_ A3_ < n_ A5_)) (Q (SV.vec (3 : Nat)) [(false, Blk.vec Ty.body y1f0_), (false, Blk.vec Ty.int y1f1_), (false, Blk.vec Ty.bool y1f2_), (true, Blk.vec Ty.body y1f5_)])) := by kernel_rfl

theorem ok_l9Wake : FsOk Tryz.prog 163 fs_l9Wake := fsOk_of tt_ok (tabFs_cons ok_specCopyB (tabFs_cons ok_l6Sleeps tabFs_nil)) mixed Tryz.func163 (by kernel_rfl) (by kernel_rfl) (by
    intro args LL p r HH h hp
    unfold fs_l9Wake at h
    dsimp only at h
    split at h
    case h_2 => cases h
    rename_i xs gs ws
    simp only [Option.some.injEq, Prod.mk.injEq] at h
    obtain ⟨rfl, rfl, rfl⟩ := h
    refine ⟨by simp [Form, stays], (L_l9w), ?_⟩
    rw [vc_l9Wake]
    try dsimp only
    obtain ⟨hok, hG, hW⟩ := hp _ rfl
    have hl := bodiesOk_len hok
    have hgl : (groupsX xs).length = xs.length := by simp only [groupsX, length_gen]
    have hwl := length_awkF xs xs.length
    refine ⟨by omega, ⟨(by trivial), (by trivial), (by trivial), by omega, by omega, (fill_zero _ _).symm⟩, ?_⟩
    rintro ⟨xs', gs', ws', u, v, ys, i⟩ ⟨h⟩
    dsimp only at h ⊢
    obtain ⟨rfl, rfl, rfl, i0, i1, h5⟩ := h
    subst hG hW
    have hyl : ys.length = xs'.length := by rw [h5]; exact length_fill _ _ (by omega)
    refine ifB_of (fun c => ?_) (fun c => ?_)
    · have c := of_decide_eq_true c
      have hi : i.toNat < xs'.length := by omega
      have e1 : (i + 1).toNat = i.toNat + 1 := by omega
      have w : IntKind.i64.wrap (i + 1) = i + 1 := wrap_small (by omega) (by omega)
      have hf := (fill_ix h5 hi).2
      have hq := quiet_ok2 hok hi
      have hgi : Ty.ix .int (groupsX xs') i.toNat = gOf xs' xs'.length i.toNat := ix_gen (T := .int) hi
      rw [w, e1, hf, hq]
      have stay : ((Ty.ix .body xs' i.toNat).Quiet == 8 && Ty.ix .bool (awkF xs' xs'.length) (gi (groupsX xs') i.toNat).toNat) = false → ys = fill (fun e => wakeS (groupsX xs') (awkF xs' xs'.length) e (Ty.ix .body xs' e)) xs' (i.toNat + 1) := fun z => fill_stay h5 hi (wakeS_stay z)
      refine ⟨⟨i0, by omega⟩, ifB_of (fun d => ⟨⟨i0, by omega⟩, ⟨of_decide_eq_true d, ?_⟩, ifB_of (fun d2 => ⟨⟨i0, c⟩, ifB_of (fun d3 => ⟨⟨i0, c⟩, ⟨(by trivial), (by trivial), (by trivial), by omega, by omega, ?_⟩, by omega⟩) (fun d3 => ⟨⟨(by trivial), (by trivial), (by trivial), by omega, by omega, stay ?_⟩, by omega⟩)⟩) (fun d2 => ⟨⟨(by trivial), (by trivial), (by trivial), by omega, by omega, stay ?_⟩, by omega⟩)⟩) (fun d => ⟨⟨(by trivial), (by trivial), (by trivial), by omega, by omega, stay ?_⟩, by omega⟩)⟩
      · have f := group_free hi (show 0 ≤ gi (groupsX xs') i.toNat from of_decide_eq_true d)
        rw [hgi, gOf_all hi, f]
        have h1 := num_in f
        have h2 := Grp.num_mono (freeB xs') (cmX xs') (show i.toNat + 1 ≤ xs'.length from hi)
        have h3 : numX xs' (cmX xs' i.toNat) < (awkF xs' xs'.length).length := by rw [hwl]; exact Nat.lt_of_lt_of_le h1 h2
        exact Int.ofNat_lt.2 h3
      · have d2 : Ty.ix .bool (awkF xs' xs'.length) (gi (groupsX xs') i.toNat).toNat = true := d2
        rw [setC_quiet, hf]
        refine fill_go h5 hi ?_
        unfold wakeS
        rw [d3, d2]
        rfl
      · rw [d3, Bool.false_and]
      · have d2 : Ty.ix .bool (awkF xs' xs'.length) (gi (groupsX xs') i.toNat).toNat = false := d2
        rw [d2, Bool.and_false]
      · have d : ¬ Ty.ix .int (groupsX xs') i.toNat ≥ 0 := of_decide_eq_false d
        cases q : (Ty.ix .body xs' i.toNat).Quiet == 8 with
        | false => rw [Bool.false_and]
        | true =>
          have f := groups_in hok hi q
          rw [hgi, gOf_all hi, f] at d
          exact absurd (Int.natCast_nonneg _) d
    · have c := of_decide_eq_false c
      rw [fill_map (f := wakeS (groupsX xs') (awkF xs' xs'.length)) h5 (by omega)]
      exact ⟨(by trivial), (by trivial)⟩)

def LSl9pl  : LS where
  S := List Body × Int × List Body × Int
  live := [(1, [none]), (5, [some .body]), (6, [none])]
  shape := fun s => ([.int .i64 s.2.1, .vec 1, .int .i64 s.2.2.2], [(false, .vec .body s.1), (true, .vec .body s.2.2.1)])
  get := fun v h => match v, h with
    | [.int .i64 pull, .vec 1, .int .i64 i], [(false, .vec .body xs), (true, .vec .body ys)] => some (xs, pull, ys, i)
    | _, _ => none
  inv := fun s0 s => Holds (s.1 = s0.1 ∧ s.2.1 = s0.2.1 ∧ 0 ≤ s.2.2.2 ∧ s.2.2.2 ≤ s0.1.length ∧ s.2.2.1 = fill (fun e => pullS s0.2.1 e (Ty.ix .body s0.1 e)) s0.1 s.2.2.2.toNat)
  mu := fun s => ((s.1.length : Int) - s.2.2.2).toNat
  ok := by
    intro v h s hg
    try dsimp only at hg
    split at hg <;> cases hg
    rfl

def L_l9pl : Loops := fun n => match n with
  | 3 => some LSl9pl
  | _ => none
noncomputable def fs_l9Pull : Fs := ⟨[], fun args H => match args, H with
  | [.vec 0, .int .i64 pull], [(false, .vec .body xs)] => some ((some (bodiesOk xs = true ∧ 0 ≤ pull ∧ pull ≤ 2560)), .vec 1, [(false, .vec .body xs), (true, .vec .body (mapX (pullS pull) xs))])
  | _, _ => none⟩

theorem vc_l9Pull (xs : List Body) (pull : Int) (Q : SV → List Ent → Prop) :
    fnVC tt (look [(90, fs_specCopyB), (215, fs_l6Sleeps), (211, fs_specWithin)]) (L_l9pl) Tryz.f165 [.vec 0, .int .i64 pull] [(false, .vec .body xs)] Q =
    (let w_ := IntKind.wrap IntKind.i64; let n_ := Int.toNat; let ib_ := Ty.ix Ty.body; List.length xs ≤ (1048576 : Nat) ∧ Holds (xs = xs ∧ pull = pull ∧ (0 : Int) ≤ (0 : Int) ∧ (0 : Int) ≤ (↑(List.length xs) : Int) ∧ xs = fill (fun e => pullS pull e (ib_ xs e)) xs (n_ (0 : Int))) ∧ ∀ (y1 : List Body × Int × List Body × Int), let y1f0_ := Prod.fst y1; let y1s1_ := Prod.snd y1; let y1f1_ := Prod.fst (Prod.snd y1); let y1s2_ := Prod.snd (Prod.snd y1); let y1f2_ := Prod.fst (Prod.snd (Prod.snd y1)); let y1s3_ := Prod.snd (Prod.snd (Prod.snd y1)); let A4_ := (↑(List.length y1f0_) : Int); let A3_ := (Prod.snd y1s2_ + (1 : Int)); let A2_ := (ib_ y1f2_ (n_ y1s3_)); Holds (Prod.fst y1 = xs ∧ y1f1_ = pull ∧ (0 : Int) ≤ y1s3_ ∧ y1s3_ ≤ (↑(List.length xs) : Int) ∧ y1f2_ = fill (fun e => pullS pull e (ib_ xs e)) xs (n_ y1s3_)) → ifB (decide (Prod.snd y1s2_ < (↑(List.length y1f2_) : Int))) (((0 : Int) ≤ y1s3_ ∧ y1s3_ < (↑(List.length y1f2_) : Int)) ∧ ifB (decide (Body.Mass A2_ > (0 : Int))) (ifB (!decide (Body.Quiet A2_ ≥ (8 : Int))) (((0 : Int) ≤ y1s3_ ∧ y1s3_ < (↑(List.length y1f2_) : Int)) ∧ Holds (Prod.fst y1 = xs ∧ y1f1_ = pull ∧ (0 : Int) ≤ w_ A3_ ∧ w_ A3_ ≤ (↑(List.length xs) : Int) ∧ List.set y1f2_ (n_ y1s3_) (Body.mk (Body.Id A2_) (Body.Shape A2_) (Body.At A2_) (Vec.mk (Vec.X (Body.Drive A2_)) (withinS (w_ (Vec.Y (Body.Drive A2_) - w_ (Prod.fst y1s1_ * Body.Mass A2_))) (20000000 : Int))) (Body.Mass A2_) (Body.Bounce A2_) (Body.Rub A2_) (Body.Quiet A2_)) = fill (fun e => pullS pull e (ib_ xs e)) xs (n_ (w_ A3_))) ∧ n_ (A4_ - w_ A3_) < n_ (A4_ - y1s3_)) (Holds (Prod.fst y1 = xs ∧ y1f1_ = pull ∧ (0 : Int) ≤ w_ A3_ ∧ w_ A3_ ≤ (↑(List.length xs) : Int) ∧ y1f2_ = fill (fun e => pullS pull e (ib_ xs e)) xs (n_ (w_ A3_))) ∧ n_ (A4_ - w_ A3_) < n_ (A4_ - y1s3_))) (Holds (Prod.fst y1 = xs ∧ y1f1_ = pull ∧ (0 : Int) ≤ w_ A3_ ∧ w_ A3_ ≤ (↑(List.length xs) : Int) ∧ y1f2_ = fill (fun e => pullS pull e (ib_ xs e)) xs (n_ (w_ A3_))) ∧ n_ (A4_ - w_ A3_) < n_ (A4_ - y1s3_))) (Q (SV.vec (1 : Nat)) [(false, Blk.vec Ty.body y1f0_), (true, Blk.vec Ty.body y1f2_)])) := by kernel_rfl

theorem ok_l9Pull : FsOk Tryz.prog 165 fs_l9Pull := fsOk_of tt_ok (tabFs_cons ok_specCopyB (tabFs_cons ok_l6Sleeps (tabFs_cons ok_specWithin tabFs_nil))) mixed Tryz.func165 (by kernel_rfl) (by kernel_rfl) (by
    intro args LL p r HH h hp
    unfold fs_l9Pull at h
    dsimp only at h
    split at h
    case h_2 => cases h
    rename_i pull xs
    simp only [Option.some.injEq, Prod.mk.injEq] at h
    obtain ⟨rfl, rfl, rfl⟩ := h
    refine ⟨by simp [Form, stays], (L_l9pl), ?_⟩
    rw [vc_l9Pull]
    try dsimp only
    obtain ⟨hok, p0, p1⟩ := hp _ rfl
    have hl := bodiesOk_len hok
    refine ⟨by omega, ⟨(by trivial), (by trivial), by omega, by omega, (fill_zero _ _).symm⟩, ?_⟩
    rintro ⟨xs', pl, ys, i⟩ ⟨h⟩
    dsimp only at h ⊢
    obtain ⟨rfl, rfl, i0, i1, h5⟩ := h
    have hyl : ys.length = xs'.length := by rw [h5]; exact length_fill _ _ (by omega)
    refine ifB_of (fun c => ?_) (fun c => ?_)
    · have c := of_decide_eq_true c
      have hi : i.toNat < xs'.length := by omega
      have e1 : (i + 1).toNat = i.toNat + 1 := by omega
      have w : IntKind.i64.wrap (i + 1) = i + 1 := wrap_small (by omega) (by omega)
      have hf := (fill_ix h5 hi).2
      have hb := bok_iff.1 (bodiesOk_each hok hi)
      have hmv := moves_ok2 hok hi
      rw [w, e1, hf]
      refine ⟨⟨i0, c⟩, ifB_of (fun d => ifB_of (fun d2 => ⟨⟨i0, c⟩, ⟨(by trivial), (by trivial), by omega, by omega, fill_go h5 hi ?_⟩, by omega⟩) (fun d2 => ⟨⟨(by trivial), (by trivial), by omega, by omega, fill_stay h5 hi ?_⟩, by omega⟩)) (fun d => ⟨⟨(by trivial), (by trivial), by omega, by omega, fill_stay h5 hi ?_⟩, by omega⟩)⟩
      · rw [d, d2] at hmv
        have hm := mul_le_mul0 p0 p1 hb.2.2.2.2.1.1 hb.2.2.2.2.1.2
        have hd := hb.2.2.2.1
        have e : withinS (W ((Ty.ix .body xs' i.toNat).Drive.Y - W (pl * (Ty.ix .body xs' i.toNat).Mass))) 20000000 = max (W ((Ty.ix .body xs' i.toNat).Drive.Y - W (pl * (Ty.ix .body xs' i.toNat).Mass))) (-20000000) := by
          rw [withinS_drive, withinI_drive, show W (pl * (Ty.ix .body xs' i.toNat).Mass) = pl * (Ty.ix .body xs' i.toNat).Mass from W_small (by omega) (by omega), W_small (by omega) (by omega)]
          unfold clampTo
          omega
        have e : withinS (IntKind.i64.wrap ((Ty.ix .body xs' i.toNat).Drive.Y - IntKind.i64.wrap (pl * (Ty.ix .body xs' i.toNat).Mass))) 20000000 = _ := e
        rw [e]
        unfold pullS
        rw [hmv]
        rfl
      · rw [d, d2] at hmv
        unfold pullS
        rw [hmv]
        rfl
      · rw [d] at hmv
        unfold pullS
        rw [hmv]
        rfl
    · have c := of_decide_eq_false c
      rw [fill_map (f := pullS pl) h5 (by omega)]
      exact ⟨(by trivial), (by trivial)⟩)

def LSl9lv  : LS where
  S := List Body × List Contact × Unit × Unit × List Contact × Int
  live := [(0, [none]), (1, [none]), (5, [some .contact]), (6, [none])]
  shape := fun s => ([.vec 0, .vec 1, .vec 2, .int .i64 s.2.2.2.2.2], [(false, .vec .body s.1), (false, .vec .contact s.2.1), (true, .vec .contact s.2.2.2.2.1)])
  get := fun v h => match v, h with
    | [.vec 0, .vec 1, .vec 2, .int .i64 i], [(false, .vec .body xs), (false, .vec .contact cs), (true, .vec .contact live)] => some (xs, cs, (), (), live, i)
    | _, _ => none
  inv := fun s0 s => Holds (s.1 = s0.1 ∧ s.2.1 = s0.2.1 ∧ 0 ≤ s.2.2.2.2.2 ∧ s.2.2.2.2.2 ≤ s0.2.1.length ∧ s.2.2.2.2.1 ++ liveF s0.1 (s0.2.1.drop s.2.2.2.2.2.toNat) = liveF s0.1 s0.2.1)
  mu := fun s => ((s.2.1.length : Int) - s.2.2.2.2.2).toNat
  ok := by
    intro v h s hg
    try dsimp only at hg
    split at hg <;> cases hg
    rfl

def L_l9lv : Loops := fun n => match n with
  | 3 => some LSl9lv
  | _ => none
noncomputable def fs_l9Live : Fs := ⟨[], fun args H => match args, H with
  | [.vec 0, .vec 1], [(false, .vec .body xs), (false, .vec .contact cs)] => some ((some (bodiesOk xs = true ∧ CtsOk xs.length cs)), .vec 2, [(false, .vec .body xs), (false, .vec .contact cs), (true, .vec .contact (liveF xs cs))])
  | _, _ => none⟩

theorem vc_l9Live (xs : List Body) (cs : List Contact) (Q : SV → List Ent → Prop) :
    fnVC tt (look [(215, fs_l6Sleeps)]) (L_l9lv) Tryz.f164 [.vec 0, .vec 1] [(false, .vec .body xs), (false, .vec .contact cs)] Q =
    (let w_ := IntKind.wrap IntKind.i64; let n_ := Int.toNat; let ic_ := Ty.ix Ty.contact; Holds (xs = xs ∧ cs = cs ∧ (0 : Int) ≤ (0 : Int) ∧ (0 : Int) ≤ (↑(List.length cs) : Int) ∧ [] ++ liveF xs (List.drop (n_ (0 : Int)) cs) = liveF xs cs) ∧ ∀ (y1 : List Body × List Contact × Unit × Unit × List Contact × Int), let y1f0_ := Prod.fst y1; let y1s1_ := Prod.snd y1; let y1f1_ := Prod.fst (Prod.snd y1); let y1s4_ := Prod.snd (Prod.snd (Prod.snd (Prod.snd y1))); let y1f4_ := Prod.fst (Prod.snd (Prod.snd (Prod.snd (Prod.snd y1)))); let y1s5_ := Prod.snd (Prod.snd (Prod.snd (Prod.snd (Prod.snd y1)))); let A8_ := (List.length y1f4_ + List.length [ic_ y1f1_ (n_ y1s5_)]); let A7_ := (↑(List.length cs) : Int); let A4_ := (ic_ y1f1_ (n_ y1s5_)); let A9_ := (Ty.ix Ty.body y1f0_ (n_ (Contact.B A4_))); let A3_ := (↑(List.length y1f1_) : Int); let A2_ := (Prod.snd y1s4_ + (1 : Int)); let A6_ := (A3_ - w_ A2_); let A5_ := (List.drop (n_ (w_ A2_)) cs); Holds (Prod.fst y1 = xs ∧ y1f1_ = cs ∧ (0 : Int) ≤ y1s5_ ∧ y1s5_ ≤ A7_ ∧ y1f4_ ++ liveF xs (List.drop (n_ y1s5_) cs) = liveF xs cs) → ifB (decide (Prod.snd y1s4_ < A3_)) (((0 : Int) ≤ y1s5_ ∧ y1s5_ < A3_) ∧ ((0 : Int) ≤ Contact.A A4_ ∧ Contact.A A4_ < (↑(List.length y1f0_) : Int)) ∧ ((0 : Int) ≤ y1s5_ ∧ y1s5_ < A3_) ∧ ((0 : Int) ≤ Contact.B A4_ ∧ Contact.B A4_ < (↑(List.length y1f0_) : Int)) ∧ ifB (decide (Body.Mass (Ty.ix Ty.body y1f0_ (n_ (Contact.A A4_))) > (0 : Int))) (ifB (!decide (Body.Quiet (Ty.ix Ty.body y1f0_ (n_ (Contact.A A4_))) ≥ (8 : Int))) (((0 : Int) ≤ y1s5_ ∧ y1s5_ < A3_) ∧ A8_ * (40 : Nat) ≤ room ∧ Holds (Prod.fst y1 = xs ∧ y1f1_ = cs ∧ (0 : Int) ≤ w_ A2_ ∧ w_ A2_ ≤ A7_ ∧ y1f4_ ++ [ic_ y1f1_ (n_ y1s5_)] ++ liveF xs A5_ = liveF xs cs) ∧ n_ A6_ < n_ (A3_ - y1s5_)) (ifB (decide (Body.Mass A9_ > (0 : Int))) (ifB (!decide (Body.Quiet A9_ ≥ (8 : Int))) (((0 : Int) ≤ y1s5_ ∧ y1s5_ < A3_) ∧ A8_ * (40 : Nat) ≤ room ∧ Holds (Prod.fst y1 = xs ∧ y1f1_ = cs ∧ (0 : Int) ≤ w_ A2_ ∧ w_ A2_ ≤ A7_ ∧ y1f4_ ++ [ic_ y1f1_ (n_ y1s5_)] ++ liveF xs A5_ = liveF xs cs) ∧ n_ A6_ < n_ (A3_ - y1s5_)) (Holds (Prod.fst y1 = xs ∧ y1f1_ = cs ∧ (0 : Int) ≤ w_ A2_ ∧ w_ A2_ ≤ A7_ ∧ y1f4_ ++ liveF xs A5_ = liveF xs cs) ∧ n_ A6_ < n_ (A3_ - y1s5_))) (Holds (Prod.fst y1 = xs ∧ y1f1_ = cs ∧ (0 : Int) ≤ w_ A2_ ∧ w_ A2_ ≤ A7_ ∧ y1f4_ ++ liveF xs A5_ = liveF xs cs) ∧ n_ A6_ < n_ (A3_ - y1s5_)))) (ifB (decide (Body.Mass A9_ > (0 : Int))) (ifB (!decide (Body.Quiet A9_ ≥ (8 : Int))) (((0 : Int) ≤ y1s5_ ∧ y1s5_ < A3_) ∧ A8_ * (40 : Nat) ≤ room ∧ Holds (Prod.fst y1 = xs ∧ y1f1_ = cs ∧ (0 : Int) ≤ w_ A2_ ∧ w_ A2_ ≤ A7_ ∧ y1f4_ ++ [ic_ y1f1_ (n_ y1s5_)] ++ liveF xs A5_ = liveF xs cs) ∧ n_ A6_ < n_ (A3_ - y1s5_)) (Holds (Prod.fst y1 = xs ∧ y1f1_ = cs ∧ (0 : Int) ≤ w_ A2_ ∧ w_ A2_ ≤ A7_ ∧ y1f4_ ++ liveF xs A5_ = liveF xs cs) ∧ n_ A6_ < n_ (A3_ - y1s5_))) (Holds (Prod.fst y1 = xs ∧ y1f1_ = cs ∧ (0 : Int) ≤ w_ A2_ ∧ w_ A2_ ≤ A7_ ∧ y1f4_ ++ liveF xs A5_ = liveF xs cs) ∧ n_ A6_ < n_ (A3_ - y1s5_)))) (Q (SV.vec (2 : Nat)) [(false, Blk.vec Ty.body y1f0_), (false, Blk.vec Ty.contact y1f1_), (true, Blk.vec Ty.contact y1f4_)])) := by kernel_rfl

theorem ok_l9Live : FsOk Tryz.prog 164 fs_l9Live := fsOk_of tt_ok (tabFs_cons ok_l6Sleeps tabFs_nil) mixed Tryz.func164 (by kernel_rfl) (by kernel_rfl) (by
    intro args LL p r HH h hp
    unfold fs_l9Live at h
    dsimp only at h
    split at h
    case h_2 => cases h
    rename_i xs cs
    simp only [Option.some.injEq, Prod.mk.injEq] at h
    obtain ⟨rfl, rfl, rfl⟩ := h
    refine ⟨by simp [Form, stays], (L_l9lv), ?_⟩
    rw [vc_l9Live]
    try dsimp only
    obtain ⟨hok, hct⟩ := hp _ rfl
    have hl := bodiesOk_len hok
    have hc0 := hct.1
    refine ⟨⟨(by trivial), (by trivial), by omega, by omega, (by trivial)⟩, ?_⟩
    rintro ⟨xs', cs', u, v, live, i⟩ ⟨h⟩
    dsimp only at h ⊢
    obtain ⟨rfl, rfl, i0, i1, h7⟩ := h
    have hll : (liveF xs' cs').length ≤ cs'.length := List.length_filter_le _ _
    have h7l := congrArg List.length h7
    rw [List.length_append] at h7l
    refine ifB_of (fun c => ?_) (fun c => ?_)
    · have c := of_decide_eq_true c
      have hik : i.toNat < cs'.length := by omega
      have e1 : (i + 1).toNat = i.toNat + 1 := by omega
      have w : IntKind.i64.wrap (i + 1) = i + 1 := wrap_small (by omega) (by omega)
      obtain ⟨a0, a1, b0, b1, _⟩ := hct.2 _ hik
      rw [liveF_drop hik, moves_ok2 hok (show (Ty.ix .contact cs' i.toNat).A.toNat < xs'.length by omega), moves_ok2 hok (show (Ty.ix .contact cs' i.toNat).B.toNat < xs'.length by omega)] at h7
      rw [w, e1]
      have yes : ∀ {us : List Contact}, us = [Ty.ix .contact cs' i.toNat] → live ++ (us ++ liveF xs' (cs'.drop (i.toNat + 1))) = liveF xs' cs' → live ++ [Ty.ix .contact cs' i.toNat] ++ liveF xs' (cs'.drop (i.toNat + 1)) = liveF xs' cs' := by
        rintro us rfl h
        rw [← h, List.append_assoc]
      refine ⟨⟨i0, c⟩, ⟨a0, a1⟩, ⟨i0, c⟩, ⟨b0, b1⟩, ifB_of (fun d1 => ifB_of (fun d2 => ⟨⟨i0, c⟩, by simp only [room, List.length_singleton]; omega, ⟨(by trivial), (by trivial), by omega, by omega, ?_⟩, by omega⟩)
        (fun d2 => ifB_of (fun d3 => ifB_of (fun d4 => ⟨⟨i0, c⟩, by simp only [room, List.length_singleton]; omega, ⟨(by trivial), (by trivial), by omega, by omega, ?_⟩, by omega⟩) (fun d4 => ⟨⟨(by trivial), (by trivial), by omega, by omega, ?_⟩, by omega⟩)) (fun d3 => ⟨⟨(by trivial), (by trivial), by omega, by omega, ?_⟩, by omega⟩)))
        (fun d1 => ifB_of (fun d3 => ifB_of (fun d4 => ⟨⟨i0, c⟩, by simp only [room, List.length_singleton]; omega, ⟨(by trivial), (by trivial), by omega, by omega, ?_⟩, by omega⟩) (fun d4 => ⟨⟨(by trivial), (by trivial), by omega, by omega, ?_⟩, by omega⟩)) (fun d3 => ⟨⟨(by trivial), (by trivial), by omega, by omega, ?_⟩, by omega⟩))⟩
      · rw [d1, d2] at h7
        exact yes rfl h7
      · rw [d1, d2, d3, d4] at h7
        exact yes rfl h7
      · rw [d1, d2, d3, d4] at h7
        exact h7
      · rw [d1, d2, d3] at h7
        exact h7
      · rw [d1, d3, d4] at h7
        exact yes rfl h7
      · rw [d1, d3, d4] at h7
        exact h7
      · rw [d1, d3] at h7
        exact h7
    · have c := of_decide_eq_false c
      rw [drop_end (by omega)] at h7
      have h7 : live = liveF xs' cs' := by simpa [liveF] using h7
      rw [h7]
      exact ⟨(by trivial), (by trivial)⟩)

def LSl9mv  : LS where
  S := List Body × List Body × Int
  live := [(3, [some .body]), (4, [none])]
  shape := fun s => ([.vec 1, .int .i64 s.2.2], [(false, .vec .body s.1), (true, .vec .body s.2.1)])
  get := fun v h => match v, h with
    | [.vec 1, .int .i64 i], [(false, .vec .body xs), (true, .vec .body ys)] => some (xs, ys, i)
    | _, _ => none
  inv := fun s0 s => Holds (s.1 = s0.1 ∧ 0 ≤ s.2.2 ∧ s.2.2 ≤ s0.1.length ∧ s.2.1 = fill (fun e => goS e (Ty.ix .body s0.1 e)) s0.1 s.2.2.toNat)
  mu := fun s => ((s.1.length : Int) - s.2.2).toNat
  ok := by
    intro v h s hg
    try dsimp only at hg
    split at hg <;> cases hg
    rfl

def L_l9mv : Loops := fun n => match n with
  | 3 => some LSl9mv
  | _ => none
noncomputable def fs_l9Moves : Fs := ⟨[], fun args H => match args, H with
  | [.vec 0], [(false, .vec .body xs)] => some ((some (bodiesOk xs = true)), .vec 1, [(false, .vec .body xs), (true, .vec .body (mapX goS xs))])
  | _, _ => none⟩

theorem vc_l9Moves (xs : List Body) (Q : SV → List Ent → Prop) :
    fnVC tt (look [(90, fs_specCopyB), (215, fs_l6Sleeps), (217, fs_specSpeed), (216, fs_specMoveB)]) (L_l9mv) Tryz.f166 [.vec 0] [(false, .vec .body xs)] Q =
    (let w_ := IntKind.wrap IntKind.i64; let n_ := Int.toNat; let ib_ := Ty.ix Ty.body; List.length xs ≤ (1048576 : Nat) ∧ Holds (xs = xs ∧ (0 : Int) ≤ (0 : Int) ∧ (0 : Int) ≤ (↑(List.length xs) : Int) ∧ xs = fill (fun e => goS e (ib_ xs e)) xs (n_ (0 : Int))) ∧ ∀ (y1 : List Body × List Body × Int), let y1f0_ := Prod.fst y1; let y1s1_ := Prod.snd y1; let y1f1_ := Prod.fst (Prod.snd y1); let y1s2_ := Prod.snd (Prod.snd y1); let A5_ := (ib_ y1f1_ (n_ y1s2_)); let A4_ := (↑(List.length y1f0_) : Int); let A3_ := (↑(List.length y1f1_) : Int); let A2_ := (Prod.snd y1s1_ + (1 : Int)); Holds (Prod.fst y1 = xs ∧ (0 : Int) ≤ y1s2_ ∧ y1s2_ ≤ (↑(List.length xs) : Int) ∧ y1f1_ = fill (fun e => goS e (ib_ xs e)) xs (n_ y1s2_)) → ifB (decide (Prod.snd y1s1_ < A3_)) (((0 : Int) ≤ y1s2_ ∧ y1s2_ < A3_) ∧ ifB (decide (Body.Mass A5_ > (0 : Int))) (((0 : Int) ≤ y1s2_ ∧ y1s2_ < A3_) ∧ ifB (!decide (Body.Quiet A5_ ≥ (8 : Int))) (((0 : Int) ≤ y1s2_ ∧ y1s2_ < A3_) ∧ ((0 : Int) ≤ y1s2_ ∧ y1s2_ < A3_) ∧ ((0 : Int) ≤ y1s2_ ∧ y1s2_ < A3_) ∧ Holds (Prod.fst y1 = xs ∧ (0 : Int) ≤ w_ A2_ ∧ w_ A2_ ≤ (↑(List.length xs) : Int) ∧ List.set y1f1_ (n_ y1s2_) (moveB A5_ (speed A5_)) = fill (fun e => goS e (ib_ xs e)) xs (n_ (w_ A2_))) ∧ n_ (A4_ - w_ A2_) < n_ (A4_ - y1s2_)) (Holds (Prod.fst y1 = xs ∧ (0 : Int) ≤ w_ A2_ ∧ w_ A2_ ≤ (↑(List.length xs) : Int) ∧ y1f1_ = fill (fun e => goS e (ib_ xs e)) xs (n_ (w_ A2_))) ∧ n_ (A4_ - w_ A2_) < n_ (A4_ - y1s2_))) (Holds (Prod.fst y1 = xs ∧ (0 : Int) ≤ w_ A2_ ∧ w_ A2_ ≤ (↑(List.length xs) : Int) ∧ y1f1_ = fill (fun e => goS e (ib_ xs e)) xs (n_ (w_ A2_))) ∧ n_ (A4_ - w_ A2_) < n_ (A4_ - y1s2_))) (Q (SV.vec (1 : Nat)) [(false, Blk.vec Ty.body y1f0_), (true, Blk.vec Ty.body y1f1_)])) := by kernel_rfl

theorem ok_l9Moves : FsOk Tryz.prog 166 fs_l9Moves := fsOk_of tt_ok (tabFs_cons ok_specCopyB (tabFs_cons ok_l6Sleeps (tabFs_cons ok_specSpeed (tabFs_cons ok_specMoveB tabFs_nil)))) mixed Tryz.func166 (by kernel_rfl) (by kernel_rfl) (by
    intro args LL p r HH h hp
    unfold fs_l9Moves at h
    dsimp only at h
    split at h
    case h_2 => cases h
    rename_i xs
    simp only [Option.some.injEq, Prod.mk.injEq] at h
    obtain ⟨rfl, rfl, rfl⟩ := h
    refine ⟨by simp [Form, stays], (L_l9mv), ?_⟩
    rw [vc_l9Moves]
    try dsimp only
    have hok := hp _ rfl
    have hl := bodiesOk_len hok
    refine ⟨by omega, ⟨(by trivial), by omega, by omega, (fill_zero _ _).symm⟩, ?_⟩
    rintro ⟨xs', ys, i⟩ ⟨h⟩
    dsimp only at h ⊢
    obtain ⟨rfl, i0, i1, h5⟩ := h
    have hyl : ys.length = xs'.length := by rw [h5]; exact length_fill _ _ (by omega)
    refine ifB_of (fun c => ?_) (fun c => ?_)
    · have c := of_decide_eq_true c
      have hi : i.toNat < xs'.length := by omega
      have e1 : (i + 1).toNat = i.toNat + 1 := by omega
      have w : IntKind.i64.wrap (i + 1) = i + 1 := wrap_small (by omega) (by omega)
      have hf := (fill_ix h5 hi).2
      have hmv := moves_ok2 hok hi
      rw [w, e1, hf]
      refine ⟨⟨i0, c⟩, ifB_of (fun d => ⟨⟨i0, c⟩, ifB_of (fun d2 => ⟨⟨i0, c⟩, ⟨i0, c⟩, ⟨i0, c⟩, ⟨(by trivial), by omega, by omega, fill_go h5 hi ?_⟩, by omega⟩) (fun d2 => ⟨⟨(by trivial), by omega, by omega, fill_stay h5 hi ?_⟩, by omega⟩)⟩) (fun d => ⟨⟨(by trivial), by omega, by omega, fill_stay h5 hi ?_⟩, by omega⟩)⟩
      · rw [d, d2] at hmv
        unfold goS
        rw [hmv]
        rfl
      · rw [d, d2] at hmv
        unfold goS
        rw [hmv]
        rfl
      · rw [d] at hmv
        unfold goS
        rw [hmv]
        rfl
    · have c := of_decide_eq_false c
      rw [fill_map (f := goS) h5 (by omega)]
      exact ⟨(by trivial), (by trivial)⟩)

def LSl9q  : LS where
  S := List Body × List Body × Unit × List Body × Int
  live := [(1, [none]), (5, [some .body]), (6, [none])]
  shape := fun s => ([.vec 1, .vec 2, .int .i64 s.2.2.2.2], [(false, .vec .body s.1), (false, .vec .body s.2.1), (true, .vec .body s.2.2.2.1)])
  get := fun v h => match v, h with
    | [.vec 1, .vec 2, .int .i64 i], [(false, .vec .body xs), (false, .vec .body was), (true, .vec .body ys)] => some (xs, was, (), ys, i)
    | _, _ => none
  inv := fun s0 s => Holds (s.1 = s0.1 ∧ s.2.1 = s0.2.1 ∧ 0 ≤ s.2.2.2.2 ∧ s.2.2.2.2 ≤ s0.1.length ∧ s.2.2.2.1 = fill (fun e => quietS s0.2.1 e (Ty.ix .body s0.1 e)) s0.1 s.2.2.2.2.toNat)
  mu := fun s => ((s.1.length : Int) - s.2.2.2.2).toNat
  ok := by
    intro v h s hg
    try dsimp only at hg
    split at hg <;> cases hg
    rfl

def L_l9q : Loops := fun n => match n with
  | 3 => some LSl9q
  | _ => none
noncomputable def fs_l9Quiet : Fs := ⟨[], fun args H => match args, H with
  | [.vec 0, .vec 1], [(false, .vec .body xs), (false, .vec .body was)] => some ((some (bodiesOk xs = true ∧ bodiesOk was = true ∧ was.length = xs.length)), .vec 2, [(false, .vec .body xs), (false, .vec .body was), (true, .vec .body (mapX (quietS was) xs))])
  | _, _ => none⟩

theorem vc_l9Quiet (xs : List Body) (was : List Body) (Q : SV → List Ent → Prop) :
    fnVC tt (look [(90, fs_specCopyB), (215, fs_l6Sleeps), (217, fs_specSpeed), (74, fs_l1In), (213, fs_l3Less)]) (L_l9q) Tryz.f168 [.vec 0, .vec 1] [(false, .vec .body xs), (false, .vec .body was)] Q =
    (let w_ := IntKind.wrap IntKind.i64; let s_ := SV.int IntKind.i64; let n_ := Int.toNat; let ib_ := Ty.ix Ty.body; List.length xs ≤ (1048576 : Nat) ∧ Holds (xs = xs ∧ was = was ∧ (0 : Int) ≤ (0 : Int) ∧ (0 : Int) ≤ (↑(List.length xs) : Int) ∧ xs = fill (fun e => quietS was e (ib_ xs e)) xs (n_ (0 : Int))) ∧ ∀ (y1 : List Body × List Body × Unit × List Body × Int), let y1f0_ := Prod.fst y1; let y1s1_ := Prod.snd y1; let y1f1_ := Prod.fst (Prod.snd y1); let y1s3_ := Prod.snd (Prod.snd (Prod.snd y1)); let y1f3_ := Prod.fst (Prod.snd (Prod.snd (Prod.snd y1))); let y1s4_ := Prod.snd (Prod.snd (Prod.snd (Prod.snd y1))); let A8_ := (↑(List.length y1f3_) : Int); let A7_ := (ib_ y1f3_ (n_ y1s4_)); let A6_ := (↑(List.length xs) : Int); let A5_ := ((↑(List.length y1f0_) : Int) - y1s4_); let A2_ := (Prod.snd y1s3_ + (1 : Int)); let A4_ := (n_ (w_ A2_)); let A3_ := ((↑(List.length y1f0_) : Int) - w_ A2_); Holds (Prod.fst y1 = xs ∧ y1f1_ = was ∧ (0 : Int) ≤ y1s4_ ∧ y1s4_ ≤ A6_ ∧ y1f3_ = fill (fun e => quietS was e (ib_ xs e)) xs (n_ y1s4_)) → ifB (decide (Prod.snd y1s3_ < A8_)) (((0 : Int) ≤ y1s4_ ∧ y1s4_ < A8_) ∧ ifB (Body.Mass A7_ == (0 : Int)) (Holds (Prod.fst y1 = xs ∧ y1f1_ = was ∧ (0 : Int) ≤ w_ A2_ ∧ w_ A2_ ≤ A6_ ∧ y1f3_ = fill (fun e => quietS was e (ib_ xs e)) xs A4_) ∧ n_ A3_ < n_ A5_) (((0 : Int) ≤ y1s4_ ∧ y1s4_ < A8_) ∧ ifB (decide (Body.Quiet A7_ ≥ (8 : Int))) (Holds (Prod.fst y1 = xs ∧ y1f1_ = was ∧ (0 : Int) ≤ w_ A2_ ∧ w_ A2_ ≤ A6_ ∧ y1f3_ = fill (fun e => quietS was e (ib_ xs e)) xs A4_) ∧ n_ A3_ < n_ A5_) (((0 : Int) ≤ y1s4_ ∧ y1s4_ < A8_) ∧ ((0 : Int) ≤ y1s4_ ∧ y1s4_ < A8_) ∧ ifB (isIn (Vec.X (speed A7_)) (-8 : Int) (8 : Int)) (ifB (isIn (Vec.Y (speed A7_)) (-8 : Int) (8 : Int)) (((0 : Int) ≤ y1s4_ ∧ y1s4_ < (↑(List.length y1f1_) : Int)) ∧ ((0 : Int) ≤ y1s4_ ∧ y1s4_ < (↑(List.length (setC Ty.body y1f3_ (n_ y1s4_) ((0 : Nat) + (11 : Nat)) [s_ (0 : Int)])) : Int)) ∧ Holds (Prod.fst y1 = xs ∧ y1f1_ = was ∧ (0 : Int) ≤ w_ A2_ ∧ w_ A2_ ≤ A6_ ∧ setC Ty.body (setC Ty.body y1f3_ (n_ y1s4_) ((0 : Nat) + (11 : Nat)) [s_ (0 : Int)]) (n_ y1s4_) ((0 : Nat) + (11 : Nat)) [s_ (min (w_ (Body.Quiet (ib_ y1f1_ (n_ y1s4_)) + (1 : Int))) (7 : Int))] = fill (fun e => quietS was e (ib_ xs e)) xs A4_) ∧ n_ A3_ < n_ A5_) (Holds (Prod.fst y1 = xs ∧ y1f1_ = was ∧ (0 : Int) ≤ w_ A2_ ∧ w_ A2_ ≤ A6_ ∧ setC Ty.body y1f3_ (n_ y1s4_) ((0 : Nat) + (11 : Nat)) [s_ (0 : Int)] = fill (fun e => quietS was e (ib_ xs e)) xs A4_) ∧ n_ A3_ < n_ A5_)) (Holds (Prod.fst y1 = xs ∧ y1f1_ = was ∧ (0 : Int) ≤ w_ A2_ ∧ w_ A2_ ≤ A6_ ∧ setC Ty.body y1f3_ (n_ y1s4_) ((0 : Nat) + (11 : Nat)) [s_ (0 : Int)] = fill (fun e => quietS was e (ib_ xs e)) xs A4_) ∧ n_ A3_ < n_ A5_)))) (Q (SV.vec (2 : Nat)) [(false, Blk.vec Ty.body y1f0_), (false, Blk.vec Ty.body y1f1_), (true, Blk.vec Ty.body y1f3_)])) := by kernel_rfl

theorem ok_l9Quiet : FsOk Tryz.prog 168 fs_l9Quiet := fsOk_of tt_ok (tabFs_cons ok_specCopyB (tabFs_cons ok_l6Sleeps (tabFs_cons ok_specSpeed (tabFs_cons ok_l1In (tabFs_cons ok_l3Less tabFs_nil))))) mixed Tryz.func168 (by kernel_rfl) (by kernel_rfl) (by
    intro args LL p r HH h hp
    unfold fs_l9Quiet at h
    dsimp only at h
    split at h
    case h_2 => cases h
    rename_i xs was
    simp only [Option.some.injEq, Prod.mk.injEq] at h
    obtain ⟨rfl, rfl, rfl⟩ := h
    refine ⟨by simp [Form, stays], (L_l9q), ?_⟩
    rw [vc_l9Quiet]
    try dsimp only
    obtain ⟨hok, hok2, hl2⟩ := hp _ rfl
    have hl := bodiesOk_len hok
    refine ⟨by omega, ⟨(by trivial), (by trivial), by omega, by omega, (fill_zero _ _).symm⟩, ?_⟩
    rintro ⟨xs', was', u, ys, i⟩ ⟨h⟩
    dsimp only at h ⊢
    obtain ⟨rfl, rfl, i0, i1, h5⟩ := h
    have hyl : ys.length = xs'.length := by rw [h5]; exact length_fill _ _ (by omega)
    refine ifB_of (fun c => ?_) (fun c => ?_)
    · have c := of_decide_eq_true c
      have hi : i.toNat < xs'.length := by omega
      have e1 : (i + 1).toNat = i.toNat + 1 := by omega
      have w : IntKind.i64.wrap (i + 1) = i + 1 := wrap_small (by omega) (by omega)
      have hf := (fill_ix h5 hi).2
      have hq := quiet_ok2 hok hi
      rw [w, e1, setC_quiet, setC_quiet, ix_set_self_body _ _ (by omega), List.set_set, hf, hq]
      refine ⟨⟨i0, c⟩, ifB_of (fun d => ⟨⟨(by trivial), (by trivial), by omega, by omega, fill_stay h5 hi ?_⟩, by omega⟩) (fun d => ⟨⟨i0, c⟩, ifB_of (fun d2 => ⟨⟨(by trivial), (by trivial), by omega, by omega, fill_stay h5 hi ?_⟩, by omega⟩) (fun d2 => ⟨⟨i0, c⟩, ⟨i0, c⟩, ifB_of (fun d3 => ifB_of (fun d4 => ⟨⟨i0, by omega⟩, ⟨i0, by rw [List.length_set]; exact c⟩, ⟨(by trivial), (by trivial), by omega, by omega, fill_go h5 hi ?_⟩, by omega⟩) (fun d4 => ⟨⟨(by trivial), (by trivial), by omega, by omega, fill_go h5 hi ?_⟩, by omega⟩)) (fun d3 => ⟨⟨(by trivial), (by trivial), by omega, by omega, fill_go h5 hi ?_⟩, by omega⟩)⟩)⟩)⟩
      all_goals
        unfold quietS moves
      · rw [d]
        rfl
      · rw [d, d2]
        rfl
      · rw [d, d2, d3, d4]
        rfl
      · rw [d, d2, d3, d4]
        rfl
      · rw [d, d2, d3]
        rfl
    · have c := of_decide_eq_false c
      rw [fill_map (f := quietS was') h5 (by omega)]
      exact ⟨(by trivial), (by trivial)⟩)

/-- In the groups from g on that are awake none sleeps. -/
def LowF (gs : List Int) (ws : List Bool) (g : Nat) (xs : List Body) : Prop := ∀ k, k < xs.length → (g : Int) ≤ gi gs k → Ty.ix .bool ws (gi gs k).toNat = true → (Ty.ix .body xs k).Quiet ≤ 7
def LSl9s1 (zs : List Body) : LS where
  S := List Body × List Int × List Bool × Unit × Unit × List Body × Int
  live := [(1, [none]), (2, [none]), (7, [some .body]), (8, [none])]
  shape := fun s => ([.vec 1, .vec 2, .vec 3, .int .i64 s.2.2.2.2.2.2], [(false, .vec .body s.1), (false, .vec .int s.2.1), (false, .vec .bool s.2.2.1), (true, .vec .body s.2.2.2.2.2.1)])
  get := fun v h => match v, h with
    | [.vec 1, .vec 2, .vec 3, .int .i64 g], [(false, .vec .body xs), (false, .vec .int gs), (false, .vec .bool ws), (true, .vec .body ys)] => some (xs, gs, ws, (), (), ys, g)
    | _, _ => none
  inv := fun s0 s => Holds (s.1 = s0.1 ∧ s.2.1 = s0.2.1 ∧ s.2.2.1 = s0.2.2.1 ∧ 0 ≤ s.2.2.2.2.2.2 ∧ s.2.2.2.2.2.2 ≤ s0.2.2.1.length ∧ s.2.2.2.2.2.1.length = zs.length ∧ LowF s0.2.1 s0.2.2.1 s.2.2.2.2.2.2.toNat s.2.2.2.2.2.1 ∧ settleF s0.2.1 s.2.2.2.2.2.2.toNat (s0.2.2.1.drop s.2.2.2.2.2.2.toNat) s.2.2.2.2.2.1 = settleF s0.2.1 0 s0.2.2.1 zs)
  mu := fun s => ((s.2.2.1.length : Int) - s.2.2.2.2.2.2).toNat
  ok := by
    intro v h s hg
    try dsimp only at hg
    split at hg <;> cases hg
    rfl

def LSl9s2  : LS where
  S := List Body × List Int × List Bool × Unit × Unit × List Body × Int × Bool × Int
  live := [(1, [none]), (2, [none]), (7, [some .body]), (8, [none]), (9, [none]), (10, [none])]
  shape := fun s => ([.vec 1, .vec 2, .vec 3, .int .i64 s.2.2.2.2.2.2.1, .bool s.2.2.2.2.2.2.2.1, .int .i64 s.2.2.2.2.2.2.2.2], [(false, .vec .body s.1), (false, .vec .int s.2.1), (false, .vec .bool s.2.2.1), (true, .vec .body s.2.2.2.2.2.1)])
  get := fun v h => match v, h with
    | [.vec 1, .vec 2, .vec 3, .int .i64 g, .bool all, .int .i64 i], [(false, .vec .body xs), (false, .vec .int gs), (false, .vec .bool ws), (true, .vec .body ys)] => some (xs, gs, ws, (), (), ys, g, all, i)
    | _, _ => none
  inv := fun s0 s => Holds (s.1 = s0.1 ∧ s.2.1 = s0.2.1 ∧ s.2.2.1 = s0.2.2.1 ∧ s.2.2.2.2.2.1 = s0.2.2.2.2.2.1 ∧ s.2.2.2.2.2.2.1 = s0.2.2.2.2.2.2.1 ∧ 0 ≤ s.2.2.2.2.2.2.2.2 ∧ s.2.2.2.2.2.2.2.2 ≤ s0.2.2.2.2.2.1.length ∧ s.2.2.2.2.2.2.2.1 = stillG s0.2.2.2.2.2.1 s0.2.1 s0.2.2.2.2.2.2.1 s.2.2.2.2.2.2.2.2.toNat)
  mu := fun s => ((s.2.2.2.2.2.1.length : Int) - s.2.2.2.2.2.2.2.2).toNat
  ok := by
    intro v h s hg
    try dsimp only at hg
    split at hg <;> cases hg
    rfl

def LSl9s3  : LS where
  S := List Body × List Int × List Bool × Unit × Unit × List Body × Int × Bool × Int
  live := [(1, [none]), (2, [none]), (7, [some .body]), (8, [none]), (9, [none]), (11, [none])]
  shape := fun s => ([.vec 1, .vec 2, .vec 3, .int .i64 s.2.2.2.2.2.2.1, .bool s.2.2.2.2.2.2.2.1, .int .i64 s.2.2.2.2.2.2.2.2], [(false, .vec .body s.1), (false, .vec .int s.2.1), (false, .vec .bool s.2.2.1), (true, .vec .body s.2.2.2.2.2.1)])
  get := fun v h => match v, h with
    | [.vec 1, .vec 2, .vec 3, .int .i64 g, .bool all, .int .i64 i], [(false, .vec .body xs), (false, .vec .int gs), (false, .vec .bool ws), (true, .vec .body ys)] => some (xs, gs, ws, (), (), ys, g, all, i)
    | _, _ => none
  inv := fun s0 s => Holds (s.1 = s0.1 ∧ s.2.1 = s0.2.1 ∧ s.2.2.1 = s0.2.2.1 ∧ s.2.2.2.2.2.2.1 = s0.2.2.2.2.2.2.1 ∧ s.2.2.2.2.2.2.2.1 = s0.2.2.2.2.2.2.2.1 ∧ 0 ≤ s.2.2.2.2.2.2.2.2 ∧ s.2.2.2.2.2.2.2.2 ≤ s0.2.2.2.2.2.1.length ∧ s.2.2.2.2.2.1 = fill (bedAt s0.2.2.2.2.2.1 s0.2.1 s0.2.2.2.2.2.2.1 s0.2.2.2.2.2.2.2.1) s0.2.2.2.2.2.1 s.2.2.2.2.2.2.2.2.toNat)
  mu := fun s => ((s.2.2.2.2.2.1.length : Int) - s.2.2.2.2.2.2.2.2).toNat
  ok := by
    intro v h s hg
    try dsimp only at hg
    split at hg <;> cases hg
    rfl

def L_l9s (zs : List Body) : Loops := fun n => match n with
  | 3 => some (LSl9s1 zs)
  | 8 => some LSl9s2
  | 12 => some LSl9s3
  | _ => none
noncomputable def fs_l9Sleep : Fs := ⟨[], fun args H => match args, H with
  | [.vec 0, .vec 1, .vec 2], [(false, .vec .body xs), (false, .vec .int gs), (false, .vec .bool ws)] => some ((some (xs.length ≤ 12 ∧ gs.length = xs.length ∧ ws.length ≤ 12 ∧ LowG gs ws xs)), .vec 3, [(false, .vec .body xs), (false, .vec .int gs), (false, .vec .bool ws), (true, .vec .body (settleF gs 0 ws xs))])
  | _, _ => none⟩

theorem vc_l9Sleep (xs : List Body) (gs : List Int) (ws : List Bool) (Q : SV → List Ent → Prop) :
    fnVC tt (look [(90, fs_specCopyB)]) (L_l9s xs) Tryz.f167 [.vec 0, .vec 1, .vec 2] [(false, .vec .body xs), (false, .vec .int gs), (false, .vec .bool ws)] Q =
    (let w_ := IntKind.wrap IntKind.i64; let s_ := SV.int IntKind.i64; let n_ := Int.toNat; List.length xs ≤ (1048576 : Nat) ∧ Holds (xs = xs ∧ gs = gs ∧ ws = ws ∧ (0 : Int) ≤ (0 : Int) ∧ (0 : Int) ≤ (↑(List.length ws) : Int) ∧ List.length xs = List.length xs ∧ LowF gs ws (n_ (0 : Int)) xs ∧ settleF gs (n_ (0 : Int)) (List.drop (n_ (0 : Int)) ws) xs = settleF gs (0 : Nat) ws xs) ∧ ∀ (y14 : List Body × List Int × List Bool × Unit × Unit × List Body × Int), let y14f0_ := Prod.fst y14; let y14s1_ := Prod.snd y14; let y14f1_ := Prod.fst (Prod.snd y14); let y14f2_ := Prod.fst (Prod.snd (Prod.snd y14)); let y14s5_ := Prod.snd (Prod.snd (Prod.snd (Prod.snd (Prod.snd y14)))); let y14f5_ := Prod.fst (Prod.snd (Prod.snd (Prod.snd (Prod.snd (Prod.snd y14))))); let y14s6_ := Prod.snd (Prod.snd (Prod.snd (Prod.snd (Prod.snd (Prod.snd y14))))); let A16_ := (↑(List.length y14f2_) : Int); let A15_ := (n_ (w_ (Prod.snd y14s5_ + (1 : Int)))); Holds (Prod.fst y14 = xs ∧ y14f1_ = gs ∧ y14f2_ = ws ∧ (0 : Int) ≤ y14s6_ ∧ y14s6_ ≤ (↑(List.length ws) : Int) ∧ List.length y14f5_ = List.length xs ∧ LowF gs ws (n_ y14s6_) y14f5_ ∧ settleF gs (n_ y14s6_) (List.drop (n_ y14s6_) ws) y14f5_ = settleF gs (0 : Nat) ws xs) → ifB (decide (Prod.snd y14s5_ < A16_)) (((0 : Int) ≤ y14s6_ ∧ y14s6_ < A16_) ∧ ifB (!Ty.ix Ty.bool y14f2_ (n_ y14s6_)) (Holds (Prod.fst y14 = xs ∧ y14f1_ = gs ∧ y14f2_ = ws ∧ (0 : Int) ≤ w_ (Prod.snd y14s5_ + (1 : Int)) ∧ w_ (Prod.snd y14s5_ + (1 : Int)) ≤ (↑(List.length ws) : Int) ∧ List.length y14f5_ = List.length xs ∧ LowF gs ws A15_ y14f5_ ∧ settleF gs A15_ (List.drop A15_ ws) y14f5_ = settleF gs (0 : Nat) ws xs) ∧ n_ (A16_ - w_ (Prod.snd y14s5_ + (1 : Int))) < n_ (A16_ - y14s6_)) (Holds (Prod.fst y14 = y14f0_ ∧ y14f1_ = y14f1_ ∧ y14f2_ = y14f2_ ∧ y14f5_ = y14f5_ ∧ y14s6_ = y14s6_ ∧ (0 : Int) ≤ (0 : Int) ∧ (0 : Int) ≤ (↑(List.length y14f5_) : Int) ∧ true = stillG y14f5_ y14f1_ y14s6_ (n_ (0 : Int))) ∧ ∀ (y9 : List Body × List Int × List Bool × Unit × Unit × List Body × Int × Bool × Int), let y9f0_ := Prod.fst y9; let y9s1_ := Prod.snd y9; let y9f1_ := Prod.fst (Prod.snd y9); let y9f2_ := Prod.fst (Prod.snd (Prod.snd y9)); let y9f5_ := Prod.fst (Prod.snd (Prod.snd (Prod.snd (Prod.snd (Prod.snd y9))))); let y9f6_ := Prod.fst (Prod.snd (Prod.snd (Prod.snd (Prod.snd (Prod.snd (Prod.snd y9)))))); let y9s7_ := Prod.snd (Prod.snd (Prod.snd (Prod.snd (Prod.snd (Prod.snd (Prod.snd y9)))))); let y9f7_ := Prod.fst (Prod.snd (Prod.snd (Prod.snd (Prod.snd (Prod.snd (Prod.snd (Prod.snd y9))))))); let y9s8_ := Prod.snd (Prod.snd (Prod.snd (Prod.snd (Prod.snd (Prod.snd (Prod.snd (Prod.snd y9))))))); let A12_ := (↑(List.length y9f5_) : Int); let A11_ := (Prod.snd y9s7_ + (1 : Int)); let A10_ := y14s5_; let A13_ := (↑(List.length (Prod.fst A10_)) : Int); Holds (Prod.fst y9 = y14f0_ ∧ y9f1_ = y14f1_ ∧ y9f2_ = y14f2_ ∧ y9f5_ = Prod.fst A10_ ∧ y9f6_ = Prod.snd A10_ ∧ (0 : Int) ≤ y9s8_ ∧ y9s8_ ≤ A13_ ∧ y9f7_ = stillG (Prod.fst A10_) y14f1_ (Prod.snd A10_) (n_ y9s8_)) → ifB (decide (Prod.snd y9s7_ < A12_)) (ifB y9f7_ (((0 : Int) ≤ y9s8_ ∧ y9s8_ < (↑(List.length y9f1_) : Int)) ∧ ifB (Ty.ix Ty.int y9f1_ (n_ y9s8_) != y9f6_) (Holds (Prod.fst y9 = y14f0_ ∧ y9f1_ = y14f1_ ∧ y9f2_ = y14f2_ ∧ y9f5_ = Prod.fst A10_ ∧ y9f6_ = Prod.snd A10_ ∧ (0 : Int) ≤ w_ A11_ ∧ w_ A11_ ≤ A13_ ∧ true = stillG (Prod.fst A10_) y14f1_ (Prod.snd A10_) (n_ (w_ A11_))) ∧ n_ (A12_ - w_ A11_) < n_ (A12_ - y9s8_)) (((0 : Int) ≤ y9s8_ ∧ y9s8_ < A12_) ∧ Holds (Prod.fst y9 = y14f0_ ∧ y9f1_ = y14f1_ ∧ y9f2_ = y14f2_ ∧ y9f5_ = Prod.fst A10_ ∧ y9f6_ = Prod.snd A10_ ∧ (0 : Int) ≤ w_ A11_ ∧ w_ A11_ ≤ A13_ ∧ decide (Body.Quiet (Ty.ix Ty.body y9f5_ (n_ y9s8_)) ≥ (7 : Int)) = stillG (Prod.fst A10_) y14f1_ (Prod.snd A10_) (n_ (w_ A11_))) ∧ n_ (A12_ - w_ A11_) < n_ (A12_ - y9s8_))) (Holds (Prod.fst y9 = y14f0_ ∧ y9f1_ = y14f1_ ∧ y9f2_ = y14f2_ ∧ y9f5_ = Prod.fst A10_ ∧ y9f6_ = Prod.snd A10_ ∧ (0 : Int) ≤ w_ A11_ ∧ w_ A11_ ≤ A13_ ∧ false = stillG (Prod.fst A10_) y14f1_ (Prod.snd A10_) (n_ (w_ A11_))) ∧ n_ (A12_ - w_ A11_) < n_ (A12_ - y9s8_))) (Holds (Prod.fst y9 = y9f0_ ∧ y9f1_ = y9f1_ ∧ y9f2_ = y9f2_ ∧ y9f6_ = y9f6_ ∧ y9f7_ = y9f7_ ∧ (0 : Int) ≤ (0 : Int) ∧ (0 : Int) ≤ A12_ ∧ y9f5_ = fill (bedAt y9f5_ y9f1_ y9f6_ y9f7_) y9f5_ (n_ (0 : Int))) ∧ ∀ (y1 : List Body × List Int × List Bool × Unit × Unit × List Body × Int × Bool × Int), let y1f0_ := Prod.fst y1; let y1s1_ := Prod.snd y1; let y1f1_ := Prod.fst (Prod.snd y1); let y1f2_ := Prod.fst (Prod.snd (Prod.snd y1)); let y1f5_ := Prod.fst (Prod.snd (Prod.snd (Prod.snd (Prod.snd (Prod.snd y1))))); let y1s6_ := Prod.snd (Prod.snd (Prod.snd (Prod.snd (Prod.snd (Prod.snd y1))))); let y1f6_ := Prod.fst (Prod.snd (Prod.snd (Prod.snd (Prod.snd (Prod.snd (Prod.snd y1)))))); let y1s7_ := Prod.snd (Prod.snd (Prod.snd (Prod.snd (Prod.snd (Prod.snd (Prod.snd y1)))))); let y1f7_ := Prod.fst (Prod.snd (Prod.snd (Prod.snd (Prod.snd (Prod.snd (Prod.snd (Prod.snd y1))))))); let y1s8_ := Prod.snd (Prod.snd (Prod.snd (Prod.snd (Prod.snd (Prod.snd (Prod.snd (Prod.snd y1))))))); let A7_ := (n_ (w_ (Prod.fst y1s6_ + (1 : Int)))); let A6_ := (↑(List.length y1f5_) : Int); let A5_ := (setC Ty.body y1f5_ (n_ y1s8_) ((0 : Nat) + (11 : Nat)) [s_ (8 : Int)]); let A4_ := (Prod.snd y1s7_ + (1 : Int)); let A2_ := (Prod.snd (Prod.snd (Prod.snd (Prod.snd y9s1_)))); let A8_ := (↑(List.length (Prod.fst A2_)) : Int); let A3_ := (bedAt (Prod.fst A2_) y9f1_ (Prod.fst (Prod.snd A2_)) (Prod.fst (Prod.snd (Prod.snd A2_)))); Holds (Prod.fst y1 = y9f0_ ∧ y1f1_ = y9f1_ ∧ y1f2_ = y9f2_ ∧ y1f6_ = Prod.fst (Prod.snd A2_) ∧ y1f7_ = Prod.fst (Prod.snd (Prod.snd A2_)) ∧ (0 : Int) ≤ y1s8_ ∧ y1s8_ ≤ A8_ ∧ y1f5_ = fill A3_ (Prod.fst A2_) (n_ y1s8_)) → ifB (decide (Prod.snd y1s7_ < A6_)) (ifB y1f7_ (((0 : Int) ≤ y1s8_ ∧ y1s8_ < (↑(List.length y1f1_) : Int)) ∧ ifB (Ty.ix Ty.int y1f1_ (n_ y1s8_) == y1f6_) (((0 : Int) ≤ y1s8_ ∧ y1s8_ < A6_) ∧ ((0 : Int) ≤ y1s8_ ∧ y1s8_ < (↑(List.length A5_) : Int)) ∧ Holds (Prod.fst y1 = y9f0_ ∧ y1f1_ = y9f1_ ∧ y1f2_ = y9f2_ ∧ y1f6_ = Prod.fst (Prod.snd A2_) ∧ y1f7_ = Prod.fst (Prod.snd (Prod.snd A2_)) ∧ (0 : Int) ≤ w_ A4_ ∧ w_ A4_ ≤ A8_ ∧ setC Ty.body A5_ (n_ y1s8_) ((0 : Nat) + (6 : Nat)) [s_ (0 : Int), s_ (0 : Int)] = fill A3_ (Prod.fst A2_) (n_ (w_ A4_))) ∧ n_ ((↑(List.length (setC Ty.body A5_ (n_ y1s8_) ((0 : Nat) + (6 : Nat)) [s_ (0 : Int), s_ (0 : Int)])) : Int) - w_ A4_) < n_ (A6_ - y1s8_)) (Holds (Prod.fst y1 = y9f0_ ∧ y1f1_ = y9f1_ ∧ y1f2_ = y9f2_ ∧ y1f6_ = Prod.fst (Prod.snd A2_) ∧ y1f7_ = Prod.fst (Prod.snd (Prod.snd A2_)) ∧ (0 : Int) ≤ w_ A4_ ∧ w_ A4_ ≤ A8_ ∧ y1f5_ = fill A3_ (Prod.fst A2_) (n_ (w_ A4_))) ∧ n_ (A6_ - w_ A4_) < n_ (A6_ - y1s8_))) (Holds (Prod.fst y1 = y9f0_ ∧ y1f1_ = y9f1_ ∧ y1f2_ = y9f2_ ∧ y1f6_ = Prod.fst (Prod.snd A2_) ∧ y1f7_ = Prod.fst (Prod.snd (Prod.snd A2_)) ∧ (0 : Int) ≤ w_ A4_ ∧ w_ A4_ ≤ A8_ ∧ y1f5_ = fill A3_ (Prod.fst A2_) (n_ (w_ A4_))) ∧ n_ (A6_ - w_ A4_) < n_ (A6_ - y1s8_))) (Holds (Prod.fst y1 = xs ∧ y1f1_ = gs ∧ y1f2_ = ws ∧ (0 : Int) ≤ w_ (Prod.fst y1s6_ + (1 : Int)) ∧ w_ (Prod.fst y1s6_ + (1 : Int)) ≤ (↑(List.length ws) : Int) ∧ List.length y1f5_ = List.length xs ∧ LowF gs ws A7_ y1f5_ ∧ settleF gs A7_ (List.drop A7_ ws) y1f5_ = settleF gs (0 : Nat) ws xs) ∧ n_ ((↑(List.length y1f2_) : Int) - w_ (Prod.fst y1s6_ + (1 : Int))) < n_ (A16_ - Prod.snd A10_))))) (Q (SV.vec (3 : Nat)) [(false, Blk.vec Ty.body y14f0_), (false, Blk.vec Ty.int y14f1_), (false, Blk.vec Ty.bool y14f2_), (true, Blk.vec Ty.body y14f5_)])) := by kernel_rfl

theorem ok_l9Sleep : FsOk Tryz.prog 167 fs_l9Sleep := fsOk_of tt_ok (tabFs_cons ok_specCopyB tabFs_nil) mixed Tryz.func167 (by kernel_rfl) (by kernel_rfl) (by
    intro args LL p r HH h hp
    unfold fs_l9Sleep at h
    dsimp only at h
    split at h
    case h_2 => cases h
    rename_i xs gs ws
    simp only [Option.some.injEq, Prod.mk.injEq] at h
    obtain ⟨rfl, rfl, rfl⟩ := h
    refine ⟨by simp [Form, stays], (L_l9s xs), ?_⟩
    rw [vc_l9Sleep]
    try dsimp only
    obtain ⟨hl, hgl, hwl, hlow⟩ := hp _ rfl
    have low0 : LowF gs ws 0 xs := fun k hk h1 h2 => hlow k hk (by omega) h2
    refine ⟨by omega, ⟨(by trivial), (by trivial), (by trivial), by omega, by omega, (by trivial), low0, (by trivial)⟩, ?_⟩
    rintro ⟨xs', gs', ws', u, v, ys, g⟩ ⟨h⟩
    dsimp only at h ⊢
    obtain ⟨rfl, rfl, rfl, g0, g1, g2, g3, g4⟩ := h
    refine ifB_of (fun c => ?_) (fun c => ?_)
    · have c := of_decide_eq_true c
      have hg : g.toNat < ws'.length := by omega
      have e1 : (g + 1).toNat = g.toNat + 1 := by omega
      have w1 : IntKind.i64.wrap (g + 1) = g + 1 := wrap_small (by omega) (by omega)
      rw [drop_ix (T := .bool) hg] at g4
      have eg : ((g.toNat : Nat) : Int) = g := by omega
      refine ⟨⟨g0, c⟩, ifB_of (fun d => ?_) (fun d => ⟨⟨(by trivial), (by trivial), (by trivial), (by trivial), (by trivial), by omega, by omega, (by trivial)⟩, ?_⟩)⟩
      · rw [w1, e1]
        have d := not_true d
        refine ⟨⟨(by trivial), (by trivial), (by trivial), by omega, by omega, g2, fun k hk h1 h2 => g3 k hk (by omega) h2, ?_⟩, by omega⟩
        rw [← g4, d]
        show settleF gs' (g.toNat + 1) (ws'.drop (g.toNat + 1)) ys = settleF gs' (g.toNat + 1) (ws'.drop (g.toNat + 1)) (settleOne ys gs' (g.toNat : Nat) false)
        congr 1
        unfold settleOne bedAt
        simp only [Bool.false_and, cond_false]
        exact (gen_ix (T := .body) ys).symm
      have d := not_false d
      rintro ⟨xs2, gs2, ws2, u2, v2, ys2, gg, all, i⟩ ⟨h⟩
      dsimp only at h ⊢
      obtain ⟨rfl, rfl, rfl, rfl, rfl, i0, i1, rfl⟩ := h
      refine ifB_of (fun c2 => ?_) (fun c2 => ?_)
      · have c2 := of_decide_eq_true c2
        have hi : i.toNat < ys2.length := by omega
        have e2 : (i + 1).toNat = i.toNat + 1 := by omega
        have w2 : IntKind.i64.wrap (i + 1) = i + 1 := wrap_small (by omega) (by omega)
        rw [w2, e2]
        have hst : stillG ys2 gs2 gg (i.toNat + 1) = (stillG ys2 gs2 gg i.toNat && (!(gi gs2 i.toNat == gg) || (Ty.ix .body ys2 i.toNat).Quiet == 7)) := rfl
        rw [hst]
        refine ifB_of (fun q => ⟨⟨i0, by omega⟩, ifB_of (fun q2 => ⟨⟨(by trivial), (by trivial), (by trivial), (by trivial), (by trivial), by omega, by omega, ?_⟩, by omega⟩) (fun q2 => ⟨⟨i0, c2⟩, ⟨(by trivial), (by trivial), (by trivial), (by trivial), (by trivial), by omega, by omega, ?_⟩, by omega⟩)⟩) (fun q => ⟨⟨(by trivial), (by trivial), (by trivial), (by trivial), (by trivial), by omega, by omega, ?_⟩, by omega⟩)
        · have q2 : (!(gi gs2 i.toNat == gg)) = true := q2
          rw [q, q2]
          rfl
        · have q2 : (!(gi gs2 i.toNat == gg)) = false := q2
          have q3 : gi gs2 i.toNat = gg := eq_of_beq (not_false q2)
          have h7 := g3 i.toNat hi (by rw [q3]; omega) (by rw [q3]; exact d)
          rw [q, q2]
          show decide ((Ty.ix .body ys2 i.toNat).Quiet ≥ 7) = ((Ty.ix .body ys2 i.toNat).Quiet == 7)
          rw [Bool.eq_iff_iff]
          simp only [decide_eq_true_eq, beq_iff_eq]
          omega
        · rw [q]
          rfl
      · have c2 := of_decide_eq_false c2
        have ei : i.toNat = ys2.length := by omega
        rw [ei]
        refine ⟨⟨(by trivial), (by trivial), (by trivial), (by trivial), (by trivial), by omega, by omega, (fill_zero _ _).symm⟩, ?_⟩
        clear c2 i0 i1 ei
        rintro ⟨xs3, gs3, ws3, u3, v3, zs, g3', all, k⟩ ⟨h⟩
        dsimp only at h ⊢
        obtain ⟨rfl, rfl, rfl, rfl, rfl, k0, k1, h5⟩ := h
        have hzl : zs.length = ys2.length := by rw [h5]; exact length_fill _ _ (by omega)
        refine ifB_of (fun c3 => ?_) (fun c3 => ?_)
        · have c3 := of_decide_eq_true c3
          generalize stillG ys2 gs3 g3' ys2.length = A at h5 ⊢
          have hi : k.toNat < ys2.length := by omega
          have e2 : (k + 1).toNat = k.toNat + 1 := by omega
          have w2 : IntKind.i64.wrap (k + 1) = k + 1 := wrap_small (by omega) (by omega)
          have hf := (fill_ix h5 hi).2
          rw [w2, e2, setC_quiet, setC_drive, ix_set_self_body _ _ (by omega), List.set_set, hf]
          refine ifB_of (fun q => ⟨⟨k0, by omega⟩, ifB_of (fun q2 => ⟨⟨k0, c3⟩, ⟨k0, by rw [List.length_set]; exact c3⟩, ⟨(by trivial), (by trivial), (by trivial), (by trivial), (by trivial), by omega, by omega, fill_go h5 hi ?_⟩, by rw [List.length_set]; omega⟩) (fun q2 => ⟨⟨(by trivial), (by trivial), (by trivial), (by trivial), (by trivial), by omega, by omega, fill_stay h5 hi ?_⟩, by omega⟩)⟩) (fun q => ⟨⟨(by trivial), (by trivial), (by trivial), (by trivial), (by trivial), by omega, by omega, fill_stay h5 hi ?_⟩, by omega⟩)
          · have q2 : (gi gs3 k.toNat == g3') = true := q2
            unfold bedAt
            rw [q, q2]
            rfl
          · have q2 : (gi gs3 k.toNat == g3') = false := q2
            unfold bedAt
            rw [q2, Bool.and_false]
            rfl
          · unfold bedAt
            rw [q, Bool.false_and]
            rfl
        · have c3 := of_decide_eq_false c3
          rw [show k.toNat = ys2.length by omega, fill_end _ _ rfl] at h5
          have hz : zs = settleOne ys2 gs3 (g3'.toNat : Nat) true := by
            unfold settleOne
            rw [eg, Bool.true_and]
            exact h5
          rw [w1, e1]
          have g4' := g4
          rw [d] at g4'
          refine ⟨⟨(by trivial), (by trivial), (by trivial), by omega, by omega, by omega, fun j hj h1 h2 => ?_, ?_⟩, by omega⟩
          · rw [hz, length_settleOne] at hj
            rw [hz, ix_settleOne hj]
            have hne : (gi gs3 j == (g3'.toNat : Int)) = false := beq_eq_false_iff_ne.2 (by omega)
            unfold bedAt
            rw [hne, Bool.and_false]
            exact g3 j hj (by omega) h2
          · rw [hz]
            exact g4'
    · have c := of_decide_eq_false c
      rw [drop_end (by omega)] at g4
      have g4 : ys = _ := g4
      rw [g4]
      exact ⟨(by trivial), (by trivial)⟩)

theorem contactsF_ctok {xs : List Body} (h : xs.length ≤ 12) : CtsOk xs.length (contactsF xs) := by
  have h1 := length_contactsF h
  refine ⟨by omega, fun k hk => ?_⟩
  have hm : Ty.ix .contact (contactsF xs) k ∈ contactsF xs := List.mem_of_getElem? (ix_get (T := .contact) hk)
  obtain ⟨a, b, q1, q2, q3, _⟩ := mem_contactsF hm
  rw [q3]
  refine ⟨?_, ?_, ?_, ?_, ?_⟩ <;> dsimp only <;> omega
noncomputable def fs_l9Step : Fs := ⟨[], fun args H => match args, H with
  | [.vec 0, .int .i64 pull], [(false, .vec .body xs)] => some ((some (bodiesOk xs = true ∧ 0 ≤ pull ∧ pull ≤ 2560)), .vec 1, [(false, .vec .body xs), (true, .vec .body (stepF xs pull))])
  | _, _ => none⟩

theorem vc_l9Step (xs : List Body) (pull : Int) (Q : SV → List Ent → Prop) :
    fnVC tt (look [(160, fs_l7Contacts), (161, fs_l7Groups), (162, fs_l7Awake), (163, fs_l9Wake), (164, fs_l9Live), (165, fs_l9Pull), (109, fs_specAll), (166, fs_l9Moves), (113, fs_specAparts), (168, fs_l9Quiet), (167, fs_l9Sleep)]) L0 Tryz.f75 [.vec 0, .int .i64 pull] [(false, .vec .body xs)] Q =
    (let ic_ := Ty.ix Ty.contact; let A1_ := (liveF (wokenF xs) (contactsF xs)); let A2_ := (mapX goS (pushAllF (mapX (pullS pull) (wokenF xs)) A1_)); bodiesOk xs = true ∧ (List.length xs ≤ (12 : Nat) ∧ contactsF xs = contactsF xs) ∧ (bodiesOk xs = true ∧ groupsX xs = groupsX xs) ∧ (bodiesOk xs = true ∧ groupsX xs = groupsX xs ∧ awkF xs (List.length xs) = awkF xs (List.length xs)) ∧ (bodiesOk (wokenF xs) = true ∧ List.length (contactsF xs) ≤ (144 : Nat) ∧ ∀ (k : Nat), k < List.length (contactsF xs) → (0 : Int) ≤ Contact.A (ic_ (contactsF xs) k) ∧ Contact.A (ic_ (contactsF xs) k) < (↑(List.length (wokenF xs)) : Int) ∧ (0 : Int) ≤ Contact.B (ic_ (contactsF xs) k) ∧ Contact.B (ic_ (contactsF xs) k) < (↑(List.length (wokenF xs)) : Int) ∧ Contact.A (ic_ (contactsF xs) k) ≠ Contact.B (ic_ (contactsF xs) k)) ∧ (bodiesOk (wokenF xs) = true ∧ (0 : Int) ≤ pull ∧ pull ≤ (2560 : Int)) ∧ ((∀ (k : Nat), k < List.length (mapX (pullS pull) (wokenF xs)) → POk (Ty.ix Ty.body (mapX (pullS pull) (wokenF xs)) k)) ∧ List.length (mapX (pullS pull) (wokenF xs)) ≤ (12 : Nat) ∧ List.length A1_ ≤ (144 : Nat) ∧ ∀ (k : Nat), k < List.length A1_ → (0 : Int) ≤ Contact.A (ic_ A1_ k) ∧ Contact.A (ic_ A1_ k) < (↑(List.length (mapX (pullS pull) (wokenF xs))) : Int) ∧ (0 : Int) ≤ Contact.B (ic_ A1_ k) ∧ Contact.B (ic_ A1_ k) < (↑(List.length (mapX (pullS pull) (wokenF xs))) : Int) ∧ Contact.A (ic_ A1_ k) ≠ Contact.B (ic_ A1_ k)) ∧ bodiesOk (pushAllF (mapX (pullS pull) (wokenF xs)) A1_) = true ∧ ((∀ (k : Nat), k < List.length A2_ → POk (Ty.ix Ty.body A2_ k)) ∧ List.length A2_ ≤ (12 : Nat) ∧ List.length A1_ ≤ (144 : Nat) ∧ ∀ (k : Nat), k < List.length A1_ → (0 : Int) ≤ Contact.A (ic_ A1_ k) ∧ Contact.A (ic_ A1_ k) < (↑(List.length A2_) : Int) ∧ (0 : Int) ≤ Contact.B (ic_ A1_ k) ∧ Contact.B (ic_ A1_ k) < (↑(List.length A2_) : Int) ∧ Contact.A (ic_ A1_ k) ≠ Contact.B (ic_ A1_ k)) ∧ (bodiesOk (apartF A2_ A1_) = true ∧ bodiesOk (wokenF xs) = true ∧ List.length (wokenF xs) = List.length (apartF A2_ A1_)) ∧ (List.length (mapX (quietS (wokenF xs)) (apartF A2_ A1_)) ≤ (12 : Nat) ∧ List.length (groupsX xs) = List.length (mapX (quietS (wokenF xs)) (apartF A2_ A1_)) ∧ List.length (awkF xs (List.length xs)) ≤ (12 : Nat) ∧ ∀ (k : Nat), k < List.length (mapX (quietS (wokenF xs)) (apartF A2_ A1_)) → (0 : Int) ≤ gi (groupsX xs) k → Ty.ix Ty.bool (awkF xs (List.length xs)) (Int.toNat (gi (groupsX xs) k)) = true → Body.Quiet (Ty.ix Ty.body (mapX (quietS (wokenF xs)) (apartF A2_ A1_)) k) ≤ (7 : Int)) ∧ Q (SV.vec (1 : Nat)) [(false, Blk.vec Ty.body xs), (true, Blk.vec Ty.body (settleF (groupsX xs) (0 : Nat) (awkF xs (List.length xs)) (mapX (quietS (wokenF xs)) (apartF A2_ A1_))))]) := by kernel_rfl

theorem ok_l9Step : FsOk Tryz.prog 75 fs_l9Step := fsOk_of tt_ok (tabFs_cons ok_l7Contacts (tabFs_cons ok_l7Groups (tabFs_cons ok_l7Awake (tabFs_cons ok_l9Wake (tabFs_cons ok_l9Live (tabFs_cons ok_l9Pull (tabFs_cons ok_specAll (tabFs_cons ok_l9Moves (tabFs_cons ok_specAparts (tabFs_cons ok_l9Quiet (tabFs_cons ok_l9Sleep tabFs_nil))))))))))) mixed Tryz.func75 (by kernel_rfl) (by kernel_rfl) (by
    intro args LL p r HH h hp
    unfold fs_l9Step at h
    dsimp only at h
    split at h
    case h_2 => cases h
    rename_i pull xs
    simp only [Option.some.injEq, Prod.mk.injEq] at h
    obtain ⟨rfl, rfl, rfl⟩ := h
    refine ⟨by simp [Form, stays], L0, ?_⟩
    rw [vc_l9Step]
    try dsimp only
    obtain ⟨hok, p0, p1⟩ := hp _ rfl
    have hl := bodiesOk_len hok
    have hco := contactsF_ctok hl
    have hlv := live_same (pull := pull) hl
    rw [hlv]
    have hll : CtsOk xs.length (liveX xs pull) := live_ok hl
    have hP := ok_pulledF hok p0 p1
    refine ⟨hok, ⟨hl, rfl⟩, ⟨hok, rfl⟩, ⟨hok, rfl, rfl⟩, ⟨ok_wokenF hok, by rw [length_wokenF]; exact hco⟩, ⟨ok_wokenF hok, p0, p1⟩, ⟨allP_ok hP, by rw [length_mapX, length_wokenF]; exact hl, by rw [length_mapX, length_wokenF]; exact hll⟩, ok_pushedF hok p0 p1,
      ⟨allP_ok (ok_movedF hok p0 p1), by rw [length_mapX, length_pushAllF, length_mapX, length_wokenF]; exact hl, by rw [length_mapX, length_pushAllF, length_mapX, length_wokenF]; exact hll⟩,
      ⟨ok_apartX hok p0 p1, ok_wokenF hok, by rw [length_apartF, length_mapX, length_pushAllF, length_mapX, length_wokenF]⟩, ⟨?_, ?_, ?_, low_quietX hok⟩, (by trivial), (by trivial)⟩
    · rw [length_mapX, length_apartF, length_mapX, length_pushAllF, length_mapX, length_wokenF]
      exact hl
    · rw [length_mapX, length_apartF, length_mapX, length_pushAllF, length_mapX, length_wokenF]
      simp only [groupsX, length_gen]
    · have := length_awkF xs xs.length
      have := num_le xs xs.length
      omega)

end
end Go.Proofs.YtdhbkcaaijgocaaGreat.Sym

namespace Go.Proofs.YtdhbkcaaijgocaaGreat.Sym
open Go
set_option linter.unusedVariables false
set_option linter.unusedSimpArgs false
set_option maxRecDepth 100000

end Go.Proofs.YtdhbkcaaijgocaaGreat.Sym

namespace Go.Proofs.YtdhbkcaaijgocaaGreat.Sym
open Go
set_option linter.unusedVariables false
set_option linter.unusedSimpArgs false
set_option maxRecDepth 100000

end Go.Proofs.YtdhbkcaaijgocaaGreat.Sym

namespace Go.Proofs.YtdhbkcaaijgocaaGreat.Sym
open Go
set_option linter.unusedVariables false
set_option linter.unusedSimpArgs false
set_option maxRecDepth 100000

def ahead (a b : Pair) : Bool := decide (a.A < b.A) || a.A == b.A && decide (a.B < b.B)
end Go.Proofs.YtdhbkcaaijgocaaGreat.Sym

namespace Go.Proofs.YtdhbkcaaijgocaaGreat.Sym
open Go
set_option linter.unusedVariables false
set_option linter.unusedSimpArgs false
set_option maxRecDepth 100000

end Go.Proofs.YtdhbkcaaijgocaaGreat.Sym

namespace Go.Proofs.YtdhbkcaaijgocaaGreat.Sym
open Go
set_option linter.unusedVariables false
set_option linter.unusedSimpArgs false
set_option maxRecDepth 100000

end Go.Proofs.YtdhbkcaaijgocaaGreat.Sym

namespace Go.Proofs.YtdhbkcaaijgocaaGreat.Sym
open Go
set_option linter.unusedVariables false
set_option linter.unusedSimpArgs false
set_option maxRecDepth 100000
noncomputable section

end
end Go.Proofs.YtdhbkcaaijgocaaGreat.Sym

namespace Go.Proofs.YtdhbkcaaijgocaaGreat.Sym
open Go
set_option linter.unusedVariables false
set_option linter.unusedSimpArgs false
set_option maxRecDepth 100000
noncomputable section

end
end Go.Proofs.YtdhbkcaaijgocaaGreat.Sym

namespace Go.Proofs.YtdhbkcaaijgocaaGreat.Sym
open Go
set_option linter.unusedVariables false
set_option linter.unusedSimpArgs false
set_option maxRecDepth 100000

theorem shapeD_ok {s : Shape} (h : shapeD s) : shapeOk s = true := by
  obtain ⟨h1, h2, h3⟩ := h
  unfold shapeOk
  rcases h3 with ⟨k, e⟩ | ⟨k, e1, e2⟩
  · rw [if_pos k]
    simp only [isIn, Bool.and_eq_true, decide_eq_true_eq, beq_iff_eq]
    omega
  · rw [if_neg (by omega), if_pos k]
    simp only [isIn, Bool.and_eq_true, decide_eq_true_eq]
    omega
theorem bodyD_ok {id : Int} {b : Body} (h0 : 0 ≤ id) (h1 : id ≤ 999999999) (h : bodyD id b) : bodyOk b = true := by
  obtain ⟨q1, q2, q3, ⟨q4, q5⟩, q6, q7, q8, q9, q10, q11, q12, q13, q14, q15⟩ := h
  simp only [placeP] at q3
  refine bok_iff.2 ⟨by omega, shapeD_ok q2, by omega, by omega, by omega, by omega, by omega, by omega, fun e => ⟨(q5 e).1, (q5 e).2, q14 e⟩, fun e => ?_⟩
  by_cases c : b.Quiet = 8
  · exact .inr (q15 c)
  · exact .inl (by omega)
theorem bok_at {b : Body} {p : Vec} (h : bodyOk b = true) (hp : -2560000 ≤ p.X ∧ p.X ≤ 2560000 ∧ -2560000 ≤ p.Y ∧ p.Y ≤ 2560000) : bodyOk { b with At := p } = true := by
  rw [bok_iff] at h ⊢
  obtain ⟨h1, h2, h3, h4, h5, h6, h7, h8, h9, h10⟩ := h
  exact ⟨h1, h2, hp, h4, h5, h6, h7, h8, h9, h10⟩
theorem ix_snoc {xs : List Body} {x : Body} {e : Nat} (h : e < xs.length) : Ty.ix .body (xs ++ [x]) e = Ty.ix .body xs e := by
  simp only [Ty.ix, List.getD_eq_getElem?_getD]
  rw [List.getElem?_append_left h]
theorem ix_last {xs : List Body} {x : Body} : Ty.ix .body (xs ++ [x]) xs.length = x := by
  simp [Ty.ix, List.getD]
def idsLtB (m : Int) (xs : List Body) : Prop := ∀ e, e < xs.length → (Ty.ix .body xs e).Id < m
theorem ok_snoc {xs : List Body} {x : Body} (h : bodiesOk xs = true) (hi : idsLtB x.Id xs) (hx : bodyOk x = true) (hl : xs.length < 12) : bodiesOk (xs ++ [x]) = true := by
  obtain ⟨h1, h2, h3⟩ := bodiesOk_iff.1 h
  have len : (xs ++ [x]).length = xs.length + 1 := by simp
  refine bodiesOk_iff.2 ⟨by omega, fun k hk => ?_, fun k hk => ?_⟩
  · by_cases e : k < xs.length
    · rw [ix_snoc e]
      exact h2 k e
    · rw [show k = xs.length by omega, ix_last]
      exact hx
  · by_cases e : k + 1 < xs.length
    · rw [ix_snoc e, ix_snoc (show k < xs.length by omega)]
      exact h3 k e
    · have e2 : k + 1 = xs.length := by omega
      rw [e2, ix_last, ix_snoc (by omega)]
      exact hi k (by omega)
theorem ids_snoc {xs : List Body} {x : Body} {m n : Int} (hi : idsLtB m xs) (hm : m ≤ n) (hx : x.Id < n) : idsLtB n (xs ++ [x]) := by
  intro e he
  have len : (xs ++ [x]).length = xs.length + 1 := by simp
  by_cases c : e < xs.length
  · rw [ix_snoc c]
    have := hi e c
    omega
  · rw [show e = xs.length by omega, ix_last]
    exact hx
noncomputable section
def bd (b : List Int) (p id : Int) : Body := (g_l11Body b p id).1.1
def cn (b : List Int) (p id : Int) : Int := (((g_l11Body b p id).2 % 16 : Nat) : Int)
theorem cn_le (b : List Int) (p id : Int) : 0 ≤ cn b p id ∧ cn b p id ≤ 15 := by
  unfold cn
  omega
def nearP (b : List Int) (p : Int) (v : Vec) : Vec := ⟨withinS (W (W (v.X + W (pk b p 256 * 4)) - 512)) 2560000, withinS (W (W (v.Y + W (pk b (p + 1) 256 * 4)) - 512)) 2560000⟩
theorem nearP_le (b : List Int) (p : Int) (v : Vec) : -2560000 ≤ (nearP b p v).X ∧ (nearP b p v).X ≤ 2560000 ∧ -2560000 ≤ (nearP b p v).Y ∧ (nearP b p v).Y ≤ 2560000 := ⟨(withinS_to _).1, (withinS_to _).2, (withinS_to _).1, (withinS_to _).2⟩
def dStep (b : List Int) (p id : Int) (xs : List Body) : Int × Int × List Body :=
  let q := p + cn b p id
  bif decide ((xs.length : Int) > 0) then
    bif decide (pk b q 3 > 0) then
      (q + 1 + 1 + 1 + 1 + 1, W (W (id + 1) + pk b (q + 1 + 1 + 1 + 1) 3), xs ++ [{ bd b p id with At := nearP b (q + 1 + 1) (Ty.ix .body xs (pk b (q + 1) xs.length).toNat).At }])
    else (q + 1 + 1, W (W (id + 1) + pk b (q + 1) 3), xs ++ [bd b p id])
  else (q + 1, W (W (id + 1) + pk b q 3), xs ++ [bd b p id])
def dGo (b : List Int) : Nat → Int → Int → List Body → Int × List Body
  | 0, p, _, xs => (p, xs)
  | k + 1, p, id, xs => dGo b k (dStep b p id xs).1 (dStep b p id xs).2.1 (dStep b p id xs).2.2
def dEnd (b : List Int) (s : Int × List Body) : Int × List Body :=
  bif pk b s.1 4 == 0 then (s.1 + 1 + 1, stepF s.2 (Ty.ix .int ([0, 32] : List Int) (pk b (s.1 + 1) 2).toNat)) else (s.1 + 1, s.2)
def dDraw (b : List Int) (p : Int) : Int × List Body :=
  dEnd b (dGo b (bif pk b (p + 1 + 1) 20 == 0 then 12 else (pk b (p + 1) 7).toNat) (p + 1 + 1 + 1) (pk b p 3) [])
theorem dStep_spec {b : List Int} {p id : Int} {xs : List Body} (i0 : 0 ≤ id) (i1 : id ≤ 40) (h : bodiesOk xs = true) (hi : idsLtB id xs) (hl : xs.length < 12) :
    p ≤ (dStep b p id xs).1 ∧ (dStep b p id xs).1 ≤ p + 20 ∧ id < (dStep b p id xs).2.1 ∧ (dStep b p id xs).2.1 ≤ id + 3 ∧ bodiesOk (dStep b p id xs).2.2 = true ∧ idsLtB (dStep b p id xs).2.1 (dStep b p id xs).2.2 ∧ (dStep b p id xs).2.2.length = xs.length + 1 := by
  have hc := cn_le b p id
  have hid : (bd b p id).Id = id := (g_l11Body b p id).1.2.1
  have hbd : bodyOk (bd b p id) = true := bodyD_ok i0 (by omega) (g_l11Body b p id).1.2
  have w1 : W (id + 1) = id + 1 := W_small (by omega) (by omega)
  have hpk : ∀ q, W (W (id + 1) + pk b q 3) = id + 1 + pk b q 3 := fun q => by
    have := pk_lt b q (n := 3) (by omega)
    rw [w1]
    exact W_small (by omega) (by omega)
  have fin : ∀ {x : Body} (q : Int), x.Id = id → bodyOk x = true → bodiesOk (xs ++ [x]) = true ∧ idsLtB (W (W (id + 1) + pk b q 3)) (xs ++ [x]) ∧ (xs ++ [x]).length = xs.length + 1 := fun {x} q h1 h2 => by
    have := pk_lt b q (n := 3) (by omega)
    refine ⟨ok_snoc h (by rw [h1]; exact hi) h2 hl, ?_, by simp⟩
    rw [hpk q]
    exact ids_snoc hi (by omega) (by omega)
  unfold dStep
  dsimp only
  cases decide ((xs.length : Int) > 0) with
  | false =>
    simp only [cond_false]
    have hk := pk_lt b (p + cn b p id) (n := 3) (by omega)
    have := fin (p + cn b p id) hid hbd
    exact ⟨by omega, by omega, by rw [hpk]; omega, by rw [hpk]; omega, this.1, this.2.1, this.2.2⟩
  | true =>
    simp only [cond_true]
    cases decide (pk b (p + cn b p id) 3 > 0) with
    | false =>
      simp only [cond_false]
      have hk := pk_lt b (p + cn b p id + 1) (n := 3) (by omega)
      have := fin (p + cn b p id + 1) hid hbd
      exact ⟨by omega, by omega, by rw [hpk]; omega, by rw [hpk]; omega, this.1, this.2.1, this.2.2⟩
    | true =>
      simp only [cond_true]
      have hk := pk_lt b (p + cn b p id + 1 + 1 + 1 + 1) (n := 3) (by omega)
      have := fin (x := { bd b p id with At := nearP b (p + cn b p id + 1 + 1) (Ty.ix .body xs (pk b (p + cn b p id + 1) xs.length).toNat).At }) (p + cn b p id + 1 + 1 + 1 + 1) hid (bok_at hbd (nearP_le _ _ _))
      exact ⟨by omega, by omega, by rw [hpk]; omega, by rw [hpk]; omega, this.1, this.2.1, this.2.2⟩
theorem dGo_next {b : List Int} {p id n n0 topP topI q id' : Int} {xs ys : List Body} {R : Int × List Body} (e : dStep b p id xs = (q, id', ys)) (h1 : 0 < n) (h2 : n ≤ n0) (h12 : n0 ≤ 12) (p0 : 0 ≤ p) (hp : p + 20 * n ≤ topP) (i0 : 0 ≤ id) (hi : id + 3 * n ≤ topI) (ti : topI ≤ 40)
    (ok : bodiesOk xs = true) (ids : idsLtB id xs) (hl : (xs.length : Int) + n = n0) (h7 : dGo b n.toNat p id xs = R) :
    (b = b ∧ 0 ≤ IntKind.i64.wrap (n - 1) ∧ IntKind.i64.wrap (n - 1) ≤ n0 ∧ 0 ≤ q ∧ q + 20 * IntKind.i64.wrap (n - 1) ≤ topP ∧ 0 ≤ id' ∧ id' + 3 * IntKind.i64.wrap (n - 1) ≤ topI ∧ bodiesOk ys = true ∧ idsLtB id' ys ∧ (ys.length : Int) + IntKind.i64.wrap (n - 1) = n0 ∧ dGo b (IntKind.i64.wrap (n - 1)).toNat q id' ys = R) ∧
    (IntKind.i64.wrap (n - 1)).toNat < n.toNat := by
  obtain ⟨s1, s2, s3, s4, s5, s6, s7⟩ := dStep_spec (b := b) (p := p) i0 (by omega) ok ids (by omega)
  rw [e] at s1 s2 s3 s4 s5 s6 s7
  dsimp only at s1 s2 s3 s4 s5 s6 s7
  have w : IntKind.i64.wrap (n - 1) = n - 1 := wrap_small (by omega) (by omega)
  rw [w]
  refine ⟨⟨rfl, by omega, by omega, by omega, by omega, by omega, by omega, s5, s6, by omega, ?_⟩, by omega⟩
  rw [← h7, show n.toNat = (n - 1).toNat + 1 by omega]
  simp only [dGo, e]
theorem dGo_spec {b : List Int} : ∀ {k : Nat} {p id : Int} {xs : List Body}, 0 ≤ id → id + 3 * k ≤ 40 → bodiesOk xs = true → idsLtB id xs → xs.length + k ≤ 12 → p ≤ (dGo b k p id xs).1 ∧ (dGo b k p id xs).1 ≤ p + 20 * k ∧ bodiesOk (dGo b k p id xs).2 = true
  | 0, p, id, xs, _, _, h, _, _ => ⟨by simp only [dGo]; omega, by simp only [dGo]; omega, h⟩
  | k + 1, p, id, xs, i0, i1, h, hi, hl => by
    obtain ⟨s1, s2, s3, s4, s5, s6, s7⟩ := dStep_spec (b := b) (p := p) i0 (by omega) h hi (by omega)
    obtain ⟨r1, r2, r3⟩ := dGo_spec (b := b) (k := k) (p := (dStep b p id xs).1) (id := (dStep b p id xs).2.1) (xs := (dStep b p id xs).2.2) (by omega) (by omega) s5 s6 (by omega)
    simp only [dGo]
    exact ⟨by omega, by omega, r3⟩
theorem ids_nil (m : Int) : idsLtB m [] := fun e h => by simp at h
def pullI (i : Nat) : Int := if i = 0 then 0 else if i = 1 then 32 else 0
theorem ixPull (i : Nat) : @Eq Int (Ty.ix .int ([0, 32] : List Int) i) (pullI i) := ix2 ..
theorem pullI_le (i : Nat) : 0 ≤ pullI i ∧ pullI i ≤ 2560 := by
  unfold pullI
  (repeat' split) <;> omega
theorem ix032 (i : Nat) : @LE.le Int _ 0 (Ty.ix .int ([0, 32] : List Int) i) ∧ @LE.le Int _ (Ty.ix .int ([0, 32] : List Int) i) 2560 := by
  rw [ixPull]
  exact pullI_le i
theorem dEnd_spec {b : List Int} {s : Int × List Body} (h : bodiesOk s.2 = true) : s.1 < (dEnd b s).1 ∧ (dEnd b s).1 ≤ s.1 + 2 ∧ bodiesOk (dEnd b s).2 = true := by
  unfold dEnd
  cases pk b s.1 4 == 0 with
  | false => exact ⟨by simp only [cond_false]; omega, by simp only [cond_false]; omega, h⟩
  | true => exact ⟨by simp only [cond_true]; omega, by simp only [cond_true]; omega, ok_stepF h (ix032 _).1 (ix032 _).2⟩
theorem bodiesOk_nil : bodiesOk [] = true := rfl
theorem dDraw_spec {b : List Int} {p : Int} : p ≤ (dDraw b p).1 ∧ (dDraw b p).1 ≤ p + 400 ∧ bodiesOk (dDraw b p).2 = true := by
  have k1 := pk_lt b (p + 1) (n := 7) (by omega)
  have k2 := pk_lt b p (n := 3) (by omega)
  have hk : (bif pk b (p + 1 + 1) 20 == 0 then 12 else (pk b (p + 1) 7).toNat) ≤ 12 := by
    cases pk b (p + 1 + 1) 20 == 0 <;> simp only [cond_true, cond_false] <;> omega
  unfold dDraw
  generalize (bif pk b (p + 1 + 1) 20 == 0 then 12 else (pk b (p + 1) 7).toNat) = k at *
  obtain ⟨r1, r2, r3⟩ := dGo_spec (b := b) (k := k) (p := p + 1 + 1 + 1) (id := pk b p 3) (xs := []) (by omega) (by omega) bodiesOk_nil (ids_nil _) (by simpa using hk)
  obtain ⟨e1, e2, e3⟩ := dEnd_spec (b := b) r3
  exact ⟨by omega, by omega, e3⟩
def LSdGo  : LS where
  S := List Int × Int × Unit × List Body × Int × Int
  live := [(0, [none]), (3, [some .body]), (4, [none]), (5, [none])]
  shape := fun s => ([.ptr 1 0 0, .vec 2, .int .i64 s.2.2.2.2.1, .int .i64 s.2.2.2.2.2], [(false, .vec .byte s.1), (true, .box [.vec 0, .int .i64 s.2.1]), (true, .vec .body s.2.2.2.1)])
  get := fun v h => match v, h with
    | [.ptr 1 0 0, .vec 2, .int .i64 id, .int .i64 n], [(false, .vec .byte b), (true, .box [.vec 0, .int .i64 p]), (true, .vec .body xs)] => some (b, p, (), xs, id, n)
    | _, _ => none
  inv := fun s0 s => Holds (s.1 = s0.1 ∧ 0 ≤ s.2.2.2.2.2 ∧ s.2.2.2.2.2 ≤ s0.2.2.2.2.2 ∧ 0 ≤ s.2.1 ∧ s.2.1 + 20 * s.2.2.2.2.2 ≤ s0.2.1 + 20 * s0.2.2.2.2.2 ∧ 0 ≤ s.2.2.2.2.1 ∧ s.2.2.2.2.1 + 3 * s.2.2.2.2.2 ≤ s0.2.2.2.2.1 + 3 * s0.2.2.2.2.2 ∧ bodiesOk s.2.2.2.1 = true ∧ idsLtB s.2.2.2.2.1 s.2.2.2.1 ∧ s.2.2.2.1.length + s.2.2.2.2.2 = s0.2.2.2.2.2 ∧ dGo s.1 s.2.2.2.2.2.toNat s.2.1 s.2.2.2.2.1 s.2.2.2.1 = dGo s0.1 s0.2.2.2.2.2.toNat s0.2.1 s0.2.2.2.2.1 s0.2.2.2.1)
  mu := fun s => s.2.2.2.2.2.toNat
  ok := by
    intro v h s hg
    try dsimp only at hg
    split at hg <;> cases hg
    rfl

def L_l11Bodies : Loops := fun n => match n with
  | 6 => some LSdGo
  | _ => none
noncomputable def fs_l11Bodies : Fs := ⟨[], fun args H => match args, H with
  | [.ptr 1 0 0], [(false, .vec .byte b), (true, .box [.vec 0, .int .i64 p])] => some ((some (0 ≤ p ∧ p + 400 ≤ 1000000000000 ∧ BytesOk b)), .vec 2, [(false, .vec .byte b), (true, .box [.vec 0, .int .i64 (dDraw b p).1]), (true, .vec .body (dDraw b p).2)])
  | _, _ => none⟩

theorem vc_l11Bodies (b : List Int) (p : Int) (Q : SV → List Ent → Prop) :
    fnVC tt (look [(105, fs_rdPick), (153, fs_rdOne), (222, fs_l11Body), (211, fs_specWithin), (75, fs_l9Step)]) (L_l11Bodies) Tryz.f182 [.ptr 1 0 0] [(false, .vec .byte b), (true, .box [.vec 0, .int .i64 p])] Q =
    (let w_ := IntKind.wrap IntKind.i64; let s_ := SV.int IntKind.i64; let n_ := Int.toNat; let ii_ := Ty.ix Ty.int; let A36_ := (p + (1 : Int) + (1 : Int) + (1 : Int)); let A35_ := (g_rdPick b p (3 : Int) % (3 : Int)); let A34_ := (g_rdPick b (p + (1 : Int)) (7 : Int) % (7 : Int)); ((0 : Int) ≤ p ∧ p + (1 : Int) ≤ (1000000000000 : Int) ∧ BytesOk b ∧ (1 : Int) ≤ (3 : Int)) ∧ ((0 : Int) ≤ p + (1 : Int) ∧ p + (1 : Int) + (1 : Int) ≤ (1000000000000 : Int) ∧ BytesOk b ∧ (1 : Int) ≤ (7 : Int)) ∧ ((0 : Int) ≤ p + (1 : Int) + (1 : Int) ∧ p + (1 : Int) + (1 : Int) + (1 : Int) ≤ (1000000000000 : Int) ∧ BytesOk b ∧ (1 : Int) ≤ (20 : Int)) ∧ ifB (g_rdPick b (p + (1 : Int) + (1 : Int)) (20 : Int) % (20 : Int) == (0 : Int)) (Holds (b = b ∧ (0 : Int) ≤ (12 : Int) ∧ (12 : Int) ≤ (12 : Int) ∧ (0 : Int) ≤ p + (1 : Int) + (1 : Int) + (1 : Int) ∧ p + (1 : Int) + (1 : Int) + (1 : Int) + (20 : Int) * (12 : Int) ≤ p + (1 : Int) + (1 : Int) + (1 : Int) + (20 : Int) * (12 : Int) ∧ (0 : Int) ≤ g_rdPick b p (3 : Int) % (3 : Int) ∧ g_rdPick b p (3 : Int) % (3 : Int) + (3 : Int) * (12 : Int) ≤ g_rdPick b p (3 : Int) % (3 : Int) + (3 : Int) * (12 : Int) ∧ bodiesOk [] = true ∧ idsLtB A35_ [] ∧ (0 : Int) + (12 : Int) = (12 : Int) ∧ dGo b (n_ (12 : Int)) A36_ A35_ [] = dGo b (n_ (12 : Int)) A36_ A35_ []) ∧ ∀ (y18 : List Int × Int × Unit × List Body × Int × Int), let y18f0_ := Prod.fst y18; let y18s1_ := Prod.snd y18; let y18f1_ := Prod.fst (Prod.snd y18); let y18s3_ := Prod.snd (Prod.snd (Prod.snd y18)); let y18f3_ := Prod.fst (Prod.snd (Prod.snd (Prod.snd y18))); let y18s4_ := Prod.snd (Prod.snd (Prod.snd (Prod.snd y18))); let y18f4_ := Prod.fst (Prod.snd (Prod.snd (Prod.snd (Prod.snd y18)))); let y18s5_ := Prod.snd (Prod.snd (Prod.snd (Prod.snd (Prod.snd y18)))); let A33_ := A35_; let A32_ := A36_; let A28_ := (↑(List.length y18f3_) : Int); let A25_ := (n_ (g_rdPick y18f0_ (Prod.fst y18s1_ + (1 : Int)) (↑(List.length [(0 : Int), (32 : Int)]) : Int) % (↑(List.length [(0 : Int), (32 : Int)]) : Int))); let A23_ := (Prod.snd y18s4_ - (1 : Int)); let A31_ := (w_ A23_); let A21_ := (Prod.fst (g_l11Body y18f0_ y18f1_ y18f4_)); let A29_ := (Prod.fst y18s3_ ++ [Subtype.val A21_]); let A20_ := (↑(Prod.snd (g_l11Body y18f0_ y18f1_ y18f4_) % (16 : Nat)) : Int); let A30_ := (Prod.fst y18s1_ + A20_ + (1 : Int)); let A27_ := (w_ (Prod.fst y18s4_ + (1 : Int)) + g_rdPick y18f0_ (Prod.fst y18s1_ + A20_) (3 : Int) % (3 : Int)); let A26_ := (w_ (Prod.fst y18s4_ + (1 : Int)) + g_rdPick y18f0_ A30_ (3 : Int) % (3 : Int)); let A24_ := (w_ (Prod.fst y18s4_ + (1 : Int)) + g_rdPick y18f0_ (Prod.fst y18s1_ + A20_ + (1 : Int) + (1 : Int) + (1 : Int) + (1 : Int)) (3 : Int) % (3 : Int)); let A22_ := (Vec.mk (withinS (w_ (w_ (Vec.X (Body.At (Ty.ix Ty.body y18f3_ (n_ (g_rdPick y18f0_ A30_ A28_ % A28_)))) + w_ (g_rdPick y18f0_ (Prod.fst y18s1_ + A20_ + (1 : Int) + (1 : Int)) (256 : Int) % (256 : Int) * (4 : Int))) - (512 : Int))) (2560000 : Int)) (withinS (w_ (w_ (Vec.Y (Body.At (Ty.ix Ty.body y18f3_ (n_ (g_rdPick y18f0_ A30_ A28_ % A28_)))) + w_ (g_rdPick y18f0_ (Prod.fst y18s1_ + A20_ + (1 : Int) + (1 : Int) + (1 : Int)) (256 : Int) % (256 : Int) * (4 : Int))) - (512 : Int))) (2560000 : Int))); let A19_ := (Prod.fst y18s3_ ++ [Body.mk (Body.Id (Subtype.val A21_)) (Body.Shape (Subtype.val A21_)) A22_ (Body.Drive (Subtype.val A21_)) (Body.Mass (Subtype.val A21_)) (Body.Bounce (Subtype.val A21_)) (Body.Rub (Subtype.val A21_)) (Body.Quiet (Subtype.val A21_))]); Holds (Prod.fst y18 = b ∧ (0 : Int) ≤ y18s5_ ∧ y18s5_ ≤ (12 : Int) ∧ (0 : Int) ≤ y18f1_ ∧ y18f1_ + (20 : Int) * y18s5_ ≤ p + (1 : Int) + (1 : Int) + (1 : Int) + (20 : Int) * (12 : Int) ∧ (0 : Int) ≤ y18f4_ ∧ y18f4_ + (3 : Int) * y18s5_ ≤ g_rdPick b p (3 : Int) % (3 : Int) + (3 : Int) * (12 : Int) ∧ bodiesOk y18f3_ = true ∧ idsLtB y18f4_ y18f3_ ∧ A28_ + y18s5_ = (12 : Int) ∧ dGo y18f0_ (n_ y18s5_) y18f1_ y18f4_ y18f3_ = dGo b (n_ (12 : Int)) A32_ A33_ []) → ifB (decide (Prod.snd y18s4_ > (0 : Int))) (((0 : Int) ≤ y18f1_ ∧ y18f1_ + (15 : Int) ≤ (1000000000000 : Int) ∧ BytesOk y18f0_) ∧ ifB (decide (A28_ > (0 : Int))) (((0 : Int) ≤ y18f1_ + A20_ ∧ y18f1_ + A20_ + (1 : Int) ≤ (1000000000000 : Int) ∧ BytesOk y18f0_ ∧ (1 : Int) ≤ (3 : Int)) ∧ ifB (decide (g_rdPick y18f0_ (Prod.fst y18s1_ + A20_) (3 : Int) % (3 : Int) > (0 : Int))) (((0 : Int) ≤ y18f1_ + A20_ + (1 : Int) ∧ y18f1_ + A20_ + (1 : Int) + (1 : Int) ≤ (1000000000000 : Int) ∧ BytesOk y18f0_ ∧ (1 : Int) ≤ A28_) ∧ ((0 : Int) ≤ g_rdPick y18f0_ A30_ A28_ % A28_ ∧ g_rdPick y18f0_ A30_ A28_ % A28_ < A28_) ∧ ((0 : Int) ≤ y18f1_ + A20_ + (1 : Int) + (1 : Int) ∧ y18f1_ + A20_ + (1 : Int) + (1 : Int) + (1 : Int) ≤ (1000000000000 : Int) ∧ BytesOk y18f0_ ∧ (1 : Int) ≤ (256 : Int)) ∧ ((0 : Int) ≤ y18f1_ + A20_ + (1 : Int) + (1 : Int) + (1 : Int) ∧ y18f1_ + A20_ + (1 : Int) + (1 : Int) + (1 : Int) + (1 : Int) ≤ (1000000000000 : Int) ∧ BytesOk y18f0_ ∧ (1 : Int) ≤ (256 : Int)) ∧ (List.length y18f3_ + List.length [Body.mk (Body.Id (Subtype.val A21_)) (Body.Shape (Subtype.val A21_)) A22_ (Body.Drive (Subtype.val A21_)) (Body.Mass (Subtype.val A21_)) (Body.Bounce (Subtype.val A21_)) (Body.Rub (Subtype.val A21_)) (Body.Quiet (Subtype.val A21_))]) * (96 : Nat) ≤ room ∧ ((0 : Int) ≤ y18f1_ + A20_ + (1 : Int) + (1 : Int) + (1 : Int) + (1 : Int) ∧ y18f1_ + A20_ + (1 : Int) + (1 : Int) + (1 : Int) + (1 : Int) + (1 : Int) ≤ (1000000000000 : Int) ∧ BytesOk y18f0_ ∧ (1 : Int) ≤ (3 : Int)) ∧ Holds (Prod.fst y18 = b ∧ (0 : Int) ≤ w_ A23_ ∧ w_ A23_ ≤ (12 : Int) ∧ (0 : Int) ≤ y18f1_ + A20_ + (1 : Int) + (1 : Int) + (1 : Int) + (1 : Int) + (1 : Int) ∧ y18f1_ + A20_ + (1 : Int) + (1 : Int) + (1 : Int) + (1 : Int) + (1 : Int) + (20 : Int) * w_ A23_ ≤ p + (1 : Int) + (1 : Int) + (1 : Int) + (20 : Int) * (12 : Int) ∧ (0 : Int) ≤ w_ A24_ ∧ w_ A24_ + (3 : Int) * w_ A23_ ≤ g_rdPick b p (3 : Int) % (3 : Int) + (3 : Int) * (12 : Int) ∧ bodiesOk A19_ = true ∧ idsLtB (w_ A24_) A19_ ∧ (↑(List.length A19_) : Int) + w_ A23_ = (12 : Int) ∧ dGo y18f0_ (n_ A31_) (Prod.fst y18s1_ + A20_ + (1 : Int) + (1 : Int) + (1 : Int) + (1 : Int) + (1 : Int)) (w_ A24_) A19_ = dGo b (n_ (12 : Int)) A32_ A33_ []) ∧ n_ A31_ < n_ y18s5_) ((List.length y18f3_ + List.length [Subtype.val A21_]) * (96 : Nat) ≤ room ∧ ((0 : Int) ≤ y18f1_ + A20_ + (1 : Int) ∧ y18f1_ + A20_ + (1 : Int) + (1 : Int) ≤ (1000000000000 : Int) ∧ BytesOk y18f0_ ∧ (1 : Int) ≤ (3 : Int)) ∧ Holds (Prod.fst y18 = b ∧ (0 : Int) ≤ w_ A23_ ∧ w_ A23_ ≤ (12 : Int) ∧ (0 : Int) ≤ y18f1_ + A20_ + (1 : Int) + (1 : Int) ∧ y18f1_ + A20_ + (1 : Int) + (1 : Int) + (20 : Int) * w_ A23_ ≤ p + (1 : Int) + (1 : Int) + (1 : Int) + (20 : Int) * (12 : Int) ∧ (0 : Int) ≤ w_ A26_ ∧ w_ A26_ + (3 : Int) * w_ A23_ ≤ g_rdPick b p (3 : Int) % (3 : Int) + (3 : Int) * (12 : Int) ∧ bodiesOk A29_ = true ∧ idsLtB (w_ A26_) A29_ ∧ (↑(List.length A29_) : Int) + w_ A23_ = (12 : Int) ∧ dGo y18f0_ (n_ A31_) (Prod.fst y18s1_ + A20_ + (1 : Int) + (1 : Int)) (w_ A26_) A29_ = dGo b (n_ (12 : Int)) A32_ A33_ []) ∧ n_ A31_ < n_ y18s5_)) ((List.length y18f3_ + List.length [Subtype.val A21_]) * (96 : Nat) ≤ room ∧ ((0 : Int) ≤ y18f1_ + A20_ ∧ y18f1_ + A20_ + (1 : Int) ≤ (1000000000000 : Int) ∧ BytesOk y18f0_ ∧ (1 : Int) ≤ (3 : Int)) ∧ Holds (Prod.fst y18 = b ∧ (0 : Int) ≤ w_ A23_ ∧ w_ A23_ ≤ (12 : Int) ∧ (0 : Int) ≤ y18f1_ + A20_ + (1 : Int) ∧ y18f1_ + A20_ + (1 : Int) + (20 : Int) * w_ A23_ ≤ p + (1 : Int) + (1 : Int) + (1 : Int) + (20 : Int) * (12 : Int) ∧ (0 : Int) ≤ w_ A27_ ∧ w_ A27_ + (3 : Int) * w_ A23_ ≤ g_rdPick b p (3 : Int) % (3 : Int) + (3 : Int) * (12 : Int) ∧ bodiesOk A29_ = true ∧ idsLtB (w_ A27_) A29_ ∧ (↑(List.length A29_) : Int) + w_ A23_ = (12 : Int) ∧ dGo y18f0_ (n_ A31_) A30_ (w_ A27_) A29_ = dGo b (n_ (12 : Int)) A32_ A33_ []) ∧ n_ A31_ < n_ y18s5_)) (((0 : Int) ≤ y18f1_ ∧ y18f1_ + (1 : Int) ≤ (1000000000000 : Int) ∧ BytesOk y18f0_ ∧ (1 : Int) ≤ (4 : Int)) ∧ ifB (g_rdPick y18f0_ y18f1_ (4 : Int) % (4 : Int) == (0 : Int)) (((0 : Int) ≤ y18f1_ + (1 : Int) ∧ y18f1_ + (1 : Int) + (1 : Int) ≤ (1000000000000 : Int) ∧ BytesOk y18f0_ ∧ (1 : Nat) ≤ List.length [(0 : Int), (32 : Int)]) ∧ (bodiesOk y18f3_ = true ∧ (0 : Int) ≤ ii_ [(0 : Int), (32 : Int)] A25_ ∧ ii_ [(0 : Int), (32 : Int)] A25_ ≤ (2560 : Int)) ∧ ((0 : Nat) + List.length (stepF y18f3_ (ii_ [(0 : Int), (32 : Int)] A25_))) * (96 : Nat) ≤ room ∧ Q (SV.vec (2 : Nat)) [(false, Blk.vec Ty.byte y18f0_), (true, Blk.box [SV.vec (0 : Nat), s_ (Prod.fst y18s1_ + (1 : Int) + (1 : Int))]), (true, Blk.vec Ty.body ([] ++ stepF y18f3_ (ii_ [(0 : Int), (32 : Int)] A25_)))]) (Q (SV.vec (2 : Nat)) [(false, Blk.vec Ty.byte y18f0_), (true, Blk.box [SV.vec (0 : Nat), s_ (Prod.fst y18s1_ + (1 : Int))]), (true, Blk.vec Ty.body y18f3_)]))) (Holds (b = b ∧ (0 : Int) ≤ g_rdPick b (p + (1 : Int)) (7 : Int) % (7 : Int) ∧ g_rdPick b (p + (1 : Int)) (7 : Int) % (7 : Int) ≤ g_rdPick b (p + (1 : Int)) (7 : Int) % (7 : Int) ∧ (0 : Int) ≤ p + (1 : Int) + (1 : Int) + (1 : Int) ∧ p + (1 : Int) + (1 : Int) + (1 : Int) + (20 : Int) * A34_ ≤ p + (1 : Int) + (1 : Int) + (1 : Int) + (20 : Int) * A34_ ∧ (0 : Int) ≤ g_rdPick b p (3 : Int) % (3 : Int) ∧ g_rdPick b p (3 : Int) % (3 : Int) + (3 : Int) * A34_ ≤ g_rdPick b p (3 : Int) % (3 : Int) + (3 : Int) * A34_ ∧ bodiesOk [] = true ∧ idsLtB A35_ [] ∧ (0 : Int) + g_rdPick b (p + (1 : Int)) (7 : Int) % (7 : Int) = g_rdPick b (p + (1 : Int)) (7 : Int) % (7 : Int) ∧ dGo b (n_ A34_) A36_ A35_ [] = dGo b (n_ A34_) A36_ A35_ []) ∧ ∀ (y1 : List Int × Int × Unit × List Body × Int × Int), let y1f0_ := Prod.fst y1; let y1s1_ := Prod.snd y1; let y1f1_ := Prod.fst (Prod.snd y1); let y1s3_ := Prod.snd (Prod.snd (Prod.snd y1)); let y1f3_ := Prod.fst (Prod.snd (Prod.snd (Prod.snd y1))); let y1s4_ := Prod.snd (Prod.snd (Prod.snd (Prod.snd y1))); let y1f4_ := Prod.fst (Prod.snd (Prod.snd (Prod.snd (Prod.snd y1)))); let y1s5_ := Prod.snd (Prod.snd (Prod.snd (Prod.snd (Prod.snd y1)))); let A17_ := A35_; let A16_ := A36_; let A12_ := (↑(List.length y1f3_) : Int); let A9_ := (n_ (g_rdPick y1f0_ (Prod.fst y1s1_ + (1 : Int)) (↑(List.length [(0 : Int), (32 : Int)]) : Int) % (↑(List.length [(0 : Int), (32 : Int)]) : Int))); let A8_ := (Prod.snd y1s4_ - (1 : Int)); let A15_ := (w_ A8_); let A6_ := A34_; let A4_ := (Prod.fst (g_l11Body y1f0_ y1f1_ y1f4_)); let A13_ := (Prod.fst y1s3_ ++ [Subtype.val A4_]); let A3_ := (↑(Prod.snd (g_l11Body y1f0_ y1f1_ y1f4_) % (16 : Nat)) : Int); let A14_ := (Prod.fst y1s1_ + A3_ + (1 : Int)); let A11_ := (w_ (Prod.fst y1s4_ + (1 : Int)) + g_rdPick y1f0_ (Prod.fst y1s1_ + A3_) (3 : Int) % (3 : Int)); let A10_ := (w_ (Prod.fst y1s4_ + (1 : Int)) + g_rdPick y1f0_ A14_ (3 : Int) % (3 : Int)); let A7_ := (w_ (Prod.fst y1s4_ + (1 : Int)) + g_rdPick y1f0_ (Prod.fst y1s1_ + A3_ + (1 : Int) + (1 : Int) + (1 : Int) + (1 : Int)) (3 : Int) % (3 : Int)); let A5_ := (Vec.mk (withinS (w_ (w_ (Vec.X (Body.At (Ty.ix Ty.body y1f3_ (n_ (g_rdPick y1f0_ A14_ A12_ % A12_)))) + w_ (g_rdPick y1f0_ (Prod.fst y1s1_ + A3_ + (1 : Int) + (1 : Int)) (256 : Int) % (256 : Int) * (4 : Int))) - (512 : Int))) (2560000 : Int)) (withinS (w_ (w_ (Vec.Y (Body.At (Ty.ix Ty.body y1f3_ (n_ (g_rdPick y1f0_ A14_ A12_ % A12_)))) + w_ (g_rdPick y1f0_ (Prod.fst y1s1_ + A3_ + (1 : Int) + (1 : Int) + (1 : Int)) (256 : Int) % (256 : Int) * (4 : Int))) - (512 : Int))) (2560000 : Int))); let A2_ := (Prod.fst y1s3_ ++ [Body.mk (Body.Id (Subtype.val A4_)) (Body.Shape (Subtype.val A4_)) A5_ (Body.Drive (Subtype.val A4_)) (Body.Mass (Subtype.val A4_)) (Body.Bounce (Subtype.val A4_)) (Body.Rub (Subtype.val A4_)) (Body.Quiet (Subtype.val A4_))]); Holds (Prod.fst y1 = b ∧ (0 : Int) ≤ y1s5_ ∧ y1s5_ ≤ g_rdPick b (p + (1 : Int)) (7 : Int) % (7 : Int) ∧ (0 : Int) ≤ y1f1_ ∧ y1f1_ + (20 : Int) * y1s5_ ≤ p + (1 : Int) + (1 : Int) + (1 : Int) + (20 : Int) * A6_ ∧ (0 : Int) ≤ y1f4_ ∧ y1f4_ + (3 : Int) * y1s5_ ≤ g_rdPick b p (3 : Int) % (3 : Int) + (3 : Int) * A6_ ∧ bodiesOk y1f3_ = true ∧ idsLtB y1f4_ y1f3_ ∧ A12_ + y1s5_ = g_rdPick b (p + (1 : Int)) (7 : Int) % (7 : Int) ∧ dGo y1f0_ (n_ y1s5_) y1f1_ y1f4_ y1f3_ = dGo b (n_ A6_) A16_ A17_ []) → ifB (decide (Prod.snd y1s4_ > (0 : Int))) (((0 : Int) ≤ y1f1_ ∧ y1f1_ + (15 : Int) ≤ (1000000000000 : Int) ∧ BytesOk y1f0_) ∧ ifB (decide (A12_ > (0 : Int))) (((0 : Int) ≤ y1f1_ + A3_ ∧ y1f1_ + A3_ + (1 : Int) ≤ (1000000000000 : Int) ∧ BytesOk y1f0_ ∧ (1 : Int) ≤ (3 : Int)) ∧ ifB (decide (g_rdPick y1f0_ (Prod.fst y1s1_ + A3_) (3 : Int) % (3 : Int) > (0 : Int))) (((0 : Int) ≤ y1f1_ + A3_ + (1 : Int) ∧ y1f1_ + A3_ + (1 : Int) + (1 : Int) ≤ (1000000000000 : Int) ∧ BytesOk y1f0_ ∧ (1 : Int) ≤ A12_) ∧ ((0 : Int) ≤ g_rdPick y1f0_ A14_ A12_ % A12_ ∧ g_rdPick y1f0_ A14_ A12_ % A12_ < A12_) ∧ ((0 : Int) ≤ y1f1_ + A3_ + (1 : Int) + (1 : Int) ∧ y1f1_ + A3_ + (1 : Int) + (1 : Int) + (1 : Int) ≤ (1000000000000 : Int) ∧ BytesOk y1f0_ ∧ (1 : Int) ≤ (256 : Int)) ∧ ((0 : Int) ≤ y1f1_ + A3_ + (1 : Int) + (1 : Int) + (1 : Int) ∧ y1f1_ + A3_ + (1 : Int) + (1 : Int) + (1 : Int) + (1 : Int) ≤ (1000000000000 : Int) ∧ BytesOk y1f0_ ∧ (1 : Int) ≤ (256 : Int)) ∧ (List.length y1f3_ + List.length [Body.mk (Body.Id (Subtype.val A4_)) (Body.Shape (Subtype.val A4_)) A5_ (Body.Drive (Subtype.val A4_)) (Body.Mass (Subtype.val A4_)) (Body.Bounce (Subtype.val A4_)) (Body.Rub (Subtype.val A4_)) (Body.Quiet (Subtype.val A4_))]) * (96 : Nat) ≤ room ∧ ((0 : Int) ≤ y1f1_ + A3_ + (1 : Int) + (1 : Int) + (1 : Int) + (1 : Int) ∧ y1f1_ + A3_ + (1 : Int) + (1 : Int) + (1 : Int) + (1 : Int) + (1 : Int) ≤ (1000000000000 : Int) ∧ BytesOk y1f0_ ∧ (1 : Int) ≤ (3 : Int)) ∧ Holds (Prod.fst y1 = b ∧ (0 : Int) ≤ w_ A8_ ∧ w_ A8_ ≤ g_rdPick b (p + (1 : Int)) (7 : Int) % (7 : Int) ∧ (0 : Int) ≤ y1f1_ + A3_ + (1 : Int) + (1 : Int) + (1 : Int) + (1 : Int) + (1 : Int) ∧ y1f1_ + A3_ + (1 : Int) + (1 : Int) + (1 : Int) + (1 : Int) + (1 : Int) + (20 : Int) * w_ A8_ ≤ p + (1 : Int) + (1 : Int) + (1 : Int) + (20 : Int) * A6_ ∧ (0 : Int) ≤ w_ A7_ ∧ w_ A7_ + (3 : Int) * w_ A8_ ≤ g_rdPick b p (3 : Int) % (3 : Int) + (3 : Int) * A6_ ∧ bodiesOk A2_ = true ∧ idsLtB (w_ A7_) A2_ ∧ (↑(List.length A2_) : Int) + w_ A8_ = g_rdPick b (p + (1 : Int)) (7 : Int) % (7 : Int) ∧ dGo y1f0_ (n_ A15_) (Prod.fst y1s1_ + A3_ + (1 : Int) + (1 : Int) + (1 : Int) + (1 : Int) + (1 : Int)) (w_ A7_) A2_ = dGo b (n_ A6_) A16_ A17_ []) ∧ n_ A15_ < n_ y1s5_) ((List.length y1f3_ + List.length [Subtype.val A4_]) * (96 : Nat) ≤ room ∧ ((0 : Int) ≤ y1f1_ + A3_ + (1 : Int) ∧ y1f1_ + A3_ + (1 : Int) + (1 : Int) ≤ (1000000000000 : Int) ∧ BytesOk y1f0_ ∧ (1 : Int) ≤ (3 : Int)) ∧ Holds (Prod.fst y1 = b ∧ (0 : Int) ≤ w_ A8_ ∧ w_ A8_ ≤ g_rdPick b (p + (1 : Int)) (7 : Int) % (7 : Int) ∧ (0 : Int) ≤ y1f1_ + A3_ + (1 : Int) + (1 : Int) ∧ y1f1_ + A3_ + (1 : Int) + (1 : Int) + (20 : Int) * w_ A8_ ≤ p + (1 : Int) + (1 : Int) + (1 : Int) + (20 : Int) * A6_ ∧ (0 : Int) ≤ w_ A10_ ∧ w_ A10_ + (3 : Int) * w_ A8_ ≤ g_rdPick b p (3 : Int) % (3 : Int) + (3 : Int) * A6_ ∧ bodiesOk A13_ = true ∧ idsLtB (w_ A10_) A13_ ∧ (↑(List.length A13_) : Int) + w_ A8_ = g_rdPick b (p + (1 : Int)) (7 : Int) % (7 : Int) ∧ dGo y1f0_ (n_ A15_) (Prod.fst y1s1_ + A3_ + (1 : Int) + (1 : Int)) (w_ A10_) A13_ = dGo b (n_ A6_) A16_ A17_ []) ∧ n_ A15_ < n_ y1s5_)) ((List.length y1f3_ + List.length [Subtype.val A4_]) * (96 : Nat) ≤ room ∧ ((0 : Int) ≤ y1f1_ + A3_ ∧ y1f1_ + A3_ + (1 : Int) ≤ (1000000000000 : Int) ∧ BytesOk y1f0_ ∧ (1 : Int) ≤ (3 : Int)) ∧ Holds (Prod.fst y1 = b ∧ (0 : Int) ≤ w_ A8_ ∧ w_ A8_ ≤ g_rdPick b (p + (1 : Int)) (7 : Int) % (7 : Int) ∧ (0 : Int) ≤ y1f1_ + A3_ + (1 : Int) ∧ y1f1_ + A3_ + (1 : Int) + (20 : Int) * w_ A8_ ≤ p + (1 : Int) + (1 : Int) + (1 : Int) + (20 : Int) * A6_ ∧ (0 : Int) ≤ w_ A11_ ∧ w_ A11_ + (3 : Int) * w_ A8_ ≤ g_rdPick b p (3 : Int) % (3 : Int) + (3 : Int) * A6_ ∧ bodiesOk A13_ = true ∧ idsLtB (w_ A11_) A13_ ∧ (↑(List.length A13_) : Int) + w_ A8_ = g_rdPick b (p + (1 : Int)) (7 : Int) % (7 : Int) ∧ dGo y1f0_ (n_ A15_) A14_ (w_ A11_) A13_ = dGo b (n_ A6_) A16_ A17_ []) ∧ n_ A15_ < n_ y1s5_)) (((0 : Int) ≤ y1f1_ ∧ y1f1_ + (1 : Int) ≤ (1000000000000 : Int) ∧ BytesOk y1f0_ ∧ (1 : Int) ≤ (4 : Int)) ∧ ifB (g_rdPick y1f0_ y1f1_ (4 : Int) % (4 : Int) == (0 : Int)) (((0 : Int) ≤ y1f1_ + (1 : Int) ∧ y1f1_ + (1 : Int) + (1 : Int) ≤ (1000000000000 : Int) ∧ BytesOk y1f0_ ∧ (1 : Nat) ≤ List.length [(0 : Int), (32 : Int)]) ∧ (bodiesOk y1f3_ = true ∧ (0 : Int) ≤ ii_ [(0 : Int), (32 : Int)] A9_ ∧ ii_ [(0 : Int), (32 : Int)] A9_ ≤ (2560 : Int)) ∧ ((0 : Nat) + List.length (stepF y1f3_ (ii_ [(0 : Int), (32 : Int)] A9_))) * (96 : Nat) ≤ room ∧ Q (SV.vec (2 : Nat)) [(false, Blk.vec Ty.byte y1f0_), (true, Blk.box [SV.vec (0 : Nat), s_ (Prod.fst y1s1_ + (1 : Int) + (1 : Int))]), (true, Blk.vec Ty.body ([] ++ stepF y1f3_ (ii_ [(0 : Int), (32 : Int)] A9_)))]) (Q (SV.vec (2 : Nat)) [(false, Blk.vec Ty.byte y1f0_), (true, Blk.box [SV.vec (0 : Nat), s_ (Prod.fst y1s1_ + (1 : Int))]), (true, Blk.vec Ty.body y1f3_)])))) := by kernel_rfl

theorem ok_l11Bodies : FsOk Tryz.prog 182 fs_l11Bodies := fsOk_of tt_ok (tabFs_cons ok_rdPick (tabFs_cons ok_rdOne (tabFs_cons ok_l11Body (tabFs_cons ok_specWithin (tabFs_cons ok_l9Step tabFs_nil))))) mixed Tryz.func182 (by kernel_rfl) (by kernel_rfl) (by
    intro args LL p r HH h hp
    unfold fs_l11Bodies at h
    dsimp only at h
    split at h
    case h_2 => cases h
    rename_i b p
    simp only [Option.some.injEq, Prod.mk.injEq] at h
    obtain ⟨rfl, rfl, rfl⟩ := h
    refine ⟨by simp [Form, stays], (L_l11Bodies), ?_⟩
    rw [vc_l11Bodies]
    try dsimp only
    obtain ⟨hp0, hp1, hby⟩ := hp _ rfl
    have k1 := pk_lt b (p + 1) (n := 7) (by omega)
    have k2 := pk_lt b p (n := 3) (by omega)
    simp only [pk] at k1 k2
    refine ⟨⟨hp0, by omega, hby, by omega⟩, ⟨by omega, by omega, hby, by omega⟩, ⟨by omega, by omega, hby, by omega⟩, ifB_of (fun c => ⟨⟨(by trivial), by omega, by omega, by omega, by omega, k2.1, by omega, (by trivial), ids_nil _, by omega, (by trivial)⟩, ?_⟩) (fun c => ⟨⟨(by trivial), k1.1, by omega, by omega, by omega, k2.1, by omega, (by trivial), ids_nil _, by omega, (by trivial)⟩, ?_⟩)⟩
    case' refine_1 =>
      have hd : dDraw b p = dEnd b (dGo b (12 : Int).toNat (p + 1 + 1 + 1) (g_rdPick b p 3 % 3) []) := by
        unfold dDraw
        rw [show (pk b (p + 1 + 1) 20 == 0) = true from c]
        rfl
      obtain ⟨n0, e0, n12⟩ : ∃ n0 : Int, n0 = 12 ∧ n0 ≤ 12 := ⟨12, rfl, by omega⟩
      rw [hd, ← e0]
      clear e0
    case' refine_2 =>
      have hd : dDraw b p = dEnd b (dGo b (g_rdPick b (p + 1) 7 % 7).toNat (p + 1 + 1 + 1) (g_rdPick b p 3 % 3) []) := by
        unfold dDraw
        rw [show (pk b (p + 1 + 1) 20 == 0) = false from c]
        rfl
      have n12 : g_rdPick b (p + 1) 7 % 7 ≤ 12 := by omega
      rw [hd]
      generalize g_rdPick b (p + 1) 7 % 7 = n0 at *
    all_goals
      clear hd c
      generalize g_rdPick b p 3 % 3 = id0 at *
      rintro ⟨b', p', u, xs, id, n⟩ ⟨h⟩
      dsimp only at h ⊢
      obtain ⟨rfl, i1, i2, i3, i4, i5, i6, i7, i8, i9, i10⟩ := h
      refine ifB_of (fun c => ?_) (fun c => ?_)
      · have c := of_decide_eq_true c
        refine ⟨⟨i3, by omega, hby⟩, ifB_of (fun c1 => ⟨⟨by omega, by omega, hby, by omega⟩, ifB_of (fun c2 => ?_) (fun c2 => ?_)⟩) (fun c1 => ?_)⟩
        · have hl : 0 < (xs.length : Int) := of_decide_eq_true c1
          have hx := pk_lt b' (p' + cn b' p' id + 1) (n := xs.length) (by omega)
          have e := dGo_next (b := b') (p := p') (id := id) (topP := p + 1 + 1 + 1 + 20 * n0) (topI := id0 + 3 * n0) (show dStep b' p' id xs = (p' + cn b' p' id + 1 + 1 + 1 + 1 + 1, W (W (id + 1) + pk b' (p' + cn b' p' id + 1 + 1 + 1 + 1) 3), xs ++ [{ bd b' p' id with At := nearP b' (p' + cn b' p' id + 1 + 1) (Ty.ix .body xs (pk b' (p' + cn b' p' id + 1) xs.length).toNat).At }]) by unfold dStep; dsimp only; rw [c1, show decide (pk b' (p' + cn b' p' id) 3 > 0) = true from c2]; rfl) c i2 n12 i3 i4 i5 i6 (by omega) i7 i8 i9 i10
          exact ⟨⟨by omega, by omega, hby, by omega⟩, hx, ⟨by omega, by omega, hby, by omega⟩, ⟨by omega, by omega, hby, by omega⟩, by simp only [room, List.length_singleton]; omega, ⟨by omega, by omega, hby, by omega⟩, ⟨e.1⟩, e.2⟩
        · have e := dGo_next (b := b') (p := p') (id := id) (topP := p + 1 + 1 + 1 + 20 * n0) (topI := id0 + 3 * n0) (show dStep b' p' id xs = (p' + cn b' p' id + 1 + 1, W (W (id + 1) + pk b' (p' + cn b' p' id + 1) 3), xs ++ [bd b' p' id]) by unfold dStep; dsimp only; rw [c1, show decide (pk b' (p' + cn b' p' id) 3 > 0) = false from c2]; rfl) c i2 n12 i3 i4 i5 i6 (by omega) i7 i8 i9 i10
          exact ⟨by simp only [room, List.length_singleton]; omega, ⟨by omega, by omega, hby, by omega⟩, ⟨e.1⟩, e.2⟩
        · have e := dGo_next (b := b') (p := p') (id := id) (topP := p + 1 + 1 + 1 + 20 * n0) (topI := id0 + 3 * n0) (show dStep b' p' id xs = (p' + cn b' p' id + 1, W (W (id + 1) + pk b' (p' + cn b' p' id) 3), xs ++ [bd b' p' id]) by unfold dStep; dsimp only; rw [c1]; rfl) c i2 n12 i3 i4 i5 i6 (by omega) i7 i8 i9 i10
          exact ⟨by simp only [room, List.length_singleton]; omega, ⟨by omega, by omega, hby, by omega⟩, ⟨e.1⟩, e.2⟩
      · have c := of_decide_eq_false c
        have hn : n.toNat = 0 := by omega
        rw [hn] at i10
        have i10 : (p', xs) = _ := i10
        rw [← i10]
        have hle := bodiesOk_len i7
        refine ⟨⟨i3, by omega, hby, by omega⟩, ifB_of (fun c1 => ?_) (fun c1 => ?_)⟩
        · have hlf := length_stepF xs (Ty.ix .int ([0, 32] : List Int) (g_rdPick b' (p' + 1) 2 % 2).toNat)
          refine ⟨⟨by omega, by omega, hby, by simp⟩, ⟨i7, (ix032 _).1, (ix032 _).2⟩, by simp only [room, length_stepF]; omega, ?_⟩
          have hd : dEnd b' (p', xs) = (p' + 1 + 1, stepF xs (Ty.ix .int ([0, 32] : List Int) (g_rdPick b' (p' + 1) 2 % 2).toNat)) := by
            unfold dEnd
            rw [show (pk b' (p', xs).1 4 == 0) = true from c1]
            rfl
          rw [hd]
          exact ⟨(by trivial), (by trivial)⟩
        · have hd : dEnd b' (p', xs) = (p' + 1, xs) := by
            unfold dEnd
            rw [show (pk b' (p', xs).1 4 == 0) = false from c1]
            rfl
          rw [hd]
          exact ⟨(by trivial), (by trivial)⟩)

def bodiesP (xs : List Body) : Prop := xs.length ≤ 13
instance : Nonempty {x : List Body // bodiesP x} := ⟨⟨[], by simp [bodiesP]⟩⟩
noncomputable def g_l11AnyBodies (b : List Int) (p : Int) : ({x : List Body // bodiesP x}) × Nat := someAns tt (look [(105, fs_rdPick), (182, fs_l11Bodies), (183, fs_l11AnyBody)]) Tryz.f103 [.ptr 1 0 0] [(false, .vec .byte b), (true, .box [.vec 0, .int .i64 p])] (fun x : ({x : List Body // bodiesP x}) × Nat => (.vec 2 : SV)) (fun x : ({x : List Body // bodiesP x}) × Nat => ([(false, .vec .byte b), (true, .box [.vec 0, .int .i64 (p + ((x.2 % 451 : Nat) : Int))]), (true, .vec .body (x.1.1))] : List Ent))
noncomputable def fs_l11AnyBodies : Fs := ⟨[], fun args H => match args, H with
  | [.ptr 1 0 0], [(false, .vec .byte b), (true, .box [.vec 0, .int .i64 p])] => some ((some (0 ≤ p ∧ p + 450 ≤ 1000000000000 ∧ BytesOk b)), .vec 2, [(false, .vec .byte b), (true, .box [.vec 0, .int .i64 (p + (((g_l11AnyBodies b p).2 % 451 : Nat) : Int))]), (true, .vec .body ((g_l11AnyBodies b p).1.1))])
  | _, _ => none⟩

theorem vc_l11AnyBodies (b : List Int) (p : Int) (Q : SV → List Ent → Prop) :
    fnVC tt (look [(105, fs_rdPick), (182, fs_l11Bodies), (183, fs_l11AnyBody)]) L0 Tryz.f103 [.ptr 1 0 0] [(false, .vec .byte b), (true, .box [.vec 0, .int .i64 p])] Q =
    (((0 : Int) ≤ p ∧ p + (400 : Int) ≤ (1000000000000 : Int) ∧ BytesOk b) ∧ ifB ((↑(List.length (Prod.snd (dDraw b p))) : Int) == (0 : Int)) (Q (SV.vec (2 : Nat)) [(false, Blk.vec Ty.byte b), (true, Blk.box [SV.vec (0 : Nat), SV.int IntKind.i64 (Prod.fst (dDraw b p))]), (true, Blk.vec Ty.body (Prod.snd (dDraw b p)))]) (((0 : Int) ≤ Prod.fst (dDraw b p) ∧ Prod.fst (dDraw b p) + (1 : Int) ≤ (1000000000000 : Int) ∧ BytesOk b ∧ (1 : Int) ≤ (↑(List.length (Prod.snd (dDraw b p))) : Int)) ∧ ((0 : Int) ≤ Prod.fst (dDraw b p) + (1 : Int) ∧ Prod.fst (dDraw b p) + (1 : Int) + (1 : Int) ≤ (1000000000000 : Int) ∧ BytesOk b ∧ (1 : Int) ≤ (20 : Int)) ∧ ifB (g_rdPick b (Prod.fst (dDraw b p) + (1 : Int)) (20 : Int) % (20 : Int) == (0 : Int)) (((0 : Int) ≤ Prod.fst (dDraw b p) + (1 : Int) + (1 : Int) ∧ Prod.fst (dDraw b p) + (1 : Int) + (1 : Int) + (24 : Int) ≤ (1000000000000 : Int) ∧ BytesOk b) ∧ ((0 : Int) ≤ g_rdPick b (Prod.fst (dDraw b p)) (↑(List.length (Prod.snd (dDraw b p))) : Int) % (↑(List.length (Prod.snd (dDraw b p))) : Int) ∧ g_rdPick b (Prod.fst (dDraw b p)) (↑(List.length (Prod.snd (dDraw b p))) : Int) % (↑(List.length (Prod.snd (dDraw b p))) : Int) < (↑(List.length (Prod.snd (dDraw b p))) : Int)) ∧ Q (SV.vec (2 : Nat)) [(false, Blk.vec Ty.byte b), (true, Blk.box [SV.vec (0 : Nat), SV.int IntKind.i64 (Prod.fst (dDraw b p) + (1 : Int) + (1 : Int) + (↑(Prod.snd (g_l11AnyBody b (Prod.fst (dDraw b p) + (1 : Int) + (1 : Int))) % (25 : Nat)) : Int))]), (true, Blk.vec Ty.body (List.set (Prod.snd (dDraw b p)) (Int.toNat (g_rdPick b (Prod.fst (dDraw b p)) (↑(List.length (Prod.snd (dDraw b p))) : Int) % (↑(List.length (Prod.snd (dDraw b p))) : Int))) (Prod.fst (g_l11AnyBody b (Prod.fst (dDraw b p) + (1 : Int) + (1 : Int))))))]) (ifB (g_rdPick b (Prod.fst (dDraw b p) + (1 : Int)) (20 : Int) % (20 : Int) == (1 : Int)) (((0 : Int) ≤ (0 : Int) ∧ (0 : Int) < (↑(List.length (Prod.snd (dDraw b p))) : Int)) ∧ (List.length (Prod.snd (dDraw b p)) + List.length [Ty.ix Ty.body (Prod.snd (dDraw b p)) (Int.toNat (0 : Int))]) * (96 : Nat) ≤ room ∧ Q (SV.vec (2 : Nat)) [(false, Blk.vec Ty.byte b), (true, Blk.box [SV.vec (0 : Nat), SV.int IntKind.i64 (Prod.fst (dDraw b p) + (1 : Int) + (1 : Int))]), (true, Blk.vec Ty.body (Prod.snd (dDraw b p) ++ [Ty.ix Ty.body (Prod.snd (dDraw b p)) (Int.toNat (0 : Int))]))]) (Q (SV.vec (2 : Nat)) [(false, Blk.vec Ty.byte b), (true, Blk.box [SV.vec (0 : Nat), SV.int IntKind.i64 (Prod.fst (dDraw b p) + (1 : Int) + (1 : Int))]), (true, Blk.vec Ty.body (Prod.snd (dDraw b p)))])))) := by kernel_rfl

theorem ok_l11AnyBodies : FsOk Tryz.prog 103 fs_l11AnyBodies := fsOk_of tt_ok (tabFs_cons ok_rdPick (tabFs_cons ok_l11Bodies (tabFs_cons ok_l11AnyBody tabFs_nil))) mixed Tryz.func103 (by kernel_rfl) (by kernel_rfl) (by
    intro args LL p0 r HH h hp
    unfold fs_l11AnyBodies at h
    dsimp only at h
    split at h
    case h_2 => cases h
    rename_i b p
    simp only [Option.some.injEq, Prod.mk.injEq] at h
    obtain ⟨rfl, rfl, rfl⟩ := h
    refine ⟨by simp [Form, stays], L0, ?_⟩
    obtain ⟨hp0, hp1, hby⟩ := hp _ rfl
    refine someAns_ok (R := (fun x : ({x : List Body // bodiesP x}) × Nat => (.vec 2 : SV))) (HH := (fun x : ({x : List Body // bodiesP x}) × Nat => ([(false, .vec .byte b), (true, .box [.vec 0, .int .i64 (p + ((x.2 % 451 : Nat) : Int))]), (true, .vec .body (x.1.1))] : List Ent))) (by kernel_rfl) ?_
    have fin : ∀ (z : List Body) (p' : Int), bodiesP z → p ≤ p' → p' ≤ p + 450 → ∃ x : ({x : List Body // bodiesP x}) × Nat, ((.vec 2 : SV) : SV) = (fun x : ({x : List Body // bodiesP x}) × Nat => (.vec 2 : SV)) x ∧ (([(false, .vec .byte b), (true, .box [.vec 0, .int .i64 p']), (true, .vec .body (z))] : List Ent) : List Ent) = (fun x : ({x : List Body // bodiesP x}) × Nat => ([(false, .vec .byte b), (true, .box [.vec 0, .int .i64 (p + ((x.2 % 451 : Nat) : Int))]), (true, .vec .body (x.1.1))] : List Ent)) x := fun z p' hpred h1 h2 => ⟨(⟨z, hpred⟩, (p' - p).toNat), rfl, by
      have : p + (((p' - p).toNat % 451 : Nat) : Int) = p' := by omega
      dsimp only
      rw [this]⟩
    rw [vc_l11AnyBodies]
    try dsimp only
    try dsimp only at fin
    obtain ⟨d1, d2, d3⟩ := dDraw_spec (b := b) (p := p)
    have dl := bodiesOk_len d3
    generalize dDraw b p = d at *
    obtain ⟨q, xs⟩ := d
    dsimp only at d1 d2 d3 dl ⊢
    refine ⟨⟨hp0, by omega, hby⟩, ifB_of (fun c => ?_) (fun c => ?_)⟩
    · exact fin _ _ (by simp only [bodiesP]; omega) (by omega) (by omega)
    · have hl : 0 < (xs.length : Int) := by
        have : ¬ (xs.length : Int) = 0 := by simpa using c
        omega
      have hk := pk_lt b q (n := xs.length) (by omega)
      simp only [pk] at hk
      refine ⟨⟨by omega, by omega, hby, by omega⟩, ⟨by omega, by omega, hby, by omega⟩, ifB_of (fun _ => ⟨⟨by omega, by omega, hby⟩, hk, fin _ _ (by simp only [bodiesP, List.length_set]; omega) (by omega) (by omega)⟩) (fun _ => ifB_of (fun _ => ?_) (fun _ => ?_))⟩
      · exact ⟨⟨by omega, hl⟩, by simp only [room, List.length_cons, List.length_nil]; omega, fin _ _ (by simp only [bodiesP, List.length_append, List.length_cons, List.length_nil]; omega) (by omega) (by omega)⟩
      · exact fin _ _ (by simp only [bodiesP]; omega) (by omega) (by omega))

noncomputable def fs_specContacts : Fs := ⟨[], fun args H => match args, H with
  | [.vec 0], [(false, .vec .body xs)] => some ((some (xs.length ≤ 1048576)), .vec 1, [(false, .vec .body xs), (true, .vec .contact (contactsOf xs))])
  | _, _ => none⟩

theorem vc_specContacts (xs : List Body) (Q : SV → List Ent → Prop) :
    fnVC tt (look [(37, fs_specBodiesOk), (160, fs_l7Contacts)]) L0 Tryz.f104 [.vec 0] [(false, .vec .body xs)] Q =
    (List.length xs ≤ (4611686018427387904 : Nat) ∧ ifB (!bodiesOk xs) (Q (SV.vec (1 : Nat)) [(false, Blk.vec Ty.body xs), (true, Blk.vec Ty.contact [])]) (bodiesOk xs = true ∧ Q (SV.vec (1 : Nat)) [(false, Blk.vec Ty.body xs), (true, Blk.vec Ty.contact (contactsF xs))])) := by kernel_rfl

theorem ok_specContacts : FsOk Tryz.prog 104 fs_specContacts := fsOk_of tt_ok (tabFs_cons ok_specBodiesOk (tabFs_cons ok_l7Contacts tabFs_nil)) mixed Tryz.func104 (by kernel_rfl) (by kernel_rfl) (by
    intro args LL p r HH h hp
    unfold fs_specContacts at h
    dsimp only at h
    split at h
    case h_2 => cases h
    rename_i xs
    simp only [Option.some.injEq, Prod.mk.injEq] at h
    obtain ⟨rfl, rfl, rfl⟩ := h
    refine ⟨by simp [Form, stays], L0, ?_⟩
    rw [vc_specContacts]
    try dsimp only
    have hb := hp _ rfl
    refine ⟨by omega, ifB_of (fun c => ?_) (fun c => ?_)⟩
    · simp [contactsOf, not_true c]
    · simp only [contactsOf, not_false c, cond_true]
      exact ⟨(by trivial), (by trivial), (by trivial)⟩)

def pushD (z : List Body × List Contact) : Prop := z.1.length ≤ 13 ∧ z.2.length ≤ 145
instance : Nonempty {x : List Body × List Contact // pushD x} := ⟨⟨([], []), by simp [pushD]⟩⟩
noncomputable def g_DrawPushAll (b : List Int) : {x : List Body × List Contact // pushD x} := someAns tt (look [(102, fs_l1Open), (103, fs_l11AnyBodies), (104, fs_specContacts), (105, fs_rdPick), (106, fs_l11Hit)]) Tryz.f33 [.vec 0] [(false, .vec .byte b)] (fun x : {x : List Body × List Contact // pushD x} => (.tup [.vec 1, .vec 2] : SV)) (fun x : {x : List Body × List Contact // pushD x} => ([(false, .vec .byte b), (true, .vec .body ((x.1).1)), (true, .vec .contact ((x.1).2))] : List Ent))
noncomputable def fs_DrawPushAll : Fs := ⟨[], fun args H => match args, H with
  | [.vec 0], [(false, .vec .byte b)] => some ((some (BytesOk b)), .tup [.vec 1, .vec 2], [(false, .vec .byte b), (true, .vec .body (((g_DrawPushAll b).1).1)), (true, .vec .contact (((g_DrawPushAll b).1).2))])
  | _, _ => none⟩

theorem vc_DrawPushAll (b : List Int) (Q : SV → List Ent → Prop) :
    fnVC tt (look [(102, fs_l1Open), (103, fs_l11AnyBodies), (104, fs_specContacts), (105, fs_rdPick), (106, fs_l11Hit)]) L0 Tryz.f33 [.vec 0] [(false, .vec .byte b)] Q =
    (let vc_ := Blk.vec Ty.contact; let A1_ := (List.take (min (List.length b) (2000 : Nat)) (List.drop (0 : Nat) b)); let A3_ := (Subtype.val (Prod.fst (g_l11AnyBodies A1_ (0 : Int)))); let A2_ := (↑(Prod.snd (g_l11AnyBodies A1_ (0 : Int)) % (451 : Nat)) : Int); ((0 : Int) ≤ (0 : Int) ∧ (0 : Int) + (450 : Int) ≤ (1000000000000 : Int) ∧ BytesOk A1_) ∧ List.length A3_ ≤ (1048576 : Nat) ∧ ((0 : Int) ≤ (0 : Int) + A2_ ∧ (0 : Int) + A2_ + (1 : Int) ≤ (1000000000000 : Int) ∧ BytesOk A1_ ∧ (1 : Int) ≤ (12 : Int)) ∧ ifB (g_rdPick A1_ ((0 : Int) + A2_) (12 : Int) % (12 : Int) == (0 : Int)) (((0 : Int) ≤ (0 : Int) + A2_ + (1 : Int) ∧ (0 : Int) + A2_ + (1 : Int) + (1 : Int) ≤ (1000000000000 : Int) ∧ BytesOk A1_ ∧ (1 : Int) ≤ (3 : Int)) ∧ ((0 : Int) ≤ (0 : Int) + A2_ + (1 : Int) + (1 : Int) ∧ (0 : Int) + A2_ + (1 : Int) + (1 : Int) + (1 : Int) ≤ (1000000000000 : Int) ∧ BytesOk A1_ ∧ (1 : Int) ≤ (4 : Int)) ∧ ((0 : Int) ≤ (0 : Int) + A2_ + (1 : Int) + (1 : Int) + (1 : Int) ∧ (0 : Int) + A2_ + (1 : Int) + (1 : Int) + (1 : Int) + (6 : Int) ≤ (1000000000000 : Int) ∧ BytesOk A1_) ∧ (List.length (contactsOf A3_) + List.length [Contact.mk (IntKind.wrap IntKind.i64 (g_rdPick A1_ ((0 : Int) + A2_ + (1 : Int)) (3 : Int) % (3 : Int) - (1 : Int))) (g_rdPick A1_ ((0 : Int) + A2_ + (1 : Int) + (1 : Int)) (4 : Int) % (4 : Int)) (Subtype.val (Prod.fst (g_l11Hit A1_ ((0 : Int) + A2_ + (1 : Int) + (1 : Int) + (1 : Int)))))]) * (40 : Nat) ≤ room ∧ Q (SV.tup [SV.vec (1 : Nat), SV.vec (2 : Nat)]) [(false, Blk.vec Ty.byte b), (true, Blk.vec Ty.body A3_), (true, vc_ (contactsOf A3_ ++ [Contact.mk (IntKind.wrap IntKind.i64 (g_rdPick A1_ ((0 : Int) + A2_ + (1 : Int)) (3 : Int) % (3 : Int) - (1 : Int))) (g_rdPick A1_ ((0 : Int) + A2_ + (1 : Int) + (1 : Int)) (4 : Int) % (4 : Int)) (Subtype.val (Prod.fst (g_l11Hit A1_ ((0 : Int) + A2_ + (1 : Int) + (1 : Int) + (1 : Int)))))]))]) (ifB (g_rdPick A1_ ((0 : Int) + A2_) (12 : Int) % (12 : Int) == (1 : Int)) (ifB (decide ((↑(List.length A3_) : Int) > (1 : Int))) (((0 : Int) ≤ (0 : Int) + A2_ + (1 : Int) ∧ (0 : Int) + A2_ + (1 : Int) + (6 : Int) ≤ (1000000000000 : Int) ∧ BytesOk A1_) ∧ (List.length (contactsOf A3_) + List.length [Contact.mk (1 : Int) (0 : Int) (Subtype.val (Prod.fst (g_l11Hit A1_ ((0 : Int) + A2_ + (1 : Int)))))]) * (40 : Nat) ≤ room ∧ Q (SV.tup [SV.vec (1 : Nat), SV.vec (2 : Nat)]) [(false, Blk.vec Ty.byte b), (true, Blk.vec Ty.body A3_), (true, vc_ (contactsOf A3_ ++ [Contact.mk (1 : Int) (0 : Int) (Subtype.val (Prod.fst (g_l11Hit A1_ ((0 : Int) + A2_ + (1 : Int)))))]))]) (Q (SV.tup [SV.vec (1 : Nat), SV.vec (2 : Nat)]) [(false, Blk.vec Ty.byte b), (true, Blk.vec Ty.body A3_), (true, vc_ (contactsOf A3_))])) (Q (SV.tup [SV.vec (1 : Nat), SV.vec (2 : Nat)]) [(false, Blk.vec Ty.byte b), (true, Blk.vec Ty.body A3_), (true, vc_ (contactsOf A3_))]))) := by kernel_rfl

theorem ok_DrawPushAll : FsOk Tryz.prog 33 fs_DrawPushAll := fsOk_of tt_ok (tabFs_cons ok_l1Open (tabFs_cons ok_l11AnyBodies (tabFs_cons ok_specContacts (tabFs_cons ok_rdPick (tabFs_cons ok_l11Hit tabFs_nil))))) mixed Tryz.func33 (by kernel_rfl) (by kernel_rfl) (by
    intro args LL p0 r HH h hp
    unfold fs_DrawPushAll at h
    dsimp only at h
    split at h
    case h_2 => cases h
    rename_i b
    simp only [Option.some.injEq, Prod.mk.injEq] at h
    obtain ⟨rfl, rfl, rfl⟩ := h
    refine ⟨by simp [Form, stays], L0, ?_⟩
    have hby := hp _ rfl
    refine someAns_ok (R := (fun x : {x : List Body × List Contact // pushD x} => (.tup [.vec 1, .vec 2] : SV))) (HH := (fun x : {x : List Body × List Contact // pushD x} => ([(false, .vec .byte b), (true, .vec .body ((x.1).1)), (true, .vec .contact ((x.1).2))] : List Ent))) (by kernel_rfl) ?_
    have fin : ∀ (z0 : List Body) (z1 : List Contact), pushD (z0, z1) → ∃ x : {x : List Body × List Contact // pushD x}, ((.tup [.vec 1, .vec 2] : SV) : SV) = (fun x : {x : List Body × List Contact // pushD x} => (.tup [.vec 1, .vec 2] : SV)) x ∧ (([(false, .vec .byte b), (true, .vec .body (((z0, z1)).1)), (true, .vec .contact (((z0, z1)).2))] : List Ent) : List Ent) = (fun x : {x : List Body × List Contact // pushD x} => ([(false, .vec .byte b), (true, .vec .body ((x.1).1)), (true, .vec .contact ((x.1).2))] : List Ent)) x := fun z0 z1 hpred => ⟨⟨(z0, z1), hpred⟩, rfl, rfl⟩
    rw [vc_DrawPushAll]
    try dsimp only
    try dsimp only at fin
    have hc := hby.part 0 (min b.length 2000)
    generalize List.take (min b.length 2000) (List.drop 0 b) = c at *
    have h1 := (g_l11AnyBodies c 0).1.2
    have h2 := length_contactsOf (g_l11AnyBodies c 0).1.1
    simp only [bodiesP] at h1
    generalize g_l11AnyBodies c 0 = z at *
    repeat' (first | refine ifB_of (fun _ => ?_) (fun _ => ?_) | refine pre_of ?_ (fun _ => ?_))
    all_goals first
      | omega
      | exact hc
      | (refine fin _ _ ?_; simp only [pushD, List.length_append, List.length_cons, List.length_nil]; omega)
      | (simp only [room, List.length_cons, List.length_nil]; omega))

noncomputable def g_DrawApart (b : List Int) : {x : List Body × List Contact // pushD x} := someAns tt (look [(33, fs_DrawPushAll)]) Tryz.f62 [.vec 0] [(false, .vec .byte b)] (fun x : {x : List Body × List Contact // pushD x} => (.tup [.vec 1, .vec 2] : SV)) (fun x : {x : List Body × List Contact // pushD x} => ([(false, .vec .byte b), (true, .vec .body ((x.1).1)), (true, .vec .contact ((x.1).2))] : List Ent))
noncomputable def fs_DrawApart : Fs := ⟨[], fun args H => match args, H with
  | [.vec 0], [(false, .vec .byte b)] => some ((some (BytesOk b)), .tup [.vec 1, .vec 2], [(false, .vec .byte b), (true, .vec .body (((g_DrawApart b).1).1)), (true, .vec .contact (((g_DrawApart b).1).2))])
  | _, _ => none⟩

theorem vc_DrawApart (b : List Int) (Q : SV → List Ent → Prop) :
    fnVC tt (look [(33, fs_DrawPushAll)]) L0 Tryz.f62 [.vec 0] [(false, .vec .byte b)] Q =
    (BytesOk b ∧ Q (SV.tup [SV.vec (1 : Nat), SV.vec (2 : Nat)]) [(false, Blk.vec Ty.byte b), (true, Blk.vec Ty.body (Prod.fst (Subtype.val (g_DrawPushAll b)))), (true, Blk.vec Ty.contact (Prod.snd (Subtype.val (g_DrawPushAll b))))]) := by kernel_rfl

theorem ok_DrawApart : FsOk Tryz.prog 62 fs_DrawApart := fsOk_of tt_ok (tabFs_cons ok_DrawPushAll tabFs_nil) mixed Tryz.func62 (by kernel_rfl) (by kernel_rfl) (by
    intro args LL p0 r HH h hp
    unfold fs_DrawApart at h
    dsimp only at h
    split at h
    case h_2 => cases h
    rename_i b
    simp only [Option.some.injEq, Prod.mk.injEq] at h
    obtain ⟨rfl, rfl, rfl⟩ := h
    refine ⟨by simp [Form, stays], L0, ?_⟩
    have hby := hp _ rfl
    refine someAns_ok (R := (fun x : {x : List Body × List Contact // pushD x} => (.tup [.vec 1, .vec 2] : SV))) (HH := (fun x : {x : List Body × List Contact // pushD x} => ([(false, .vec .byte b), (true, .vec .body ((x.1).1)), (true, .vec .contact ((x.1).2))] : List Ent))) (by kernel_rfl) ?_
    have fin : ∀ (z0 : List Body) (z1 : List Contact), pushD (z0, z1) → ∃ x : {x : List Body × List Contact // pushD x}, ((.tup [.vec 1, .vec 2] : SV) : SV) = (fun x : {x : List Body × List Contact // pushD x} => (.tup [.vec 1, .vec 2] : SV)) x ∧ (([(false, .vec .byte b), (true, .vec .body (((z0, z1)).1)), (true, .vec .contact (((z0, z1)).2))] : List Ent) : List Ent) = (fun x : {x : List Body × List Contact // pushD x} => ([(false, .vec .byte b), (true, .vec .body ((x.1).1)), (true, .vec .contact ((x.1).2))] : List Ent)) x := fun z0 z1 hpred => ⟨⟨(z0, z1), hpred⟩, rfl, rfl⟩
    rw [vc_DrawApart]
    try dsimp only
    try dsimp only at fin
    repeat' (first | refine ifB_of (fun _ => ?_) (fun _ => ?_) | refine pre_of ?_ (fun _ => ?_))
    all_goals first
      | (refine fin _ _ ?_; exact (g_DrawPushAll _).2)
      | omega
      | exact hby
      | exact hby.part _ _
      | exact Nat.le_add_left _ _
      | exact ⟨by omega, by omega, hby.part _ _⟩
      | exact ⟨by omega, by omega, hby.part _ _, by omega⟩
      | exact ⟨by omega, by omega, hby.part _ _, Nat.le_add_left _ _⟩)

def worldD (z : Int × Int × List Body × List Pair) : Prop := z.2.2.1.length ≤ 13 ∧ z.2.2.2.length ≤ 145
instance : Nonempty {x : Int × Int × List Body × List Pair // worldD x} := ⟨⟨(0, 0, [], []), by simp [worldD]⟩⟩
end
end Go.Proofs.YtdhbkcaaijgocaaGreat.Sym

namespace Go.Proofs.YtdhbkcaaijgocaaGreat.Sym
open Go
set_option linter.unusedVariables false
set_option linter.unusedSimpArgs false
set_option maxRecDepth 100000

/-- Not of a contact. -/
def offC (k : Nat) (c : Contact) : Prop := k ≠ c.A.toNat ∧ k ≠ c.B.toNat
theorem pushOne_off {xs : List Body} {c : Contact} {z : Bool} {k : Nat} (h : offC k c) : Ty.ix .body (pushOne xs c z) k = Ty.ix .body xs k := by
  unfold pushOne
  dsimp only
  split
  · rw [ix_set_ne (T := .body) (fun e => h.2 e.symm), ix_set_ne (T := .body) (fun e => h.1 e.symm)]
  · rfl
theorem pushRound_off {z : Bool} {k : Nat} : ∀ {cs : List Contact} {xs : List Body}, (∀ c, c ∈ cs → offC k c) → Ty.ix .body (pushRound xs z cs) k = Ty.ix .body xs k
  | [], _, _ => rfl
  | c :: r, xs, h => (pushRound_off (cs := r) fun d hd => h d (List.mem_cons_of_mem _ hd)).trans (pushOne_off (h c List.mem_cons_self))
theorem pushAllF_off {k : Nat} {cs : List Contact} {xs : List Body} (h : ∀ c, c ∈ cs → offC k c) : Ty.ix .body (pushAllF xs cs) k = Ty.ix .body xs k := by
  unfold pushAllF
  rw [pushRound_off h, pushRound_off h, pushRound_off h, pushRound_off h]
theorem apartOne_off {xs : List Body} {c : Contact} {k : Nat} (h : offC k c) : Ty.ix .body (apartOne xs c) k = Ty.ix .body xs k := by
  have e1 : ∀ (v : Body) (ys : List Body), Ty.ix .body (ys.set c.A.toNat v) k = Ty.ix .body ys k := fun v ys => ix_set_ne (T := .body) (fun e => h.1 e.symm)
  have e2 : ∀ (v : Body) (ys : List Body), Ty.ix .body (ys.set c.B.toNat v) k = Ty.ix .body ys k := fun v ys => ix_set_ne (T := .body) (fun e => h.2 e.symm)
  unfold apartOne
  dsimp only
  split
  · rfl
  · split
    · split
      · rfl
      · rw [e1]
    · rw [e2]
      split
      · rfl
      · rw [e1]
theorem apartF_off {k : Nat} : ∀ {cs : List Contact} {xs : List Body}, (∀ c, c ∈ cs → offC k c) → Ty.ix .body (apartF xs cs) k = Ty.ix .body xs k
  | [], _, _ => rfl
  | c :: r, xs, h => (apartF_off (cs := r) fun d hd => h d (List.mem_cons_of_mem _ hd)).trans (apartOne_off (h c List.mem_cons_self))
theorem pushB_fix {b : Body} {p : Vec} (h : b.Mass = 0) : pushB b p = b := by simp [pushB, h]
theorem pushOne_fix {xs : List Body} {c : Contact} {z : Bool} {k : Nat} (hk : k < xs.length) (hne : c.A.toNat ≠ c.B.toNat) (h : (Ty.ix .body xs k).Mass = 0) : Ty.ix .body (pushOne xs c z) k = Ty.ix .body xs k := by
  unfold pushOne
  dsimp only
  split
  · by_cases e2 : c.B.toNat = k
    · rw [e2, ix_set_self (T := .body) (by simpa using hk)]
      exact pushB_fix h
    · rw [ix_set_ne (T := .body) e2]
      by_cases e1 : c.A.toNat = k
      · rw [e1, ix_set_self (T := .body) hk]
        exact pushB_fix h
      · rw [ix_set_ne (T := .body) e1]
  · rfl
theorem pushRound_fix {z : Bool} {k : Nat} : ∀ {cs : List Contact} {xs : List Body}, (∀ c, c ∈ cs → ctOk xs.length c) → k < xs.length → (Ty.ix .body xs k).Mass = 0 → Ty.ix .body (pushRound xs z cs) k = Ty.ix .body xs k
  | [], _, _, _, _ => rfl
  | c :: r, xs, hc, hk, h => by
    have e := pushOne_fix (z := z) hk (ct_ne (hc c List.mem_cons_self)) h
    refine (pushRound_fix (cs := r) (xs := pushOne xs c z) (fun d hd => by rw [length_pushOne]; exact hc d (List.mem_cons_of_mem _ hd)) (by rw [length_pushOne]; exact hk) (by rw [e]; exact h)).trans e
theorem pushAllF_fix {k : Nat} {cs : List Contact} {xs : List Body} (hc : ∀ c, c ∈ cs → ctOk xs.length c) (hk : k < xs.length) (h : (Ty.ix .body xs k).Mass = 0) : Ty.ix .body (pushAllF xs cs) k = Ty.ix .body xs k := by
  unfold pushAllF
  have e1 := pushRound_fix (z := true) hc hk h
  have e2 := pushRound_fix (z := false) (xs := pushRound xs true cs) (cs := cs) (by rw [length_pushRound]; exact hc) (by rw [length_pushRound]; exact hk) (by rw [e1]; exact h)
  have e3 := pushRound_fix (z := false) (xs := pushRound (pushRound xs true cs) false cs) (cs := cs) (by rw [length_pushRound, length_pushRound]; exact hc) (by rw [length_pushRound, length_pushRound]; exact hk) (by rw [e2, e1]; exact h)
  have e4 := pushRound_fix (z := false) (xs := pushRound (pushRound (pushRound xs true cs) false cs) false cs) (cs := cs) (by rw [length_pushRound, length_pushRound, length_pushRound]; exact hc) (by rw [length_pushRound, length_pushRound, length_pushRound]; exact hk) (by rw [e3, e2, e1]; exact h)
  rw [e4, e3, e2, e1]
theorem apartOne_fix {xs : List Body} {c : Contact} {k : Nat} (hk : k < xs.length) (hne : c.A.toNat ≠ c.B.toNat) (h : (Ty.ix .body xs k).Mass = 0) : Ty.ix .body (apartOne xs c) k = Ty.ix .body xs k := by
  unfold apartOne
  dsimp only
  split
  · rfl
  · by_cases e2 : c.B.toNat = k
    · have e1 : ¬ c.A.toNat = k := fun e => hne (e.trans e2.symm)
      rw [e2, if_pos h]
      split
      · rfl
      · rw [ix_set_ne (T := .body) e1]
    · have q : ∀ (v : Body) (ys : List Body), Ty.ix .body (ys.set c.B.toNat v) k = Ty.ix .body ys k := fun v ys => ix_set_ne (T := .body) e2
      have q2 : Ty.ix .body (if (Ty.ix .body xs c.A.toNat).Mass = 0 then xs else xs.set c.A.toNat (moveB (Ty.ix .body xs c.A.toNat) (scaled (oppV c.Hit.Way) (shareF (Ty.ix .body xs c.A.toNat) (Ty.ix .body xs c.B.toNat) (W ((W (c.Hit.Deep - 64)).tdiv 4)))))) k = Ty.ix .body xs k := by
        by_cases e1 : c.A.toNat = k
        · rw [e1, if_pos h]
        · split
          · rfl
          · rw [ix_set_ne (T := .body) e1]
      split
      · exact q2
      · rw [q]
        exact q2
theorem apartF_fix {k : Nat} : ∀ {cs : List Contact} {xs : List Body}, (∀ c, c ∈ cs → ctOk xs.length c) → k < xs.length → (Ty.ix .body xs k).Mass = 0 → Ty.ix .body (apartF xs cs) k = Ty.ix .body xs k
  | [], _, _, _, _ => rfl
  | c :: r, xs, hc, hk, h => by
    have e := apartOne_fix hk (ct_ne (hc c List.mem_cons_self)) h
    refine (apartF_fix (cs := r) (xs := apartOne xs c) (fun d hd => by rw [length_apartOne]; exact hc d (List.mem_cons_of_mem _ hd)) (by rw [length_apartOne]; exact hk) (by rw [e]; exact h)).trans e
theorem at_pushB (b : Body) (p : Vec) : (pushB b p).At = b.At := by
  unfold pushB
  split <;> rfl
theorem at_pushOne {xs : List Body} {c : Contact} {z : Bool} {k : Nat} (hk : k < xs.length) (hne : c.A.toNat ≠ c.B.toNat) : (Ty.ix .body (pushOne xs c z) k).At = (Ty.ix .body xs k).At := by
  unfold pushOne
  dsimp only
  split
  · by_cases e2 : c.B.toNat = k
    · rw [e2, ix_set_self (T := .body) (by simpa using hk), at_pushB]
    · rw [ix_set_ne (T := .body) e2]
      by_cases e1 : c.A.toNat = k
      · rw [e1, ix_set_self (T := .body) hk, at_pushB]
      · rw [ix_set_ne (T := .body) e1]
  · rfl
theorem at_pushRound {z : Bool} {k : Nat} : ∀ {cs : List Contact} {xs : List Body}, (∀ c, c ∈ cs → ctOk xs.length c) → k < xs.length → (Ty.ix .body (pushRound xs z cs) k).At = (Ty.ix .body xs k).At
  | [], _, _, _ => rfl
  | c :: r, xs, hc, hk => (at_pushRound (cs := r) (xs := pushOne xs c z) (fun d hd => by rw [length_pushOne]; exact hc d (List.mem_cons_of_mem _ hd)) (by rw [length_pushOne]; exact hk)).trans (at_pushOne hk (ct_ne (hc c List.mem_cons_self)))
theorem at_pushAllF {k : Nat} {cs : List Contact} {xs : List Body} (hc : ∀ c, c ∈ cs → ctOk xs.length c) (hk : k < xs.length) : (Ty.ix .body (pushAllF xs cs) k).At = (Ty.ix .body xs k).At := by
  unfold pushAllF
  rw [at_pushRound (by rw [length_pushRound, length_pushRound, length_pushRound]; exact hc) (by rw [length_pushRound, length_pushRound, length_pushRound]; exact hk),
    at_pushRound (by rw [length_pushRound, length_pushRound]; exact hc) (by rw [length_pushRound, length_pushRound]; exact hk),
    at_pushRound (by rw [length_pushRound]; exact hc) (by rw [length_pushRound]; exact hk), at_pushRound hc hk]
def sumD (f : Body → Int) : List Body → Int
  | [] => 0
  | b :: r => f b + sumD f r
theorem sumD_set {f : Body → Int} {b : Body} : ∀ {xs : List Body} {k : Nat}, k < xs.length → sumD f (xs.set k b) = sumD f xs + f b - f (Ty.ix .body xs k)
  | a :: r, 0, _ => by
    show f b + sumD f r = f a + sumD f r + f b - f a
    omega
  | a :: r, k + 1, h => by
    have := sumD_set (f := f) (b := b) (xs := r) (k := k) (by simpa using h)
    show f a + sumD f (r.set k b) = f a + sumD f r + f b - f (Ty.ix .body r k)
    omega
theorem pushV_le (a b : Body) (h : Hit) (z : Bool) : -20000000 ≤ (pushV a b h z).X ∧ (pushV a b h z).X ≤ 20000000 ∧ -20000000 ≤ (pushV a b h z).Y ∧ (pushV a b h z).Y ≤ 20000000 := by
  unfold pushV
  cases decide (closing a b h.Way ≤ 0) || a.Mass == 0 && b.Mass == 0
  case true => simp only [cond_true]; omega
  case false =>
    simp only [cond_false]
    unfold pushW
    dsimp only
    rw [withinI_drive, withinI_drive]
    have h1 := fun n => clampTo_le (m := 20000000) (n := n) (by omega)
    exact ⟨(h1 _).1, (h1 _).2, (h1 _).1, (h1 _).2⟩
theorem push_drive {b : Body} {p : Vec} (hb : bodyOk b = true) (hm : b.Mass ≠ 0) (hp : -20000000 ≤ p.X ∧ p.X ≤ 20000000 ∧ -20000000 ≤ p.Y ∧ p.Y ≤ 20000000) (h : bearsF b p = true) :
    (pushB b p).Drive.X = b.Drive.X + p.X ∧ (pushB b p).Drive.Y = b.Drive.Y + p.Y := by
  obtain ⟨h1, h2, h3, h4, h5, h6, h7, h8, h9, h10⟩ := bok_iff.1 hb
  have w1 : W (b.Drive.X + p.X) = b.Drive.X + p.X := W_small (by omega) (by omega)
  have w2 : W (b.Drive.Y + p.Y) = b.Drive.Y + p.Y := W_small (by omega) (by omega)
  have hb2 : (b.Mass == 0) = false := by simpa using hm
  unfold bearsF at h
  rw [hb2, Bool.false_or] at h
  simp only [driveOk, plus, isIn, Bool.and_eq_true, decide_eq_true_eq, w1, w2] at h
  unfold pushB
  rw [if_neg hm]
  dsimp only
  rw [withinI_drive, withinI_drive, w1, w2]
  unfold clampTo
  omega
theorem sum_pushOne {xs : List Body} {c : Contact} {z : Bool} (hx : AllOk xs) (hc : ctOk xs.length c) (ha : (Ty.ix .body xs c.A.toNat).Mass ≠ 0) (hb : (Ty.ix .body xs c.B.toNat).Mass ≠ 0) :
    sumD (·.Drive.X) (pushOne xs c z) = sumD (·.Drive.X) xs ∧ sumD (·.Drive.Y) (pushOne xs c z) = sumD (·.Drive.Y) xs := by
  have hne := ct_ne hc
  obtain ⟨a0, a1, b0, b1, _⟩ := hc
  have lA : c.A.toNat < xs.length := by omega
  have lB : c.B.toNat < xs.length := by omega
  unfold pushOne
  dsimp only
  split
  · rename_i q
    rw [Bool.and_eq_true, Bool.and_eq_true] at q
    have hl := pushV_le (Ty.ix .body xs c.A.toNat) (Ty.ix .body xs c.B.toNat) c.Hit z
    have d2 := push_drive (hx _ lB) hb hl q.2
    have o1 : (oppV (pushV (Ty.ix .body xs c.A.toNat) (Ty.ix .body xs c.B.toNat) c.Hit z)).X = -(pushV (Ty.ix .body xs c.A.toNat) (Ty.ix .body xs c.B.toNat) c.Hit z).X := by
      unfold oppV
      dsimp only
      rw [W_small (by omega) (by omega)]
      omega
    have o2 : (oppV (pushV (Ty.ix .body xs c.A.toNat) (Ty.ix .body xs c.B.toNat) c.Hit z)).Y = -(pushV (Ty.ix .body xs c.A.toNat) (Ty.ix .body xs c.B.toNat) c.Hit z).Y := by
      unfold oppV
      dsimp only
      rw [W_small (by omega) (by omega)]
      omega
    have d1 := push_drive (hx _ lA) ha (p := oppV (pushV (Ty.ix .body xs c.A.toNat) (Ty.ix .body xs c.B.toNat) c.Hit z)) (by omega) q.1.2
    have hk : c.B.toNat < (xs.set c.A.toNat (pushB (Ty.ix .body xs c.A.toNat) (oppV (pushV (Ty.ix .body xs c.A.toNat) (Ty.ix .body xs c.B.toNat) c.Hit z)))).length := by simpa using lB
    rw [sumD_set hk, sumD_set hk, sumD_set lA, sumD_set lA, ix_set_ne (T := .body) hne]
    omega
  · exact ⟨rfl, rfl⟩
theorem sum_pushRound {z : Bool} : ∀ {cs : List Contact} {xs : List Body}, AllOk xs → (∀ c, c ∈ cs → ctOk xs.length c ∧ (Ty.ix .body xs c.A.toNat).Mass ≠ 0 ∧ (Ty.ix .body xs c.B.toNat).Mass ≠ 0) →
    sumD (·.Drive.X) (pushRound xs z cs) = sumD (·.Drive.X) xs ∧ sumD (·.Drive.Y) (pushRound xs z cs) = sumD (·.Drive.Y) xs
  | [], _, _, _ => ⟨rfl, rfl⟩
  | c :: r, xs, hx, h => by
    obtain ⟨h1, h2, h3⟩ := h c List.mem_cons_self
    have e := sum_pushOne (z := z) hx h1 h2 h3
    have k := kin_pushOne (xs := xs) (c := c) (z := z) (ct_ne h1)
    have e2 := sum_pushRound (cs := r) (xs := pushOne xs c z) (z := z) (ok_pushOne hx) (fun d hd => by
      obtain ⟨g1, g2, g3⟩ := h d (List.mem_cons_of_mem _ hd)
      have ⟨a0, a1, b0, b1, _⟩ := g1
      rw [length_pushOne, ← (k.2 _ (show d.A.toNat < xs.length by omega)).2.2.1, ← (k.2 _ (show d.B.toNat < xs.length by omega)).2.2.1]
      exact ⟨g1, g2, g3⟩)
    exact ⟨e2.1.trans e.1, e2.2.trans e.2⟩
theorem sum_pushAllF {cs : List Contact} {xs : List Body} (hx : AllOk xs) (h : ∀ c, c ∈ cs → ctOk xs.length c ∧ (Ty.ix .body xs c.A.toNat).Mass ≠ 0 ∧ (Ty.ix .body xs c.B.toNat).Mass ≠ 0) :
    sumD (·.Drive.X) (pushAllF xs cs) = sumD (·.Drive.X) xs ∧ sumD (·.Drive.Y) (pushAllF xs cs) = sumD (·.Drive.Y) xs := by
  have kk : ∀ {ys : List Body}, Kin xs ys → ∀ c, c ∈ cs → ctOk ys.length c ∧ (Ty.ix .body ys c.A.toNat).Mass ≠ 0 ∧ (Ty.ix .body ys c.B.toNat).Mass ≠ 0 := by
    intro ys k d hd
    obtain ⟨g1, g2, g3⟩ := h d hd
    have ⟨a0, a1, b0, b1, _⟩ := g1
    rw [← k.1, ← (k.2 _ (show d.A.toNat < xs.length by omega)).2.2.1, ← (k.2 _ (show d.B.toNat < xs.length by omega)).2.2.1]
    exact ⟨g1, g2, g3⟩
  have k1 := kin_pushRound (z := true) (xs := xs) (cs := cs) fun c hc => (h c hc).1
  have k2 := k1.trans (kin_pushRound (z := false) (cs := cs) fun c hc => (kk k1 c hc).1)
  have k3 := k2.trans (kin_pushRound (z := false) (cs := cs) fun c hc => (kk k2 c hc).1)
  have o1 := ok_pushRound (z := true) (cs := cs) hx
  have o2 := ok_pushRound (z := false) (cs := cs) o1
  have o3 := ok_pushRound (z := false) (cs := cs) o2
  have e1 := sum_pushRound (z := true) hx h
  have e2 := sum_pushRound (z := false) o1 (kk k1)
  have e3 := sum_pushRound (z := false) o2 (kk k2)
  have e4 := sum_pushRound (z := false) o3 (kk k3)
  unfold pushAllF
  exact ⟨by rw [e4.1, e3.1, e2.1, e1.1], by rw [e4.2, e3.2, e2.2, e1.2]⟩
end Go.Proofs.YtdhbkcaaijgocaaGreat.Sym

namespace Go.Proofs.YtdhbkcaaijgocaaGreat.Sym
open Go
set_option linter.unusedVariables false
set_option linter.unusedSimpArgs false
set_option maxRecDepth 100000

theorem root_nat : ∀ n : Nat, ∃ r : Nat, r * r ≤ n ∧ n < (r + 1) * (r + 1)
  | 0 => ⟨0, by decide, by decide⟩
  | n + 1 => by
    obtain ⟨r, h1, h2⟩ := root_nat n
    by_cases h : (r + 1) * (r + 1) ≤ n + 1
    · refine ⟨r + 1, h, ?_⟩
      have : (r + 1 + 1) * (r + 1 + 1) = (r + 1) * (r + 1) + 2 * r + 3 := by
        simp only [Nat.add_mul, Nat.mul_add]
        omega
      omega
    · exact ⟨r, by omega, by omega⟩
theorem rootI_spec {n : Int} (h : 0 ≤ n) : IsRoot n (rootI n) := by
  obtain ⟨r, h1, h2⟩ := root_nat n.toNat
  have k : IsRoot n (r : Int) := by
    refine ⟨by omega, ?_, ?_⟩
    · have : ((r * r : Nat) : Int) ≤ (n.toNat : Int) := Int.ofNat_le.2 h1
      rw [Int.natCast_mul] at this
      omega
    · have : (n.toNat : Int) < (((r + 1) * (r + 1) : Nat) : Int) := Int.ofNat_lt.2 h2
      rw [Int.natCast_mul, Int.natCast_add] at this
      have e : ((1 : Nat) : Int) = 1 := rfl
      rw [e] at this
      omega
  rw [rootI_eq k]
  exact k
theorem rootI_mono {m n : Int} (h0 : 0 ≤ m) (h : m ≤ n) : rootI m ≤ rootI n := by
  obtain ⟨a1, a2, a3⟩ := rootI_spec h0
  obtain ⟨b1, b2, b3⟩ := rootI_spec (show 0 ≤ n by omega)
  refine Int.not_lt.1 fun hlt => ?_
  have := sq_le (x := rootI n + 1) (y := rootI m) (by omega) (by omega)
  omega
theorem rootI_ge {x n : Int} (h : x * x ≤ n) : x ≤ rootI n ∧ -x ≤ rootI n := by
  have h0 : 0 ≤ x * x := by
    rcases Int.le_total 0 x with q | q
    · exact Int.mul_nonneg q q
    · have := Int.mul_nonneg (show 0 ≤ -x by omega) (show 0 ≤ -x by omega)
      rwa [Int.neg_mul_neg] at this
  obtain ⟨b1, b2, b3⟩ := rootI_spec (show 0 ≤ n by omega)
  refine ⟨Int.not_lt.1 fun hlt => ?_, Int.not_lt.1 fun hlt => ?_⟩
  · have := sq_le (x := rootI n + 1) (y := x) (by omega) (by omega)
    omega
  · have := sq_le (x := rootI n + 1) (y := -x) (by omega) (by omega)
    rw [Int.neg_mul_neg] at this
    omega
theorem rootI_le {n m : Int} (h0 : 0 ≤ n) (hm : 0 ≤ m) (h : n ≤ m * m) : rootI n ≤ m := by
  obtain ⟨b1, b2, b3⟩ := rootI_spec h0
  refine Int.not_lt.1 fun hlt => ?_
  have := sq_le (x := m + 1) (y := rootI n) (by omega) (by omega)
  have e : (m + 1) * (m + 1) = m * m + 2 * m + 1 := by
    rw [Int.add_mul, Int.mul_add]
    omega
  omega
def smallV (d : Vec) : Prop := (-20000000 ≤ d.X ∧ d.X ≤ 20000000) ∧ (-20000000 ≤ d.Y ∧ d.Y ≤ 20000000)
theorem small_clamp {d : Vec} (h : smallV d) : clampV 1000000000 d = d := by
  obtain ⟨⟨h1, h2⟩, h3, h4⟩ := h
  obtain ⟨x, y⟩ := d
  dsimp only at h1 h2 h3 h4
  unfold clampV clampTo
  congr 1 <;> dsimp only <;> omega
theorem small_square {d : Vec} (h : smallV d) : square d = d.X * d.X + d.Y * d.Y ∧ 0 ≤ d.X * d.X ∧ 0 ≤ d.Y * d.Y ∧ d.X * d.X ≤ 400000000000000 ∧ d.Y * d.Y ≤ 400000000000000 := by
  obtain ⟨⟨h1, h2⟩, h3, h4⟩ := h
  have q1 := sq_abs h1 h2
  have q2 := sq_abs h3 h4
  unfold square
  rw [show W (d.X * d.X) = _ from W_small (by omega) (by omega), show W (d.Y * d.Y) = _ from W_small (by omega) (by omega), show W (d.X * d.X + d.Y * d.Y) = _ from W_small (by omega) (by omega)]
  omega
theorem small_len {d : Vec} (h : smallV d) : vecLen d = rootI (square d) ∧ d.X ≤ vecLen d ∧ -d.X ≤ vecLen d ∧ d.Y ≤ vecLen d ∧ -d.Y ≤ vecLen d ∧ 0 ≤ vecLen d ∧ vecLen d ≤ 40000000 := by
  obtain ⟨s1, s2, s3, s4, s5⟩ := small_square h
  have r0 := rootI_spec (n := square d) (by omega)
  have rl := rootI_le (n := square d) (m := 40000000) (by omega) (by omega) (by omega)
  have gx := rootI_ge (x := d.X) (n := square d) (by omega)
  have gy := rootI_ge (x := d.Y) (n := square d) (by omega)
  have e : vecLen d = rootI (square d) := by
    unfold vecLen
    rw [small_clamp h]
    have := r0.1
    unfold clampTo
    omega
  rw [e]
  exact ⟨rfl, gx.1, gx.2, gy.1, gy.2, r0.1, rl⟩
theorem small_len_mono {d e : Vec} (h : smallV d) (k : smallV e) (hx : d.X * d.X ≤ e.X * e.X) (hy : d.Y * d.Y ≤ e.Y * e.Y) : square d ≤ square e ∧ vecLen d ≤ vecLen e := by
  obtain ⟨s1, s2, s3, s4, s5⟩ := small_square h
  obtain ⟨t1, t2, t3, t4, t5⟩ := small_square k
  have hle : square d ≤ square e := by omega
  refine ⟨hle, ?_⟩
  rw [(small_len h).1, (small_len k).1]
  exact rootI_mono (by omega) hle
theorem unit_part {x l : Int} (hl : 0 < l) (h1 : x ≤ l) (h2 : -x ≤ l) (hb : l ≤ 40000000) : let u := W ((W (x * 256)).tdiv l); (0 ≤ x → 0 ≤ u) ∧ (x ≤ 0 → u ≤ 0) ∧ -256 ≤ u ∧ u ≤ 256 := by
  dsimp only
  rw [show W (x * 256) = x * 256 from W_small (by omega) (by omega)]
  rcases Int.le_total 0 x with h | h
  · have e := Int.tdiv_eq_ediv_of_nonneg (b := l) (show 0 ≤ x * 256 by omega)
    have h3 := Int.ediv_nonneg (show 0 ≤ x * 256 by omega) (show 0 ≤ l by omega)
    have h4 : x * 256 / l ≤ 256 := Int.ediv_le_of_le_mul hl (by omega)
    rw [e, show W (x * 256 / l) = _ from W_small (by omega) (by omega)]
    refine ⟨fun _ => h3, fun q => ?_, by omega, h4⟩
    have : x = 0 := by omega
    subst this
    simp
  · have e := Int.tdiv_eq_ediv_of_nonneg (b := l) (show 0 ≤ -(x * 256) by omega)
    rw [Int.neg_tdiv] at e
    have h3 := Int.ediv_nonneg (show 0 ≤ -(x * 256) by omega) (show 0 ≤ l by omega)
    have h4 : -(x * 256) / l ≤ 256 := Int.ediv_le_of_le_mul hl (by omega)
    rw [show W ((x * 256).tdiv l) = _ from W_small (by omega) (by omega)]
    refine ⟨fun q => ?_, fun _ => by omega, by omega, by omega⟩
    have : x = 0 := by omega
    subst this
    simp
/-- A way made as long as 1 goes the same way. -/
theorem unit_small {d : Vec} (h : smallV d) : (-256 ≤ (vecUnit d).X ∧ (vecUnit d).X ≤ 256 ∧ -256 ≤ (vecUnit d).Y ∧ (vecUnit d).Y ≤ 256) ∧
    (d.X = 0 ∧ d.Y = 0 ∨ ((0 ≤ d.X → 0 ≤ (vecUnit d).X) ∧ (d.X ≤ 0 → (vecUnit d).X ≤ 0) ∧ (0 ≤ d.Y → 0 ≤ (vecUnit d).Y) ∧ (d.Y ≤ 0 → (vecUnit d).Y ≤ 0))) := by
  obtain ⟨e, l1, l2, l3, l4, l5, l6⟩ := small_len h
  unfold vecUnit
  rw [small_clamp h]
  split
  · rename_i q
    rw [q] at l1 l2 l3 l4
    exact ⟨⟨by decide, by decide, by decide, by decide⟩, .inl ⟨by omega, by omega⟩⟩
  · rename_i q
    have u1 := unit_part (x := d.X) (l := vecLen d) (by omega) l1 l2 l6
    have u2 := unit_part (x := d.Y) (l := vecLen d) (by omega) l3 l4 l6
    exact ⟨⟨u1.2.2.1, u1.2.2.2, u2.2.2.1, u2.2.2.2⟩, .inr ⟨u1.1, u1.2.1, u2.1, u2.2.1⟩⟩
/-- The one goes back along a way, the other on. -/
def alongI (w p p' q q' : Int) : Prop := (0 ≤ w → p' ≤ p ∧ q ≤ q') ∧ (w ≤ 0 → p ≤ p' ∧ q' ≤ q)
def alongV (w p p' q q' : Vec) : Prop := alongI w.X p.X p'.X q.X q'.X ∧ alongI w.Y p.Y p'.Y q.Y q'.Y
theorem sq_more {x y : Int} (h : (0 ≤ x → x ≤ y) ∧ (x ≤ 0 → y ≤ x)) : x * x ≤ y * y := by
  rcases Int.le_total 0 x with q | q
  · exact sq_le q (h.1 q)
  · have := sq_le (x := -x) (y := -y) (by omega) (by have := h.2 q; omega)
    rwa [Int.neg_mul_neg, Int.neg_mul_neg] at this
theorem sq_zero_le (y : Int) : (0 : Int) * 0 ≤ y * y := by
  rcases Int.le_total 0 y with q | q
  · have := Int.mul_nonneg q q
    omega
  · have := Int.mul_nonneg (show 0 ≤ -y by omega) (show 0 ≤ -y by omega)
    rw [Int.neg_mul_neg] at this
    omega
theorem rounds_true {d : Vec} {both : Int} (h : smallV d) (b0 : 0 ≤ both) (b1 : both ≤ 51200) (k : (roundsF d both).2 = true) : roundsF d both = (⟨vecUnit d, both - vecLen d⟩, true) ∧ vecLen d ≤ both ∧ square d ≤ both * both := by
  have hb := mul_le_mul0 b0 b1 b0 b1
  have hw : W (both * both) = both * both := W_small (by omega) (by omega)
  unfold roundsF at k ⊢
  rw [hw] at k ⊢
  split at k
  · cases k
  · rename_i q
    rw [if_neg q]
    obtain ⟨s1, s2, s3, s4, s5⟩ := small_square h
    obtain ⟨e, l1, l2, l3, l4, l5, l6⟩ := small_len h
    have hl : vecLen d ≤ both := by
      rw [e]
      exact rootI_le (by omega) b0 (by omega)
    rw [show W (both - vecLen d) = both - vecLen d from W_small (by omega) (by omega)]
    exact ⟨rfl, hl, by omega⟩
theorem rounds_apart {d e : Vec} {both : Int} (hd : smallV d) (he : smallV e) (b0 : 0 ≤ both) (b1 : both ≤ 51200) (hx : d.X * d.X ≤ e.X * e.X) (hy : d.Y * d.Y ≤ e.Y * e.Y) (k : (roundsF d both).2 = true) (k' : (roundsF e both).2 = true) :
    (roundsF e both).1.Deep ≤ (roundsF d both).1.Deep := by
  rw [(rounds_true hd b0 b1 k).1, (rounds_true he b0 b1 k').1]
  have := (small_len_mono hd he hx hy).2
  dsimp only
  omega
theorem round_sq {w p p' q q' d : Int} (hd : d = q - p) (hs : (0 ≤ d → 0 ≤ w) ∧ (d ≤ 0 → w ≤ 0)) (h : alongI w p p' q q') : d * d ≤ (q' - p') * (q' - p') := by
  refine sq_more ⟨fun q0 => ?_, fun q0 => ?_⟩
  · have := h.1 (hs.1 q0)
    omega
  · have := h.2 (hs.2 q0)
    omega
def placeV (p : Vec) : Prop := -2560000 ≤ p.X ∧ p.X ≤ 2560000 ∧ -2560000 ≤ p.Y ∧ p.Y ≤ 2560000
theorem minus_place {p q : Vec} (hp : placeV p) (hq : placeV q) : minus q p = ⟨q.X - p.X, q.Y - p.Y⟩ ∧ smallV ⟨q.X - p.X, q.Y - p.Y⟩ := by
  obtain ⟨p1, p2, p3, p4⟩ := hp
  obtain ⟨q1, q2, q3, q4⟩ := hq
  unfold minus
  rw [show W (q.X - p.X) = _ from W_small (by omega) (by omega), show W (q.Y - p.Y) = _ from W_small (by omega) (by omega)]
  refine ⟨rfl, ?_⟩
  unfold smallV
  dsimp only
  omega
theorem rr_apart {p p' q q' : Vec} {both : Int} (hp : placeV p) (hp' : placeV p') (hq : placeV q) (hq' : placeV q') (b0 : 0 ≤ both) (b1 : both ≤ 51200) (k : (roundsF (minus q p) both).2 = true)
    (h : alongV (roundsF (minus q p) both).1.Way p p' q q') (k' : (roundsF (minus q' p') both).2 = true) : (roundsF (minus q' p') both).1.Deep ≤ (roundsF (minus q p) both).1.Deep := by
  obtain ⟨e1, s1⟩ := minus_place hp hq
  obtain ⟨e2, s2⟩ := minus_place hp' hq'
  rw [e1] at k h ⊢
  rw [e2] at k' ⊢
  rw [(rounds_true s1 b0 b1 k).1] at h
  obtain ⟨hx, hy⟩ := h
  dsimp only at hx hy
  rcases (unit_small s1).2 with ⟨z1, z2⟩ | ⟨u1, u2, u3, u4⟩
  · refine rounds_apart s1 s2 b0 b1 ?_ ?_ k k'
    · dsimp only at z1 ⊢
      rw [z1]
      exact sq_zero_le _
    · dsimp only at z2 ⊢
      rw [z2]
      exact sq_zero_le _
  · exact rounds_apart s1 s2 b0 b1 (round_sq rfl ⟨u1, u2⟩ hx) (round_sq rfl ⟨u3, u4⟩ hy) k k'
theorem less2_deep (a b : Hit) : (less2 a b).Deep = min a.Deep b.Deep ∧ (less2 a b = a ∨ less2 a b = b) := by
  unfold less2
  cases q : decide (b.Deep < a.Deep) with
  | true =>
    have := of_decide_eq_true q
    exact ⟨by simp only [cond_true]; omega, .inr rfl⟩
  | false =>
    have := of_decide_eq_false q
    exact ⟨by simp only [cond_false]; omega, .inl rfl⟩
def smallB (b : Box) : Prop := smallV b.Low ∧ smallV b.High
theorem boxes_cases {a b : Box} (ha : smallB a) (hb : smallB b) (h : boxMeets a b = true) : (boxesF a b).2 = true ∧
    ((boxesF a b).1.Deep ≤ a.High.X - b.Low.X ∧ (boxesF a b).1.Deep ≤ b.High.X - a.Low.X ∧ (boxesF a b).1.Deep ≤ a.High.Y - b.Low.Y ∧ (boxesF a b).1.Deep ≤ b.High.Y - a.Low.Y) ∧
    ((boxesF a b).1 = ⟨⟨256, 0⟩, a.High.X - b.Low.X⟩ ∨ (boxesF a b).1 = ⟨⟨-256, 0⟩, b.High.X - a.Low.X⟩ ∨ (boxesF a b).1 = ⟨⟨0, 256⟩, a.High.Y - b.Low.Y⟩ ∨ (boxesF a b).1 = ⟨⟨0, -256⟩, b.High.Y - a.Low.Y⟩) ∧ 0 ≤ (boxesF a b).1.Deep := by
  obtain ⟨⟨⟨a1, a2⟩, a3, a4⟩, ⟨a5, a6⟩, a7, a8⟩ := ha
  obtain ⟨⟨⟨b1, b2⟩, b3, b4⟩, ⟨b5, b6⟩, b7, b8⟩ := hb
  have hm := h
  simp only [boxMeets, Bool.and_eq_true, decide_eq_true_eq] at hm
  unfold boxesF
  rw [h]
  simp only [cond_true]
  rw [show W (a.High.X - b.Low.X) = _ from W_small (by omega) (by omega), show W (b.High.X - a.Low.X) = _ from W_small (by omega) (by omega), show W (a.High.Y - b.Low.Y) = _ from W_small (by omega) (by omega), show W (b.High.Y - a.Low.Y) = _ from W_small (by omega) (by omega)]
  generalize e1 : (⟨⟨256, 0⟩, a.High.X - b.Low.X⟩ : Hit) = h1
  generalize e2 : (⟨⟨-256, 0⟩, b.High.X - a.Low.X⟩ : Hit) = h2
  generalize e3 : (⟨⟨0, 256⟩, a.High.Y - b.Low.Y⟩ : Hit) = h3
  generalize e4 : (⟨⟨0, -256⟩, b.High.Y - a.Low.Y⟩ : Hit) = h4
  obtain ⟨d1, c1⟩ := less2_deep h1 h2
  obtain ⟨d2, c2⟩ := less2_deep (less2 h1 h2) h3
  obtain ⟨d3, c3⟩ := less2_deep (less2 (less2 h1 h2) h3) h4
  have f1 : h1.Deep = a.High.X - b.Low.X := by rw [← e1]
  have f2 : h2.Deep = b.High.X - a.Low.X := by rw [← e2]
  have f3 : h3.Deep = a.High.Y - b.Low.Y := by rw [← e3]
  have f4 : h4.Deep = b.High.Y - a.Low.Y := by rw [← e4]
  refine ⟨trivial, ?_, ?_, ?_⟩
  · rw [d3, d2, d1, f1, f2, f3, f4]
    omega
  · rcases c3 with c3 | c3
    · rw [c3]
      rcases c2 with c2 | c2
      · rw [c2]
        rcases c1 with c1 | c1
        · exact .inl c1
        · exact .inr (.inl c1)
      · exact .inr (.inr (.inl c2))
    · exact .inr (.inr (.inr c3))
  · rw [d3, d2, d1, f1, f2, f3, f4]
    omega
/-- A box about a place. -/
def boxAt (p : Vec) (w h : Int) : Box := ⟨⟨p.X - w, p.Y - h⟩, ⟨p.X + w, p.Y + h⟩⟩
theorem boxAt_small {p : Vec} {w h : Int} (hp : placeV p) (w0 : 0 ≤ w) (w1 : w ≤ 25600) (h0 : 0 ≤ h) (h1 : h ≤ 25600) : smallB (boxAt p w h) := by
  obtain ⟨p1, p2, p3, p4⟩ := hp
  unfold smallB smallV boxAt
  dsimp only
  omega
theorem bb_apart {p p' q q' : Vec} {w h v u : Int} (hp : placeV p) (hp' : placeV p') (hq : placeV q) (hq' : placeV q') (w0 : 0 ≤ w) (w1 : w ≤ 25600) (h0 : 0 ≤ h) (h1 : h ≤ 25600) (v0 : 0 ≤ v) (v1 : v ≤ 25600) (u0 : 0 ≤ u) (u1 : u ≤ 25600)
    (k : boxMeets (boxAt p w h) (boxAt q v u) = true) (ha : alongV (boxesF (boxAt p w h) (boxAt q v u)).1.Way p p' q q') (k' : boxMeets (boxAt p' w h) (boxAt q' v u) = true) :
    (boxesF (boxAt p' w h) (boxAt q' v u)).1.Deep ≤ (boxesF (boxAt p w h) (boxAt q v u)).1.Deep := by
  obtain ⟨_, c1, c2, _⟩ := boxes_cases (boxAt_small hp w0 w1 h0 h1) (boxAt_small hq v0 v1 u0 u1) k
  obtain ⟨_, d1, d2, _⟩ := boxes_cases (boxAt_small hp' w0 w1 h0 h1) (boxAt_small hq' v0 v1 u0 u1) k'
  clear k k'
  obtain ⟨ax, ay⟩ := ha
  rcases c2 with e | e | e | e <;> rw [e] at ax ay ⊢ <;> dsimp only [boxAt] at ax ay d1 ⊢
  · have := ax.1 (by decide)
    omega
  · have := ax.2 (by decide)
    omega
  · have := ay.1 (by decide)
    omega
  · have := ay.2 (by decide)
    omega
/-- From the nearest point of a box on. -/
def outI (q lo hi : Int) : Int := q - max lo (min q hi)
theorem near_out {p q : Vec} {w h : Int} (hp : placeV p) (hq : placeV q) (w0 : 0 ≤ w) (w1 : w ≤ 25600) (h0 : 0 ≤ h) (h1 : h ≤ 25600) :
    minus q (nearV (boxAt p w h) q) = ⟨outI q.X (p.X - w) (p.X + w), outI q.Y (p.Y - h) (p.Y + h)⟩ ∧ smallV ⟨outI q.X (p.X - w) (p.X + w), outI q.Y (p.Y - h) (p.Y + h)⟩ := by
  obtain ⟨p1, p2, p3, p4⟩ := hp
  obtain ⟨q1, q2, q3, q4⟩ := hq
  unfold minus nearV boxAt outI
  dsimp only
  rw [show W (q.X - max (p.X - w) (min q.X (p.X + w))) = _ from W_small (by omega) (by omega), show W (q.Y - max (p.Y - h) (min q.Y (p.Y + h))) = _ from W_small (by omega) (by omega)]
  refine ⟨rfl, ?_⟩
  unfold smallV
  dsimp only
  omega
theorem out_sq {v p p' q q' w : Int} (w0 : 0 ≤ w) (hs : (0 ≤ outI q (p - w) (p + w) → 0 ≤ v) ∧ (outI q (p - w) (p + w) ≤ 0 → v ≤ 0)) (h : alongI v p p' q q') :
    outI q (p - w) (p + w) * outI q (p - w) (p + w) ≤ outI q' (p' - w) (p' + w) * outI q' (p' - w) (p' + w) ∧ (outI q (p - w) (p + w) ≠ 0 → outI q' (p' - w) (p' + w) ≠ 0) := by
  rcases Int.lt_trichotomy (outI q (p - w) (p + w)) 0 with c | c | c
  · have := h.2 (hs.2 (by omega))
    have hle : outI q' (p' - w) (p' + w) ≤ outI q (p - w) (p + w) := by
      unfold outI at c ⊢
      omega
    exact ⟨sq_more ⟨fun z => by omega, fun _ => hle⟩, fun _ => by omega⟩
  · rw [c]
    exact ⟨sq_zero_le _, fun z => absurd rfl z⟩
  · have := h.1 (hs.1 (by omega))
    have hle : outI q (p - w) (p + w) ≤ outI q' (p' - w) (p' + w) := by
      unfold outI at c ⊢
      omega
    exact ⟨sq_more ⟨fun _ => hle, fun z => by omega⟩, fun _ => by omega⟩
theorem has_out {p q : Vec} {w h : Int} (w0 : 0 ≤ w) (h0 : 0 ≤ h) : hasPoint (boxAt p w h) q = true ↔ outI q.X (p.X - w) (p.X + w) = 0 ∧ outI q.Y (p.Y - h) (p.Y + h) = 0 := by
  unfold hasPoint boxAt isIn outI
  simp only [Bool.and_eq_true, decide_eq_true_eq]
  omega
theorem has_meets {p q : Vec} {w h : Int} (k : hasPoint (boxAt p w h) q = true) : boxMeets (boxAt p w h) ⟨q, q⟩ = true := by
  simp only [hasPoint, isIn, boxAt, Bool.and_eq_true, decide_eq_true_eq] at k
  simp only [boxMeets, boxAt, Bool.and_eq_true, decide_eq_true_eq]
  obtain ⟨⟨k1, k2⟩, k3, k4⟩ := k
  exact ⟨⟨⟨k1, k2⟩, k3⟩, k4⟩
theorem boxAt_zero (q : Vec) : (⟨q, q⟩ : Box) = boxAt q 0 0 := by
  unfold boxAt
  simp only [Int.sub_zero, Int.add_zero]
theorem mixed_has {p q : Vec} {w h m : Int} (hp : placeV p) (hq : placeV q) (w0 : 0 ≤ w) (w1 : w ≤ 25600) (h0 : 0 ≤ h) (h1 : h ≤ 25600) (m0 : 0 ≤ m) (m1 : m ≤ 25600) (k : hasPoint (boxAt p w h) q = true) :
    (mixedF (boxAt p w h) q m).2 = true ∧ (mixedF (boxAt p w h) q m).1.Way = (boxesF (boxAt p w h) ⟨q, q⟩).1.Way ∧ (mixedF (boxAt p w h) q m).1.Deep = (boxesF (boxAt p w h) ⟨q, q⟩).1.Deep + m ∧ 0 ≤ (boxesF (boxAt p w h) ⟨q, q⟩).1.Deep ∧ (boxesF (boxAt p w h) ⟨q, q⟩).1.Deep ≤ 25600 := by
  have hm := has_meets k
  rw [boxAt_zero] at hm ⊢
  obtain ⟨c0, c1, c2, c3⟩ := boxes_cases (boxAt_small hp w0 w1 h0 h1) (boxAt_small hq (by omega) (by omega) (by omega) (by omega)) hm
  have c4 : (boxesF (boxAt p w h) (boxAt q 0 0)).1.Deep ≤ 25600 := by
    dsimp only [boxAt] at c1 ⊢
    omega
  unfold mixedF
  rw [k]
  simp only [cond_true]
  rw [boxAt_zero, show W ((boxesF (boxAt p w h) (boxAt q 0 0)).1.Deep + m) = _ from W_small (by omega) (by omega)]
  exact ⟨c0, rfl, rfl, c3, c4⟩
theorem mixed_out {p q : Vec} {w h m : Int} (k : hasPoint (boxAt p w h) q = false) : mixedF (boxAt p w h) q m = roundsF (minus q (nearV (boxAt p w h) q)) m := by
  unfold mixedF
  rw [k]
  rfl
theorem mix_apart {p p' q q' : Vec} {w h m : Int} (hp : placeV p) (hp' : placeV p') (hq : placeV q) (hq' : placeV q') (w0 : 0 ≤ w) (w1 : w ≤ 25600) (h0 : 0 ≤ h) (h1 : h ≤ 25600) (m0 : 0 ≤ m) (m1 : m ≤ 25600)
    (k : (mixedF (boxAt p w h) q m).2 = true) (ha : alongV (mixedF (boxAt p w h) q m).1.Way p p' q q') (k' : (mixedF (boxAt p' w h) q' m).2 = true) :
    (mixedF (boxAt p' w h) q' m).1.Deep ≤ (mixedF (boxAt p w h) q m).1.Deep := by
  obtain ⟨n1, s1⟩ := near_out hp hq w0 w1 h0 h1
  obtain ⟨n2, s2⟩ := near_out hp' hq' w0 w1 h0 h1
  cases c : hasPoint (boxAt p w h) q with
  | true =>
    obtain ⟨c0, c1, c2, c3, c4⟩ := mixed_has (m := m) hp hq w0 w1 h0 h1 m0 m1 c
    cases c' : hasPoint (boxAt p' w h) q' with
    | true =>
      obtain ⟨d0, d1, d2, d3, d4⟩ := mixed_has (m := m) hp' hq' w0 w1 h0 h1 m0 m1 c'
      rw [c1] at ha
      have g1 := has_meets c
      have g2 := has_meets c'
      rw [c2, d2]
      rw [boxAt_zero] at g1 g2 ha ⊢
      rw [boxAt_zero q]
      have := bb_apart hp hp' hq hq' w0 w1 h0 h1 (by omega) (by omega) (by omega) (by omega) g1 ha g2
      omega
    | false =>
      rw [mixed_out c', n2] at k' ⊢
      obtain ⟨e, l, _⟩ := rounds_true s2 m0 (by omega) k'
      rw [e, c2]
      have := (small_len s2).2.2.2.2.2.1
      dsimp only
      omega
  | false =>
    have hz : ¬ (outI q.X (p.X - w) (p.X + w) = 0 ∧ outI q.Y (p.Y - h) (p.Y + h) = 0) := fun z => by
      rw [(has_out w0 h0).2 z] at c
      cases c
    rw [mixed_out c, n1] at k ha ⊢
    rw [(rounds_true s1 m0 (by omega) k).1] at ha
    rcases (unit_small s1).2 with z | ⟨u1, u2, u3, u4⟩
    · exact absurd z hz
    · obtain ⟨ax, ay⟩ := ha
      have o1 := out_sq w0 ⟨u1, u2⟩ ax
      have o2 := out_sq h0 ⟨u3, u4⟩ ay
      cases c' : hasPoint (boxAt p' w h) q' with
      | true =>
        have z := (has_out w0 h0).1 c'
        exact absurd ⟨Classical.byContradiction fun q => o1.2 q z.1, Classical.byContradiction fun q => o2.2 q z.2⟩ hz
      | false =>
        rw [mixed_out c', n2] at k' ⊢
        exact rounds_apart s1 s2 m0 (by omega) o1.1 o2.1 k k'
theorem bounds_at {s : Shape} {p : Vec} (h : shapeOk s = true) (hp : placeV p) : bounds s p = boxAt p s.Wide (highOf s) ∧ 1 ≤ highOf s ∧ highOf s ≤ 25600 :=
  bounds_eq h (by obtain ⟨h1, h2, h3, h4⟩ := hp; simp only [placeOk, isIn, Bool.and_eq_true, decide_eq_true_eq]; omega)
theorem along_turn {w p p' q q' : Vec} (hw : -256 ≤ w.X ∧ w.X ≤ 256 ∧ -256 ≤ w.Y ∧ w.Y ≤ 256) (h : alongV ⟨W (0 - w.X), W (0 - w.Y)⟩ p p' q q') : alongV w q q' p p' := by
  obtain ⟨hx, hy⟩ := h
  dsimp only at hx hy
  rw [W_small (by omega) (by omega)] at hx hy
  refine ⟨⟨fun z => ?_, fun z => ?_⟩, ⟨fun z => ?_, fun z => ?_⟩⟩
  · have := hx.2 (by omega)
    exact ⟨this.2, this.1⟩
  · have := hx.1 (by omega)
    exact ⟨this.2, this.1⟩
  · have := hy.2 (by omega)
    exact ⟨this.2, this.1⟩
  · have := hy.1 (by omega)
    exact ⟨this.2, this.1⟩
def hitS (h : Hit) : Prop := (-256 ≤ h.Way.X ∧ h.Way.X ≤ 256 ∧ -256 ≤ h.Way.Y ∧ h.Way.Y ≤ 256) ∧ 0 ≤ h.Deep ∧ h.Deep ≤ 51200
theorem rounds_hit {d : Vec} {both : Int} (h : smallV d) (b0 : 0 ≤ both) (b1 : both ≤ 51200) (k : (roundsF d both).2 = true) : hitS (roundsF d both).1 := by
  obtain ⟨e, l, _⟩ := rounds_true h b0 b1 k
  have := (small_len h).2.2.2.2.2.1
  rw [e]
  exact ⟨(unit_small h).1, by dsimp only; omega, by dsimp only; omega⟩
theorem boxes_hit {p q : Vec} {w h v u : Int} (hp : placeV p) (hq : placeV q) (w0 : 0 ≤ w) (w1 : w ≤ 25600) (h0 : 0 ≤ h) (h1 : h ≤ 25600) (v0 : 0 ≤ v) (v1 : v ≤ 25600) (u0 : 0 ≤ u) (u1 : u ≤ 25600)
    (k : boxMeets (boxAt p w h) (boxAt q v u) = true) : hitS (boxesF (boxAt p w h) (boxAt q v u)).1 := by
  obtain ⟨_, c1, c2, c3⟩ := boxes_cases (boxAt_small hp w0 w1 h0 h1) (boxAt_small hq v0 v1 u0 u1) k
  refine ⟨?_, c3, ?_⟩
  · rcases c2 with e | e | e | e <;> rw [e] <;> dsimp only <;> omega
  · dsimp only [boxAt] at c1
    unfold boxAt
    omega
theorem mixed_hit {p q : Vec} {w h m : Int} (hp : placeV p) (hq : placeV q) (w0 : 0 ≤ w) (w1 : w ≤ 25600) (h0 : 0 ≤ h) (h1 : h ≤ 25600) (m0 : 0 ≤ m) (m1 : m ≤ 25600) (k : (mixedF (boxAt p w h) q m).2 = true) : hitS (mixedF (boxAt p w h) q m).1 := by
  obtain ⟨n1, s1⟩ := near_out hp hq w0 w1 h0 h1
  cases c : hasPoint (boxAt p w h) q with
  | true =>
    obtain ⟨c0, c1, c2, c3, c4⟩ := mixed_has (m := m) hp hq w0 w1 h0 h1 m0 m1 c
    have g1 := has_meets c
    rw [boxAt_zero] at g1 c1 c2 c3 c4
    have := boxes_hit hp hq w0 w1 h0 h1 (by omega) (by omega) (by omega) (by omega) g1
    exact ⟨by rw [c1]; exact this.1, by omega, by omega⟩
  | false =>
    rw [mixed_out c, n1] at k ⊢
    exact rounds_hit s1 m0 (by omega) k
theorem touch_hit {a b : Shape} {p q : Vec} (ha : shapeOk a = true) (hb : shapeOk b = true) (hp : placeV p) (hq : placeV q) (k : (touchF a p b q).2 = true) : hitS (touchF a p b q).1 := by
  obtain ⟨a1, a2, a3, a4⟩ := shapeOk_le ha
  obtain ⟨b1, b2, b3, b4⟩ := shapeOk_le hb
  obtain ⟨e1, f1, f2⟩ := bounds_at ha hp
  obtain ⟨e2, g1, g2⟩ := bounds_at hb hq
  unfold touchF at k ⊢
  rw [e1, e2] at k ⊢
  cases c1 : a.Kind == 1 && b.Kind == 1 with
  | true =>
    rw [c1] at k
    simp only [cond_true] at k ⊢
    rw [show W (a.Wide + b.Wide) = a.Wide + b.Wide from W_small (by omega) (by omega)] at k ⊢
    obtain ⟨m1, m2⟩ := minus_place hp hq
    rw [m1] at k ⊢
    exact rounds_hit m2 (by omega) (by omega) k
  | false =>
    rw [c1] at k
    simp only [cond_false] at k ⊢
    cases c2 : a.Kind == 2 && b.Kind == 2 with
    | true =>
      rw [c2] at k
      simp only [cond_true] at k ⊢
      have hm : boxMeets (boxAt p a.Wide (highOf a)) (boxAt q b.Wide (highOf b)) = true := by
        unfold boxesF at k
        cases z : boxMeets (boxAt p a.Wide (highOf a)) (boxAt q b.Wide (highOf b)) with
        | true => rfl
        | false => rw [z] at k; cases k
      exact boxes_hit hp hq (by omega) (by omega) (by omega) (by omega) (by omega) (by omega) (by omega) (by omega) hm
    | false =>
      rw [c2] at k
      simp only [cond_false] at k ⊢
      cases c3 : a.Kind == 2 with
      | true =>
        rw [c3] at k
        simp only [cond_true] at k ⊢
        exact mixed_hit hp hq (by omega) (by omega) (by omega) (by omega) (by omega) (by omega) k
      | false =>
        rw [c3] at k
        simp only [cond_false] at k ⊢
        cases c4 : (mixedF (boxAt q b.Wide (highOf b)) p a.Wide).2 with
        | false => rw [c4] at k; cases k
        | true =>
          simp only [cond_true]
          obtain ⟨⟨w1, w2, w3, w4⟩, d1, d2⟩ := mixed_hit hq hp (by omega) (by omega) (by omega) (by omega) (by omega) (by omega) c4
          unfold turnH
          refine ⟨?_, d1, d2⟩
          dsimp only
          rw [W_small (by omega) (by omega), W_small (by omega) (by omega)]
          omega
/-- Moved along the way of their touching they are no deeper in each other. -/
theorem touch_apart {a b : Shape} {p p' q q' : Vec} (ha : shapeOk a = true) (hb : shapeOk b = true) (hp : placeV p) (hp' : placeV p') (hq : placeV q) (hq' : placeV q') (k : (touchF a p b q).2 = true)
    (h : alongV (touchF a p b q).1.Way p p' q q') (k' : (touchF a p' b q').2 = true) : (touchF a p' b q').1.Deep ≤ (touchF a p b q).1.Deep := by
  obtain ⟨a1, a2, a3, a4⟩ := shapeOk_le ha
  obtain ⟨b1, b2, b3, b4⟩ := shapeOk_le hb
  obtain ⟨e1, f1, f2⟩ := bounds_at ha hp
  obtain ⟨e2, g1, g2⟩ := bounds_at hb hq
  obtain ⟨e3, _, _⟩ := bounds_at ha hp'
  obtain ⟨e4, _, _⟩ := bounds_at hb hq'
  unfold touchF at k h k' ⊢
  rw [e1, e2] at k h ⊢
  rw [e3, e4] at k' ⊢
  cases c1 : a.Kind == 1 && b.Kind == 1 with
  | true =>
    rw [c1] at k h k'
    simp only [cond_true] at k h k' ⊢
    rw [show W (a.Wide + b.Wide) = a.Wide + b.Wide from W_small (by omega) (by omega)] at k h k' ⊢
    exact rr_apart hp hp' hq hq' (by omega) (by omega) k h k'
  | false =>
    rw [c1] at k h k'
    simp only [cond_false] at k h k' ⊢
    cases c2 : a.Kind == 2 && b.Kind == 2 with
    | true =>
      rw [c2] at k h k'
      simp only [cond_true] at k h k' ⊢
      have hm : ∀ {x y : Box}, (boxesF x y).2 = true → boxMeets x y = true := by
        intro x y k
        unfold boxesF at k
        cases z : boxMeets x y with
        | true => rfl
        | false => rw [z] at k; cases k
      exact bb_apart hp hp' hq hq' (by omega) (by omega) (by omega) (by omega) (by omega) (by omega) (by omega) (by omega) (hm k) h (hm k')
    | false =>
      rw [c2] at k h k'
      simp only [cond_false] at k h k' ⊢
      cases c3 : a.Kind == 2 with
      | true =>
        rw [c3] at k h k'
        simp only [cond_true] at k h k' ⊢
        exact mix_apart hp hp' hq hq' (by omega) (by omega) (by omega) (by omega) (by omega) (by omega) k h k'
      | false =>
        rw [c3] at k h k'
        simp only [cond_false] at k h k' ⊢
        cases c4 : (mixedF (boxAt q b.Wide (highOf b)) p a.Wide).2 with
        | false => rw [c4] at k; cases k
        | true =>
          rw [c4] at h
          cases c5 : (mixedF (boxAt q' b.Wide (highOf b)) p' a.Wide).2 with
          | false => rw [c5] at k'; cases k'
          | true =>
            simp only [cond_true] at h ⊢
            have hw := (mixed_hit hq hp (by omega) (by omega) (by omega) (by omega) (by omega) (by omega) c4).1
            exact mix_apart hq hq' hp hp' (by omega) (by omega) (by omega) (by omega) (by omega) (by omega) c4 (along_turn hw h) c5
theorem share_le {a b : Body} {n : Int} (ha : bodyOk a = true) (hb : bodyOk b = true) (n0 : 0 ≤ n) (n1 : n ≤ 30000) : 0 ≤ shareF a b n ∧ shareF a b n ≤ 30000 := by
  have ma := (bok_iff.1 ha).2.2.2.2.1
  have mb := (bok_iff.1 hb).2.2.2.2.1
  unfold shareF
  split
  · omega
  · split
    · omega
    · have h1 := mul_le_mul0 n0 n1 mb.1 mb.2
      have h2 : n * b.Mass ≤ n * (a.Mass + b.Mass) := Int.mul_le_mul_of_nonneg_left (by omega) n0
      rw [show W (n * b.Mass) = n * b.Mass from W_small (by omega) (by omega), show W (a.Mass + b.Mass) = a.Mass + b.Mass from W_small (by omega) (by omega), Int.tdiv_eq_ediv_of_nonneg h1.1]
      have h3 := Int.ediv_nonneg h1.1 (show 0 ≤ a.Mass + b.Mass by omega)
      have h4 : n * b.Mass / (a.Mass + b.Mass) ≤ n := Int.ediv_le_of_le_mul (by omega) h2
      rw [W_small (by omega) (by omega)]
      omega
theorem scale_sign {w x : Int} (hw : -256 ≤ w ∧ w ≤ 256) (x0 : 0 ≤ x) (x1 : x ≤ 30000) : let s := W ((W (w * x)).tdiv 256); (0 ≤ w → 0 ≤ s) ∧ (w ≤ 0 → s ≤ 0) ∧ -30000 ≤ s ∧ s ≤ 30000 := by
  dsimp only
  have t := tdiv256 (w * x)
  rcases Int.le_total 0 w with h | h
  · have h1 := mul_le_mul0 h hw.2 x0 x1
    have h2 := t.1 h1.1
    rw [show W (w * x) = w * x from W_small (by omega) (by omega), show W ((w * x).tdiv 256) = _ from W_small (by omega) (by omega)]
    refine ⟨fun _ => by omega, fun q => ?_, by omega, by omega⟩
    have : w = 0 := by omega
    subst this
    simp
  · have h1 := mul_le_mul0 (x := -w) (X := 256) (by omega) (by omega) x0 x1
    rw [Int.neg_mul] at h1
    have h2 := t.2 (by omega)
    rw [show W (w * x) = w * x from W_small (by omega) (by omega), show W ((w * x).tdiv 256) = _ from W_small (by omega) (by omega)]
    refine ⟨fun q => ?_, fun _ => by omega, by omega, by omega⟩
    have : w = 0 := by omega
    subst this
    simp
theorem move_to {p s : Int} (h1 : -2560000 ≤ p) (h2 : p ≤ 2560000) (s1 : -30000 ≤ s) (s2 : s ≤ 30000) : (0 ≤ s → p ≤ withinI (W (p + s)) 2560000) ∧ (s ≤ 0 → withinI (W (p + s)) 2560000 ≤ p) ∧ -2560000 ≤ withinI (W (p + s)) 2560000 ∧ withinI (W (p + s)) 2560000 ≤ 2560000 := by
  rw [show W (p + s) = p + s from W_small (by omega) (by omega), withinI_far]
  unfold clampTo
  omega
theorem along_ab {w p p' q q' : Int} (h1 : 0 ≤ w → p' ≤ p) (h2 : w ≤ 0 → p ≤ p') (h3 : 0 ≤ w → q ≤ q') (h4 : w ≤ 0 → q' ≤ q) : alongI w p p' q q' := ⟨fun z => ⟨h1 z, h3 z⟩, fun z => ⟨h2 z, h4 z⟩⟩
theorem apart_pair {xs : List Body} {c : Contact} (hx : AllOk xs) (hc : ctOk xs.length c) (hh : hitS c.Hit) :
    placeV (Ty.ix .body (apartOne xs c) c.A.toNat).At ∧ placeV (Ty.ix .body (apartOne xs c) c.B.toNat).At ∧
    alongV c.Hit.Way (Ty.ix .body xs c.A.toNat).At (Ty.ix .body (apartOne xs c) c.A.toNat).At (Ty.ix .body xs c.B.toNat).At (Ty.ix .body (apartOne xs c) c.B.toNat).At := by
  have hne := ct_ne hc
  obtain ⟨a0, a1, b0, b1, _⟩ := hc
  have lA : c.A.toNat < xs.length := by omega
  have lB : c.B.toNat < xs.length := by omega
  have oA := hx _ lA
  have oB := hx _ lB
  have pA := (bok_iff.1 oA).2.2.1
  have pB := (bok_iff.1 oB).2.2.1
  obtain ⟨⟨w1, w2, w3, w4⟩, d0, d1⟩ := hh
  have hn : W (c.Hit.Deep - 64) = c.Hit.Deep - 64 := W_small (by omega) (by omega)
  unfold apartOne
  dsimp only
  rw [hn]
  split
  · exact ⟨pA, pB, ⟨⟨fun _ => ⟨Int.le_refl _, Int.le_refl _⟩, fun _ => ⟨Int.le_refl _, Int.le_refl _⟩⟩, ⟨fun _ => ⟨Int.le_refl _, Int.le_refl _⟩, fun _ => ⟨Int.le_refl _, Int.le_refl _⟩⟩⟩⟩
  · rename_i q
    have hN : 0 ≤ W ((c.Hit.Deep - 64).tdiv 4) ∧ W ((c.Hit.Deep - 64).tdiv 4) ≤ 30000 := by
      have hb : -16 ≤ (c.Hit.Deep - 64).tdiv 4 ∧ (c.Hit.Deep - 64).tdiv 4 ≤ 12800 := by
        rcases Int.le_total 0 (c.Hit.Deep - 64) with z | z
        · rw [Int.tdiv_eq_ediv_of_nonneg z]
          omega
        · have e := Int.tdiv_eq_ediv_of_nonneg (b := 4) (show 0 ≤ -(c.Hit.Deep - 64) by omega)
          rw [Int.neg_tdiv] at e
          omega
      have : W ((c.Hit.Deep - 64).tdiv 4) = (c.Hit.Deep - 64).tdiv 4 := W_small (by omega) (by omega)
      rw [this] at q ⊢
      omega
    generalize W ((c.Hit.Deep - 64).tdiv 4) = n at *
    have sA := share_le oA oB hN.1 hN.2
    have sB := share_le oB oA hN.1 hN.2
    generalize shareF (Ty.ix .body xs c.A.toNat) (Ty.ix .body xs c.B.toNat) n = x at *
    generalize shareF (Ty.ix .body xs c.B.toNat) (Ty.ix .body xs c.A.toNat) n = y at *
    have eo : oppV c.Hit.Way = ⟨-c.Hit.Way.X, -c.Hit.Way.Y⟩ := by
      unfold oppV
      rw [W_small (by omega) (by omega), W_small (by omega) (by omega), Int.zero_sub, Int.zero_sub]
    rw [eo]
    have x1 := scale_sign (w := -c.Hit.Way.X) (x := x) (by omega) sA.1 sA.2
    have x2 := scale_sign (w := -c.Hit.Way.Y) (x := x) (by omega) sA.1 sA.2
    have y1 := scale_sign (w := c.Hit.Way.X) (x := y) (by omega) sB.1 sB.2
    have y2 := scale_sign (w := c.Hit.Way.Y) (x := y) (by omega) sB.1 sB.2
    have mx1 := move_to pA.1 pA.2.1 x1.2.2.1 x1.2.2.2
    have mx2 := move_to pA.2.2.1 pA.2.2.2 x2.2.2.1 x2.2.2.2
    have my1 := move_to pB.1 pB.2.1 y1.2.2.1 y1.2.2.2
    have my2 := move_to pB.2.2.1 pB.2.2.2 y2.2.2.1 y2.2.2.2
    have eA : (moveB (Ty.ix .body xs c.A.toNat) (scaled ⟨-c.Hit.Way.X, -c.Hit.Way.Y⟩ x)).At = ⟨withinI (W ((Ty.ix .body xs c.A.toNat).At.X + W ((W (-c.Hit.Way.X * x)).tdiv 256))) 2560000, withinI (W ((Ty.ix .body xs c.A.toNat).At.Y + W ((W (-c.Hit.Way.Y * x)).tdiv 256))) 2560000⟩ := rfl
    have eB : (moveB (Ty.ix .body xs c.B.toNat) (scaled c.Hit.Way y)).At = ⟨withinI (W ((Ty.ix .body xs c.B.toNat).At.X + W ((W (c.Hit.Way.X * y)).tdiv 256))) 2560000, withinI (W ((Ty.ix .body xs c.B.toNat).At.Y + W ((W (c.Hit.Way.Y * y)).tdiv 256))) 2560000⟩ := rfl
    have hneB : ∀ v : Body, Ty.ix .body (xs.set c.A.toNat v) c.B.toNat = Ty.ix .body xs c.B.toNat := fun v => ix_set_ne (T := .body) hne
    have hsA : ∀ v : Body, Ty.ix .body (xs.set c.A.toNat v) c.A.toNat = v := fun v => ix_set_self (T := .body) lA
    have hB1 : ∀ (ys : List Body) (v : Body), c.B.toNat < ys.length → Ty.ix .body (ys.set c.B.toNat v) c.B.toNat = v := fun ys v h => ix_set_self (T := .body) h
    have hB2 : ∀ (ys : List Body) (v : Body), Ty.ix .body (ys.set c.B.toNat v) c.A.toNat = Ty.ix .body ys c.A.toNat := fun ys v => ix_set_ne (T := .body) (fun e => hne e.symm)
    dsimp only at x1 x2 y1 y2
    split
    · split
      · exact ⟨pA, pB, ⟨⟨fun _ => ⟨Int.le_refl _, Int.le_refl _⟩, fun _ => ⟨Int.le_refl _, Int.le_refl _⟩⟩, ⟨fun _ => ⟨Int.le_refl _, Int.le_refl _⟩, fun _ => ⟨Int.le_refl _, Int.le_refl _⟩⟩⟩⟩
      · rw [hneB, hsA, eA]
        refine ⟨?_, pB, ?_⟩
        · unfold placeV
          dsimp only
          omega
        · unfold alongV alongI
          dsimp only
          omega
    · split
      · rw [hB1 _ _ lB, hB2, eB]
        refine ⟨pA, ?_, ?_⟩
        · unfold placeV
          dsimp only
          omega
        · unfold alongV alongI
          dsimp only
          omega
      · rw [hB1 _ _ (by simpa using lB), hB2, hsA, eA, eB]
        refine ⟨?_, ?_, ?_⟩
        · unfold placeV
          dsimp only
          omega
        · unfold placeV
          dsimp only
          omega
        · exact ⟨along_ab (fun z => mx1.2.1 (x1.2.1 (by omega))) (fun z => mx1.1 (x1.1 (by omega))) (fun z => my1.1 (y1.1 z)) (fun z => my1.2.1 (y1.2.1 z)),
            along_ab (fun z => mx2.2.1 (x2.2.1 (by omega))) (fun z => mx2.1 (x2.1 (by omega))) (fun z => my2.1 (y2.1 z)) (fun z => my2.2.1 (y2.2.1 z))⟩
theorem placeOk_V {p : Vec} (h : placeV p) : placeOk p = true := by
  obtain ⟨h1, h2, h3, h4⟩ := h
  simp only [placeOk, isIn, Bool.and_eq_true, decide_eq_true_eq]
  omega
theorem touch_all {a b : Body} (ha : bodyOk a = true) (hb : bodyOk b = true) : touchB a b = touchF a.Shape a.At b.Shape b.At := by
  have h1 := bok_iff.1 ha
  have h2 := bok_iff.1 hb
  simp [touchB, touchAll, h1.2.1, h2.2.1, placeOk_V h1.2.2.1, placeOk_V h2.2.2.1]
theorem contact_hit {xs : List Body} (hok : bodiesOk xs = true) {c : Contact} (hc : c ∈ contactsF xs) : hitS c.Hit ∧ touchB (Ty.ix .body xs c.A.toNat) (Ty.ix .body xs c.B.toNat) = (c.Hit, true) ∧ ctOk xs.length c := by
  obtain ⟨i, k, q1, q2, q3, q4, q5⟩ := mem_contactsF hc
  have o1 := bodiesOk_each hok (k := i) (by omega)
  have o2 := bodiesOk_each hok q2
  have e1 : c.A.toNat = i := by rw [q3]; rfl
  have e2 : c.B.toNat = k := by rw [q3]; rfl
  have e3 : c.Hit = (touchB (Ty.ix .body xs i) (Ty.ix .body xs k)).1 := by rw [q3]
  rw [e1, e2, e3]
  refine ⟨?_, by rw [← q4], ?_⟩
  · rw [touch_all o1 o2] at q4 ⊢
    exact touch_hit (bok_iff.1 o1).2.1 (bok_iff.1 o2).2.1 (bok_iff.1 o1).2.2.1 (bok_iff.1 o2).2.2.1 q4
  · rw [q3]
    unfold ctOk
    dsimp only
    omega
theorem apart_deep {xs : List Body} (hok : bodiesOk xs = true) {c : Contact} (hc : c ∈ contactsF xs) (k : (touchB (Ty.ix .body (apartOne xs c) c.A.toNat) (Ty.ix .body (apartOne xs c) c.B.toNat)).2 = true) :
    (touchB (Ty.ix .body (apartOne xs c) c.A.toNat) (Ty.ix .body (apartOne xs c) c.B.toNat)).1.Deep ≤ c.Hit.Deep := by
  obtain ⟨h1, h2, h3⟩ := contact_hit hok hc
  have hx := allOk_of hok
  obtain ⟨p1, p2, p3⟩ := apart_pair hx h3 h1
  have hk := kin_apartOne (xs := xs) (c := c) (ct_ne h3)
  have ⟨a0, a1, b0, b1, _⟩ := h3
  have lA : c.A.toNat < xs.length := by omega
  have lB : c.B.toNat < xs.length := by omega
  have oA := hx _ lA
  have oB := hx _ lB
  have hy := ok_apartOne (c := c) hx
  have oA' := hy c.A.toNat (by rw [length_apartOne]; exact lA)
  have oB' := hy c.B.toNat (by rw [length_apartOne]; exact lB)
  rw [touch_all oA' oB', ← (hk.2 _ lA).2.1, ← (hk.2 _ lB).2.1] at k ⊢
  rw [touch_all oA oB] at h2
  have e : c.Hit = (touchF (Ty.ix .body xs c.A.toNat).Shape (Ty.ix .body xs c.A.toNat).At (Ty.ix .body xs c.B.toNat).Shape (Ty.ix .body xs c.B.toNat).At).1 := by rw [h2]
  rw [e] at p3 ⊢
  exact touch_apart (bok_iff.1 oA).2.1 (bok_iff.1 oB).2.1 (bok_iff.1 oA).2.2.1 p1 (bok_iff.1 oB).2.2.1 p2 (by rw [h2]) p3 k
end Go.Proofs.YtdhbkcaaijgocaaGreat.Sym

