/-
  What the rows of this claim stand on, part 7: the machine, the walks, the plain laws, as far as they are used.
  No condition.
-/
import Derived.Test.YtdhbkcaaijgocaaGreatCE6
namespace Go.Proofs.YtdhbkcaaijgocaaGreat.Sym
open Go
set_option linter.unusedVariables false
set_option linter.unusedSimpArgs false
set_option maxRecDepth 100000
noncomputable section

def agree (xs : List Body) (out : List Int) (f : Nat → Int) : Prop := out.length = xs.length ∧ ∀ j, j < xs.length → gi out j = f j
def edgesC (xs : List Body) (cs : List Contact) : List Grp.Edge := (cs.filter fun c => freeB xs c.A.toNat && freeB xs c.B.toNat).map edgeC
theorem edgesC_drop {xs : List Body} {cs : List Contact} {i : Nat} (h : i < cs.length) :
    edgesC xs (cs.drop i) = (bif freeB xs (Ty.ix .contact cs i).A.toNat && freeB xs (Ty.ix .contact cs i).B.toNat then [edgeC (Ty.ix .contact cs i)] else []) ++ edgesC xs (cs.drop (i + 1)) := by
  unfold edgesC
  rw [drop_ix (T := .contact) h, List.filter_cons]
  cases freeB xs (Ty.ix .contact cs i).A.toNat && freeB xs (Ty.ix .contact cs i).B.toNat <;> simp
theorem agree_relax {xs : List Body} {out : List Int} {f : Nat → Int} {a b : Nat} (h : agree xs out f) (ha : a < xs.length) (hb : b < xs.length) :
    agree xs ((out.set a (min (gi out a) (gi out b))).set b (min (gi out a) (gi out b))) (Grp.relax f (a, b)) := by
  obtain ⟨h1, h2⟩ := h
  refine ⟨by simp [h1], fun j hj => ?_⟩
  rw [gi_set (by simp; omega), gi_set (by omega), Grp.relax_at, h2 a ha, h2 b hb]
  by_cases e1 : b = j
  · rw [if_pos e1, if_pos (.inl e1.symm)]
  · by_cases e2 : a = j
    · rw [if_neg e1, if_pos e2, if_pos (.inr e2.symm)]
    · rw [if_neg e1, if_neg e2, if_neg (by rintro (q | q); exact e1 q.symm; exact e2 q.symm)]
      exact h2 j hj
theorem gen_succ {α : Type} (f : Nat → α) (n : Nat) : gen f (n + 1) = gen f n ++ [f n] := by simp [gen, List.range_succ]
theorem edges_lt (xs : List Body) : ∀ e, e ∈ edgesX xs → e.1 < xs.length ∧ e.2 < xs.length := fun e he => by
  obtain ⟨_, _, _, _, _, h1, h2⟩ := of_edges he
  exact ⟨h1, h2⟩
/-- Each body's label is the least of its part. -/
def LabOk (xs : List Body) (gs : List Int) : Prop := gs.length = xs.length ∧ ∀ j, j < xs.length → gi gs j = cmX xs j
theorem lab_done {xs : List Body} {out : List Int} {f : Nat → Int} (h : agree xs out f) (hr : Grp.rounds (edgesX xs) 0 f = Grp.rounds (edgesX xs) xs.length (fun j => (j : Int))) : LabOk xs out := by
  refine ⟨h.1, fun j hj => ?_⟩
  have e : Grp.rounds (edgesX xs) xs.length (fun j => (j : Int)) j = (cmX xs j : Int) := Grp.rounds_cm (edges_lt xs) hj
  rw [h.2 j hj, ← e, ← hr]
  rfl
def firstsI (xs : List Body) (i : Nat) : List Int := (Grp.firsts (freeB xs) (cmX xs) i).map fun k : Nat => (k : Int)
theorem length_firstsI (xs : List Body) (i : Nat) : (firstsI xs i).length = numX xs i := by simp [firstsI, Grp.length_firsts, numX]
theorem firstsI_lead {xs : List Body} {i : Nat} (h : Grp.lead (freeB xs) (cmX xs) i = true) : firstsI xs (i + 1) = firstsI xs i ++ [(i : Int)] := by simp [firstsI, Grp.firsts, h]
theorem firstsI_not {xs : List Body} {i : Nat} (h : Grp.lead (freeB xs) (cmX xs) i = false) : firstsI xs (i + 1) = firstsI xs i := by simp [firstsI, Grp.firsts, h]
def AtInv (xs : List Body) (i k : Nat) (at' : Int) : Prop := (at' = -1 ∧ ∀ p, p < k → gi (firstsI xs i) p ≠ cmX xs i) ∨ (at' = numX xs (cmX xs i) ∧ cmX xs i < i)
theorem at_hit {xs : List Body} {i k : Nat} (hk : k < (firstsI xs i).length) (h : gi (firstsI xs i) k = cmX xs i) : AtInv xs i (k + 1) k := by
  have h1 : (firstsI xs i)[k]? = some ((cmX xs i : Nat) : Int) := by rw [← h]; exact ix_get (T := .int) hk
  simp only [firstsI, List.getElem?_map, Option.map_eq_some_iff] at h1
  obtain ⟨m, m1, m2⟩ := h1
  have m3 : m = cmX xs i := Int.ofNat.inj m2
  rw [m3] at m1
  have p1 := Grp.firsts_pos m1
  have p2 := Grp.firsts_lt _ _ _ _ (List.mem_of_getElem? m1)
  exact .inr ⟨by rw [show (k : Int) = ((numX xs (cmX xs i) : Nat) : Int) from congrArg _ p1], p2⟩
theorem at_miss {xs : List Body} {i k : Nat} {a : Int} (h : AtInv xs i k a) (hn : gi (firstsI xs i) k ≠ cmX xs i) : AtInv xs i (k + 1) a := by
  rcases h with h | h
  · refine .inl ⟨h.1, fun p hp => ?_⟩
    by_cases e : p = k
    · rw [e]; exact hn
    · exact h.2 p (by omega)
  · exact .inr h
theorem at_end {xs : List Body} {i : Nat} {a : Int} (h : AtInv xs i (firstsI xs i).length a) (hf : freeB xs i = true) :
    (a = -1 ∧ cmX xs i = i ∧ Grp.lead (freeB xs) (cmX xs) i = true) ∨ (a = numX xs (cmX xs i) ∧ 0 ≤ a ∧ Grp.lead (freeB xs) (cmX xs) i = false) := by
  have hle := cmX_le xs i
  rcases h with h | h
  · left
    have e : cmX xs i = i := by
      refine Classical.byContradiction fun hne => ?_
      have h1 := Grp.firsts_at (lead_cm hf) i (by omega)
      have h2 : (firstsI xs i)[numX xs (cmX xs i)]? = some ((cmX xs i : Nat) : Int) := by
        simp only [firstsI, List.getElem?_map]
        unfold numX
        rw [h1]
        rfl
      exact h.2 _ (List.getElem?_eq_some_iff.1 h2).1 (ix_eq (T := .int) h2)
    exact ⟨h.1, e, lead_iff.2 ⟨hf, e⟩⟩
  · right
    refine ⟨h.1, by rw [h.1]; exact Int.natCast_nonneg _, ?_⟩
    cases q : Grp.lead (freeB xs) (cmX xs) i with
    | false => rfl
    | true =>
      have := (lead_iff.1 q).2
      omega
theorem groupsX_drop {xs : List Body} {i : Nat} (h : i < xs.length) : (groupsX xs).drop i = gOf xs xs.length i :: (groupsX xs).drop (i + 1) := by
  have := drop_ix (T := .int) (xs := groupsX xs) (i := i) (by simp only [groupsX, length_gen]; exact h)
  rw [show Ty.ix .int (groupsX xs) i = gOf xs xs.length i from ix_gen (T := .int) h] at this
  exact this
def LSnu1  : LS where
  S := List Body × List Int × Unit × Unit × List Int × List Int × Int
  live := [(0, [none]), (1, [none]), (5, [some .int]), (6, [some .int]), (7, [none])]
  shape := fun s => ([.vec 0, .vec 1, .vec 2, .vec 3, .int .i64 s.2.2.2.2.2.2], [(false, .vec .body s.1), (false, .vec .int s.2.1), (true, .vec .int s.2.2.2.2.1), (true, .vec .int s.2.2.2.2.2.1)])
  get := fun v h => match v, h with
    | [.vec 0, .vec 1, .vec 2, .vec 3, .int .i64 i], [(false, .vec .body xs), (false, .vec .int gs), (true, .vec .int out), (true, .vec .int fs)] => some (xs, gs, (), (), out, fs, i)
    | _, _ => none
  inv := fun s0 s => Holds (s.1 = s0.1 ∧ s.2.1 = s0.2.1 ∧ 0 ≤ s.2.2.2.2.2.2 ∧ s.2.2.2.2.2.2 ≤ s0.1.length ∧ s.2.2.2.2.2.1 = firstsI s0.1 s.2.2.2.2.2.2.toNat ∧ s.2.2.2.2.1 ++ (groupsX s0.1).drop s.2.2.2.2.2.2.toNat = groupsX s0.1)
  mu := fun s => ((s.1.length : Int) - s.2.2.2.2.2.2).toNat
  ok := by
    intro v h s hg
    try dsimp only at hg
    split at hg <;> cases hg
    rfl

def LSnu2  : LS where
  S := List Body × List Int × Unit × Unit × List Int × List Int × Int × Int × Int
  live := [(0, [none]), (1, [none]), (5, [some .int]), (6, [some .int]), (7, [none]), (8, [none]), (9, [none])]
  shape := fun s => ([.vec 0, .vec 1, .vec 2, .vec 3, .int .i64 s.2.2.2.2.2.2.1, .int .i64 s.2.2.2.2.2.2.2.1, .int .i64 s.2.2.2.2.2.2.2.2], [(false, .vec .body s.1), (false, .vec .int s.2.1), (true, .vec .int s.2.2.2.2.1), (true, .vec .int s.2.2.2.2.2.1)])
  get := fun v h => match v, h with
    | [.vec 0, .vec 1, .vec 2, .vec 3, .int .i64 i, .int .i64 a, .int .i64 k], [(false, .vec .body xs), (false, .vec .int gs), (true, .vec .int out), (true, .vec .int fs)] => some (xs, gs, (), (), out, fs, i, a, k)
    | _, _ => none
  inv := fun s0 s => Holds (s.1 = s0.1 ∧ s.2.1 = s0.2.1 ∧ s.2.2.2.2.1 = s0.2.2.2.2.1 ∧ s.2.2.2.2.2.1 = s0.2.2.2.2.2.1 ∧ s.2.2.2.2.2.2.1 = s0.2.2.2.2.2.2.1 ∧ 0 ≤ s.2.2.2.2.2.2.2.2 ∧ s.2.2.2.2.2.2.2.2 ≤ s0.2.2.2.2.2.1.length ∧ AtInv s0.1 s0.2.2.2.2.2.2.1.toNat s.2.2.2.2.2.2.2.2.toNat s.2.2.2.2.2.2.2.1)
  mu := fun s => ((s.2.2.2.2.2.1.length : Int) - s.2.2.2.2.2.2.2.2).toNat
  ok := by
    intro v h s hg
    try dsimp only at hg
    split at hg <;> cases hg
    rfl

def L_number : Loops := fun n => match n with
  | 4 => some LSnu1
  | 10 => some LSnu2
  | _ => none
noncomputable def fs_l7Number : Fs := ⟨[], fun args H => match args, H with
  | [.vec 0, .vec 1], [(false, .vec .body xs), (false, .vec .int gs)] => some ((some (xs.length ≤ 12 ∧ LabOk xs gs)), .vec 2, [(false, .vec .body xs), (false, .vec .int gs), (true, .vec .int (groupsX xs))])
  | _, _ => none⟩

theorem vc_l7Number (xs : List Body) (gs : List Int) (Q : SV → List Ent → Prop) :
    fnVC tt (look []) (L_number) Tryz.f214 [.vec 0, .vec 1] [(false, .vec .body xs), (false, .vec .int gs)] Q =
    (let w_ := IntKind.wrap IntKind.i64; let n_ := Int.toNat; Holds (xs = xs ∧ gs = gs ∧ (0 : Int) ≤ (0 : Int) ∧ (0 : Int) ≤ (↑(List.length xs) : Int) ∧ [] = firstsI xs (n_ (0 : Int)) ∧ [] ++ List.drop (n_ (0 : Int)) (groupsX xs) = groupsX xs) ∧ ∀ (y8 : List Body × List Int × Unit × Unit × List Int × List Int × Int), let y8f0_ := Prod.fst y8; let y8s1_ := Prod.snd y8; let y8f1_ := Prod.fst (Prod.snd y8); let y8f4_ := Prod.fst (Prod.snd (Prod.snd (Prod.snd (Prod.snd y8)))); let y8s5_ := Prod.snd (Prod.snd (Prod.snd (Prod.snd (Prod.snd y8)))); let y8f5_ := Prod.fst (Prod.snd (Prod.snd (Prod.snd (Prod.snd (Prod.snd y8))))); let y8s6_ := Prod.snd (Prod.snd (Prod.snd (Prod.snd (Prod.snd (Prod.snd y8))))); let A10_ := (Prod.snd y8s5_ + (1 : Int)); let A9_ := (↑(List.length y8f0_) : Int); Holds (Prod.fst y8 = xs ∧ y8f1_ = gs ∧ (0 : Int) ≤ y8s6_ ∧ y8s6_ ≤ (↑(List.length xs) : Int) ∧ y8f5_ = firstsI xs (n_ y8s6_) ∧ y8f4_ ++ List.drop (n_ y8s6_) (groupsX xs) = groupsX xs) → ifB (decide (Prod.snd y8s5_ < A9_)) (((0 : Int) ≤ y8s6_ ∧ y8s6_ < A9_) ∧ ifB (Body.Mass (Ty.ix Ty.body y8f0_ (n_ y8s6_)) == (0 : Int)) ((List.length y8f4_ + List.length [(-1 : Int)]) * (8 : Nat) ≤ room ∧ Holds (Prod.fst y8 = xs ∧ y8f1_ = gs ∧ (0 : Int) ≤ w_ A10_ ∧ w_ A10_ ≤ (↑(List.length xs) : Int) ∧ y8f5_ = firstsI xs (n_ (w_ A10_)) ∧ y8f4_ ++ [(-1 : Int)] ++ List.drop (n_ (w_ A10_)) (groupsX xs) = groupsX xs) ∧ n_ (A9_ - w_ A10_) < n_ (A9_ - y8s6_)) (Holds (Prod.fst y8 = y8f0_ ∧ y8f1_ = y8f1_ ∧ y8f4_ = y8f4_ ∧ y8f5_ = y8f5_ ∧ y8s6_ = y8s6_ ∧ (0 : Int) ≤ (0 : Int) ∧ (0 : Int) ≤ (↑(List.length y8f5_) : Int) ∧ AtInv y8f0_ (n_ y8s6_) (n_ (0 : Int)) (-1 : Int)) ∧ ∀ (y1 : List Body × List Int × Unit × Unit × List Int × List Int × Int × Int × Int), let y1f0_ := Prod.fst y1; let y1s1_ := Prod.snd y1; let y1f1_ := Prod.fst (Prod.snd y1); let y1f4_ := Prod.fst (Prod.snd (Prod.snd (Prod.snd (Prod.snd y1)))); let y1f5_ := Prod.fst (Prod.snd (Prod.snd (Prod.snd (Prod.snd (Prod.snd y1))))); let y1s6_ := Prod.snd (Prod.snd (Prod.snd (Prod.snd (Prod.snd (Prod.snd y1))))); let y1f6_ := Prod.fst (Prod.snd (Prod.snd (Prod.snd (Prod.snd (Prod.snd (Prod.snd y1)))))); let y1s7_ := Prod.snd (Prod.snd (Prod.snd (Prod.snd (Prod.snd (Prod.snd (Prod.snd y1)))))); let y1f7_ := Prod.fst (Prod.snd (Prod.snd (Prod.snd (Prod.snd (Prod.snd (Prod.snd (Prod.snd y1))))))); let y1s8_ := Prod.snd (Prod.snd (Prod.snd (Prod.snd (Prod.snd (Prod.snd (Prod.snd (Prod.snd y1))))))); let A6_ := (Prod.snd (Prod.snd (Prod.snd y8s1_))); let A5_ := (Prod.snd y1s7_ + (1 : Int)); let A4_ := (↑(List.length y1f5_) : Int); let A3_ := (Prod.fst y1s6_ + (1 : Int)); let A7_ := (n_ (w_ A3_)); let A2_ := (Prod.snd A6_); Holds (Prod.fst y1 = y8f0_ ∧ y1f1_ = y8f1_ ∧ y1f4_ = Prod.fst A6_ ∧ y1f5_ = Prod.fst A2_ ∧ y1f6_ = Prod.snd A2_ ∧ (0 : Int) ≤ y1s8_ ∧ y1s8_ ≤ (↑(List.length (Prod.fst A2_)) : Int) ∧ AtInv y8f0_ (n_ (Prod.snd A2_)) (n_ y1s8_) y1f7_) → ifB (decide (Prod.snd y1s7_ < A4_)) (((0 : Int) ≤ y1s8_ ∧ y1s8_ < A4_) ∧ ((0 : Int) ≤ y1f6_ ∧ y1f6_ < (↑(List.length y1f1_) : Int)) ∧ ifB (Ty.ix Ty.int y1f5_ (n_ y1s8_) == Ty.ix Ty.int y1f1_ (n_ y1f6_)) (Holds (Prod.fst y1 = y8f0_ ∧ y1f1_ = y8f1_ ∧ y1f4_ = Prod.fst A6_ ∧ y1f5_ = Prod.fst A2_ ∧ y1f6_ = Prod.snd A2_ ∧ (0 : Int) ≤ w_ A5_ ∧ w_ A5_ ≤ (↑(List.length (Prod.fst A2_)) : Int) ∧ AtInv y8f0_ (n_ (Prod.snd A2_)) (n_ (w_ A5_)) y1s8_) ∧ n_ (A4_ - w_ A5_) < n_ (A4_ - y1s8_)) (Holds (Prod.fst y1 = y8f0_ ∧ y1f1_ = y8f1_ ∧ y1f4_ = Prod.fst A6_ ∧ y1f5_ = Prod.fst A2_ ∧ y1f6_ = Prod.snd A2_ ∧ (0 : Int) ≤ w_ A5_ ∧ w_ A5_ ≤ (↑(List.length (Prod.fst A2_)) : Int) ∧ AtInv y8f0_ (n_ (Prod.snd A2_)) (n_ (w_ A5_)) y1f7_) ∧ n_ (A4_ - w_ A5_) < n_ (A4_ - y1s8_))) (ifB (decide (Prod.fst y1s7_ < (0 : Int))) (((0 : Int) ≤ y1f6_ ∧ y1f6_ < (↑(List.length y1f1_) : Int)) ∧ (List.length y1f5_ + List.length [Ty.ix Ty.int y1f1_ (n_ y1f6_)]) * (8 : Nat) ≤ room ∧ (List.length y1f4_ + List.length [A4_]) * (8 : Nat) ≤ room ∧ Holds (Prod.fst y1 = xs ∧ y1f1_ = gs ∧ (0 : Int) ≤ w_ A3_ ∧ w_ A3_ ≤ (↑(List.length xs) : Int) ∧ y1f5_ ++ [Ty.ix Ty.int y1f1_ (n_ y1f6_)] = firstsI xs A7_ ∧ y1f4_ ++ [A4_] ++ List.drop A7_ (groupsX xs) = groupsX xs) ∧ n_ ((↑(List.length y1f0_) : Int) - w_ A3_) < n_ (A9_ - Prod.snd A2_)) ((List.length y1f4_ + List.length [y1f7_]) * (8 : Nat) ≤ room ∧ Holds (Prod.fst y1 = xs ∧ y1f1_ = gs ∧ (0 : Int) ≤ w_ A3_ ∧ w_ A3_ ≤ (↑(List.length xs) : Int) ∧ y1f5_ = firstsI xs A7_ ∧ y1f4_ ++ [y1f7_] ++ List.drop A7_ (groupsX xs) = groupsX xs) ∧ n_ ((↑(List.length y1f0_) : Int) - w_ A3_) < n_ (A9_ - Prod.snd A2_))))) (Q (SV.vec (2 : Nat)) [(false, Blk.vec Ty.body y8f0_), (false, Blk.vec Ty.int y8f1_), (true, Blk.vec Ty.int y8f4_)])) := by kernel_rfl

theorem ok_l7Number : FsOk Tryz.prog 214 fs_l7Number := fsOk_of tt_ok tabFs_nil mixed Tryz.func214 (by kernel_rfl) (by kernel_rfl) (by
    intro args LL p r HH h hp
    unfold fs_l7Number at h
    dsimp only at h
    split at h
    case h_2 => cases h
    rename_i xs gs
    simp only [Option.some.injEq, Prod.mk.injEq] at h
    obtain ⟨rfl, rfl, rfl⟩ := h
    refine ⟨by simp [Form, stays], (L_number), ?_⟩
    rw [vc_l7Number]
    try dsimp only
    obtain ⟨hl, hL⟩ := hp _ rfl
    have hgl : (groupsX xs).length = xs.length := by simp only [groupsX, length_gen]
    refine ⟨⟨(by trivial), (by trivial), by omega, by omega, rfl, rfl⟩, ?_⟩
    rintro ⟨xs', gs', u, v, out, fs, i⟩ ⟨h⟩
    dsimp only at h ⊢
    obtain ⟨rfl, rfl, i0, i1, rfl, h5⟩ := h
    have hs := congrArg List.length h5
    rw [List.length_append, List.length_drop] at hs
    have hfl := length_firstsI xs' i.toNat
    have hnl := num_le xs' i.toNat
    refine ifB_of (fun c => ?_) (fun c => ?_)
    · have c := of_decide_eq_true c
      have hi : i.toNat < xs'.length := by omega
      have e1 : (i + 1).toNat = i.toNat + 1 := by omega
      have w : IntKind.i64.wrap (i + 1) = i + 1 := wrap_small (by omega) (by omega)
      have hgi : Ty.ix .int gs' i.toNat = (cmX xs' i.toNat : Int) := hL.2 _ hi
      rw [groupsX_drop hi] at h5
      have hgo := gOf_all hi
      rw [w, e1]
      refine ⟨⟨i0, c⟩, ifB_of (fun d => ?_) (fun d => ⟨⟨(by trivial), (by trivial), (by trivial), (by trivial), (by trivial), by omega, by omega, .inl ⟨rfl, fun p hp => absurd hp (by simp)⟩⟩, ?_⟩)⟩
      · have f : freeB xs' i.toNat = false := by
          unfold freeB
          rw [d]
          rfl
        have l0 : Grp.lead (freeB xs') (cmX xs') i.toNat = false := by simp [Grp.lead, f]
        rw [f] at hgo
        refine ⟨by simp only [room, List.length_singleton]; omega, ⟨(by trivial), (by trivial), by omega, by omega, (firstsI_not l0).symm, ?_⟩, by omega⟩
        rw [hgo] at h5
        rw [List.append_assoc]
        exact h5
      · have f : freeB xs' i.toNat = true := by
          unfold freeB
          rw [d]
          rfl
        rw [f] at hgo
        have hgo : gOf xs' xs'.length i.toNat = (numX xs' (cmX xs' i.toNat) : Int) := hgo
        rintro ⟨xs2, gs2, u2, v2, out2, fs2, i2, a, k⟩ ⟨h⟩
        dsimp only at h ⊢
        obtain ⟨rfl, rfl, rfl, rfl, rfl, k0, k1, hA⟩ := h
        refine ifB_of (fun c2 => ?_) (fun c2 => ?_)
        · have c2 := of_decide_eq_true c2
          have e2 : (k + 1).toNat = k.toNat + 1 := by omega
          have w2 : IntKind.i64.wrap (k + 1) = k + 1 := wrap_small (by omega) (by omega)
          rw [w2, e2]
          refine ⟨⟨k0, c2⟩, ⟨i0, by rw [hL.1]; omega⟩, ifB_of (fun q => ⟨⟨(by trivial), (by trivial), (by trivial), (by trivial), (by trivial), by omega, by omega, ?_⟩, by omega⟩) (fun q => ⟨⟨(by trivial), (by trivial), (by trivial), (by trivial), (by trivial), by omega, by omega, at_miss hA ?_⟩, by omega⟩)⟩
          · have q := (eq_of_beq q).trans hgi
            have := at_hit (xs := xs2) (i := i2.toNat) (k := k.toNat) (by omega) q
            rwa [show ((k.toNat : Nat) : Int) = k by omega] at this
          · intro z
            exact beq_eq_false_iff_ne.1 q (z.trans hgi.symm)
        · have c2 := of_decide_eq_false c2
          rw [show k.toNat = (firstsI xs2 i2.toNat).length by omega] at hA
          rw [hgo] at h5
          rw [w, e1, hgi]
          rcases at_end hA f with ⟨q1, q2, q3⟩ | ⟨q1, q2, q3⟩
          · subst q1
            refine ifB_of (fun _ => ?_) (fun z => absurd (of_decide_eq_false z) (by omega))
            refine ⟨⟨i0, by rw [hL.1]; omega⟩, by simp only [room, List.length_singleton]; omega, by simp only [room, List.length_singleton]; omega, ⟨(by trivial), (by trivial), by omega, by omega, ?_, ?_⟩, by omega⟩
            · rw [firstsI_lead q3, q2]
            · rw [List.append_assoc, hfl]
              rw [q2] at h5
              exact h5
          · refine ifB_of (fun z => ?_) (fun _ => ?_)
            · have := of_decide_eq_true z
              omega
            · refine ⟨by simp only [room, List.length_singleton]; omega, ⟨(by trivial), (by trivial), by omega, by omega, (firstsI_not q3).symm, ?_⟩, by omega⟩
              rw [List.append_assoc, q1]
              exact h5
    · have c := of_decide_eq_false c
      rw [drop_end (by omega), List.append_nil] at h5
      rw [h5]
      exact ⟨(by trivial), (by trivial)⟩)

def LSgp1  : LS where
  S := List Body × List Contact × Unit × Unit × List Int × Int
  live := [(0, [none]), (1, [none]), (5, [some .int]), (6, [none])]
  shape := fun s => ([.vec 0, .vec 1, .vec 2, .int .i64 s.2.2.2.2.2], [(false, .vec .body s.1), (false, .vec .contact s.2.1), (true, .vec .int s.2.2.2.2.1)])
  get := fun v h => match v, h with
    | [.vec 0, .vec 1, .vec 2, .int .i64 i], [(false, .vec .body xs), (false, .vec .contact cs), (true, .vec .int out)] => some (xs, cs, (), (), out, i)
    | _, _ => none
  inv := fun s0 s => Holds (s.1 = s0.1 ∧ s.2.1 = s0.2.1 ∧ 0 ≤ s.2.2.2.2.2 ∧ s.2.2.2.2.2 ≤ s0.1.length ∧ s.2.2.2.2.1 = gen (fun j => (j : Int)) s.2.2.2.2.2.toNat)
  mu := fun s => ((s.1.length : Int) - s.2.2.2.2.2).toNat
  ok := by
    intro v h s hg
    try dsimp only at hg
    split at hg <;> cases hg
    rfl

def LSgp2  : LS where
  S := List Body × List Contact × Unit × Unit × List Int × Int
  live := [(0, [none]), (1, [none]), (5, [some .int]), (7, [none])]
  shape := fun s => ([.vec 0, .vec 1, .vec 2, .int .i64 s.2.2.2.2.2], [(false, .vec .body s.1), (false, .vec .contact s.2.1), (true, .vec .int s.2.2.2.2.1)])
  get := fun v h => match v, h with
    | [.vec 0, .vec 1, .vec 2, .int .i64 n], [(false, .vec .body xs), (false, .vec .contact cs), (true, .vec .int out)] => some (xs, cs, (), (), out, n)
    | _, _ => none
  inv := fun s0 s => Holds (s.1 = s0.1 ∧ s.2.1 = s0.2.1 ∧ 0 ≤ s.2.2.2.2.2 ∧ s.2.2.2.2.2 ≤ s0.1.length ∧ ∃ f, agree s0.1 s.2.2.2.2.1 f ∧ Grp.rounds (edgesX s0.1) (s0.1.length - s.2.2.2.2.2.toNat) f = Grp.rounds (edgesX s0.1) s0.1.length (fun j => (j : Int)))
  mu := fun s => ((s.1.length : Int) - s.2.2.2.2.2).toNat
  ok := by
    intro v h s hg
    try dsimp only at hg
    split at hg <;> cases hg
    rfl

def LSgp3  : LS where
  S := List Body × List Contact × Unit × Unit × List Int × Int × Int
  live := [(0, [none]), (1, [none]), (5, [some .int]), (7, [none]), (8, [none])]
  shape := fun s => ([.vec 0, .vec 1, .vec 2, .int .i64 s.2.2.2.2.2.1, .int .i64 s.2.2.2.2.2.2], [(false, .vec .body s.1), (false, .vec .contact s.2.1), (true, .vec .int s.2.2.2.2.1)])
  get := fun v h => match v, h with
    | [.vec 0, .vec 1, .vec 2, .int .i64 n, .int .i64 k], [(false, .vec .body xs), (false, .vec .contact cs), (true, .vec .int out)] => some (xs, cs, (), (), out, n, k)
    | _, _ => none
  inv := fun s0 s => Holds (s.1 = s0.1 ∧ s.2.1 = s0.2.1 ∧ s.2.2.2.2.2.1 = s0.2.2.2.2.2.1 ∧ 0 ≤ s.2.2.2.2.2.2 ∧ s.2.2.2.2.2.2 ≤ s0.2.1.length ∧ ∃ f, agree s0.1 s.2.2.2.2.1 f ∧ Grp.rounds (edgesX s0.1) (s0.1.length - (s0.2.2.2.2.2.1.toNat + 1)) ((edgesC s0.1 (s0.2.1.drop s.2.2.2.2.2.2.toNat)).foldl Grp.relax f) = Grp.rounds (edgesX s0.1) s0.1.length (fun j => (j : Int)))
  mu := fun s => ((s.2.1.length : Int) - s.2.2.2.2.2.2).toNat
  ok := by
    intro v h s hg
    try dsimp only at hg
    split at hg <;> cases hg
    rfl

def L_groupsS : Loops := fun n => match n with
  | 3 => some LSgp1
  | 7 => some LSgp2
  | 10 => some LSgp3
  | _ => none
noncomputable def fs_l7Groups : Fs := ⟨[], fun args H => match args, H with
  | [.vec 0, .vec 1], [(false, .vec .body xs), (false, .vec .contact cs)] => some ((some (xs.length ≤ 12 ∧ cs = contactsF xs)), .vec 2, [(false, .vec .body xs), (false, .vec .contact cs), (true, .vec .int (groupsX xs))])
  | _, _ => none⟩

theorem vc_l7Groups (xs : List Body) (cs : List Contact) (Q : SV → List Ent → Prop) :
    fnVC tt (look [(213, fs_l3Less), (214, fs_l7Number)]) (L_groupsS) Tryz.f161 [.vec 0, .vec 1] [(false, .vec .body xs), (false, .vec .contact cs)] Q =
    (let w_ := IntKind.wrap IntKind.i64; let n_ := Int.toNat; Holds (xs = xs ∧ cs = cs ∧ (0 : Int) ≤ (0 : Int) ∧ (0 : Int) ≤ (↑(List.length xs) : Int) ∧ [] = gen (fun j => (↑j : Int)) (n_ (0 : Int))) ∧ ∀ (y12 : List Body × List Contact × Unit × Unit × List Int × Int), let y12f0_ := Prod.fst y12; let y12s1_ := Prod.snd y12; let y12f1_ := Prod.fst (Prod.snd y12); let y12s4_ := Prod.snd (Prod.snd (Prod.snd (Prod.snd y12))); let y12f4_ := Prod.fst (Prod.snd (Prod.snd (Prod.snd (Prod.snd y12)))); let y12s5_ := Prod.snd (Prod.snd (Prod.snd (Prod.snd (Prod.snd y12)))); let A13_ := (↑(List.length y12f0_) : Int); Holds (Prod.fst y12 = xs ∧ y12f1_ = cs ∧ (0 : Int) ≤ y12s5_ ∧ y12s5_ ≤ (↑(List.length xs) : Int) ∧ y12f4_ = gen (fun j => (↑j : Int)) (n_ y12s5_)) → ifB (decide (Prod.snd y12s4_ < A13_)) ((List.length y12f4_ + List.length [y12s5_]) * (8 : Nat) ≤ room ∧ Holds (Prod.fst y12 = xs ∧ y12f1_ = cs ∧ (0 : Int) ≤ w_ (Prod.snd y12s4_ + (1 : Int)) ∧ w_ (Prod.snd y12s4_ + (1 : Int)) ≤ (↑(List.length xs) : Int) ∧ y12f4_ ++ [y12s5_] = gen (fun j => (↑j : Int)) (n_ (w_ (Prod.snd y12s4_ + (1 : Int))))) ∧ n_ (A13_ - w_ (Prod.snd y12s4_ + (1 : Int))) < n_ (A13_ - y12s5_)) (Holds (Prod.fst y12 = y12f0_ ∧ y12f1_ = y12f1_ ∧ (0 : Int) ≤ (0 : Int) ∧ (0 : Int) ≤ A13_ ∧ ∃ f, agree y12f0_ y12f4_ f ∧ Grp.rounds (edgesX y12f0_) (List.length y12f0_ - n_ (0 : Int)) f = Grp.rounds (edgesX y12f0_) (List.length y12f0_) fun j => (↑j : Int)) ∧ ∀ (y11 : List Body × List Contact × Unit × Unit × List Int × Int), let y11f0_ := Prod.fst y11; let y11f1_ := Prod.fst (Prod.snd y11); let y11s4_ := Prod.snd (Prod.snd (Prod.snd (Prod.snd y11))); let y11f4_ := Prod.fst (Prod.snd (Prod.snd (Prod.snd (Prod.snd y11)))); let y11s5_ := Prod.snd (Prod.snd (Prod.snd (Prod.snd (Prod.snd y11)))); Holds (Prod.fst y11 = y12f0_ ∧ y11f1_ = y12f1_ ∧ (0 : Int) ≤ y11s5_ ∧ y11s5_ ≤ A13_ ∧ ∃ f, agree y12f0_ y11f4_ f ∧ Grp.rounds (edgesX y12f0_) (List.length y12f0_ - n_ y11s5_) f = Grp.rounds (edgesX y12f0_) (List.length y12f0_) fun j => (↑j : Int)) → ifB (decide (Prod.snd y11s4_ < (↑(List.length y11f0_) : Int))) (Holds (Prod.fst y11 = y11f0_ ∧ y11f1_ = y11f1_ ∧ y11s5_ = y11s5_ ∧ (0 : Int) ≤ (0 : Int) ∧ (0 : Int) ≤ (↑(List.length y11f1_) : Int) ∧ ∃ f, agree y11f0_ y11f4_ f ∧ Grp.rounds (edgesX y11f0_) (List.length y11f0_ - (n_ y11s5_ + (1 : Nat))) (List.foldl Grp.relax f (edgesC y11f0_ (List.drop (n_ (0 : Int)) y11f1_))) = Grp.rounds (edgesX y11f0_) (List.length y11f0_) fun j => (↑j : Int)) ∧ ∀ (y1 : List Body × List Contact × Unit × Unit × List Int × Int × Int), let y1f0_ := Prod.fst y1; let y1s1_ := Prod.snd y1; let y1f1_ := Prod.fst (Prod.snd y1); let y1f4_ := Prod.fst (Prod.snd (Prod.snd (Prod.snd (Prod.snd y1)))); let y1s5_ := Prod.snd (Prod.snd (Prod.snd (Prod.snd (Prod.snd y1)))); let y1f5_ := Prod.fst (Prod.snd (Prod.snd (Prod.snd (Prod.snd (Prod.snd y1))))); let y1s6_ := Prod.snd (Prod.snd (Prod.snd (Prod.snd (Prod.snd (Prod.snd y1))))); let A10_ := (List.length y11f0_); let A9_ := (↑(List.length y11f1_) : Int); let A8_ := (↑(List.length y1f1_) : Int); let A4_ := (Prod.snd y1s5_ + (1 : Int)); let A5_ := (edgesC y11f0_ (List.drop (n_ (w_ A4_)) y11f1_)); let A3_ := y11s4_; let A7_ := (List.length y11f0_ - (n_ (Prod.snd A3_) + (1 : Nat))); let A2_ := (Ty.ix Ty.contact y1f1_ (n_ y1s6_)); let A6_ := (min (Ty.ix Ty.int y1f4_ (n_ (Contact.A A2_))) (Ty.ix Ty.int y1f4_ (n_ (Contact.B A2_)))); Holds (Prod.fst y1 = y11f0_ ∧ y1f1_ = y11f1_ ∧ y1f5_ = Prod.snd A3_ ∧ (0 : Int) ≤ y1s6_ ∧ y1s6_ ≤ A9_ ∧ ∃ f, agree y11f0_ y1f4_ f ∧ Grp.rounds (edgesX y11f0_) A7_ (List.foldl Grp.relax f (edgesC y11f0_ (List.drop (n_ y1s6_) y11f1_))) = Grp.rounds (edgesX y11f0_) A10_ fun j => (↑j : Int)) → ifB (decide (Prod.snd y1s5_ < A8_)) (((0 : Int) ≤ y1s6_ ∧ y1s6_ < A8_) ∧ ((0 : Int) ≤ Contact.A A2_ ∧ Contact.A A2_ < (↑(List.length y1f0_) : Int)) ∧ ifB (Body.Mass (Ty.ix Ty.body y1f0_ (n_ (Contact.A A2_))) == (0 : Int)) (Holds (Prod.fst y1 = y11f0_ ∧ y1f1_ = y11f1_ ∧ y1f5_ = Prod.snd A3_ ∧ (0 : Int) ≤ w_ A4_ ∧ w_ A4_ ≤ A9_ ∧ ∃ f, agree y11f0_ y1f4_ f ∧ Grp.rounds (edgesX y11f0_) A7_ (List.foldl Grp.relax f A5_) = Grp.rounds (edgesX y11f0_) A10_ fun j => (↑j : Int)) ∧ n_ (A8_ - w_ A4_) < n_ (A8_ - y1s6_)) (((0 : Int) ≤ Contact.B A2_ ∧ Contact.B A2_ < (↑(List.length y1f0_) : Int)) ∧ ifB (Body.Mass (Ty.ix Ty.body y1f0_ (n_ (Contact.B A2_))) == (0 : Int)) (Holds (Prod.fst y1 = y11f0_ ∧ y1f1_ = y11f1_ ∧ y1f5_ = Prod.snd A3_ ∧ (0 : Int) ≤ w_ A4_ ∧ w_ A4_ ≤ A9_ ∧ ∃ f, agree y11f0_ y1f4_ f ∧ Grp.rounds (edgesX y11f0_) A7_ (List.foldl Grp.relax f A5_) = Grp.rounds (edgesX y11f0_) A10_ fun j => (↑j : Int)) ∧ n_ (A8_ - w_ A4_) < n_ (A8_ - y1s6_)) (((0 : Int) ≤ Contact.A A2_ ∧ Contact.A A2_ < (↑(List.length y1f4_) : Int)) ∧ ((0 : Int) ≤ Contact.B A2_ ∧ Contact.B A2_ < (↑(List.length y1f4_) : Int)) ∧ ((0 : Int) ≤ Contact.A A2_ ∧ Contact.A A2_ < (↑(List.length y1f4_) : Int)) ∧ ((0 : Int) ≤ Contact.B A2_ ∧ Contact.B A2_ < (↑(List.length (List.set y1f4_ (n_ (Contact.A A2_)) A6_)) : Int)) ∧ Holds (Prod.fst y1 = y11f0_ ∧ y1f1_ = y11f1_ ∧ y1f5_ = Prod.snd A3_ ∧ (0 : Int) ≤ w_ A4_ ∧ w_ A4_ ≤ A9_ ∧ ∃ f, agree y11f0_ (List.set (List.set y1f4_ (n_ (Contact.A A2_)) A6_) (n_ (Contact.B A2_)) A6_) f ∧ Grp.rounds (edgesX y11f0_) A7_ (List.foldl Grp.relax f A5_) = Grp.rounds (edgesX y11f0_) A10_ fun j => (↑j : Int)) ∧ n_ (A8_ - w_ A4_) < n_ (A8_ - y1s6_)))) (Holds (Prod.fst y1 = y12f0_ ∧ y1f1_ = y12f1_ ∧ (0 : Int) ≤ w_ (Prod.fst y1s5_ + (1 : Int)) ∧ w_ (Prod.fst y1s5_ + (1 : Int)) ≤ A13_ ∧ ∃ f, agree y12f0_ y1f4_ f ∧ Grp.rounds (edgesX y12f0_) (List.length y12f0_ - n_ (w_ (Prod.fst y1s5_ + (1 : Int)))) f = Grp.rounds (edgesX y12f0_) (List.length y12f0_) fun j => (↑j : Int)) ∧ n_ ((↑(List.length y1f0_) : Int) - w_ (Prod.fst y1s5_ + (1 : Int))) < n_ ((↑A10_ : Int) - Prod.snd A3_))) ((List.length y11f0_ ≤ (12 : Nat) ∧ List.length y11f4_ = List.length y11f0_ ∧ ∀ (j : Nat), j < List.length y11f0_ → gi y11f4_ j = (↑(cmX y11f0_ j) : Int)) ∧ Q (SV.vec (2 : Nat)) [(false, Blk.vec Ty.body y11f0_), (false, Blk.vec Ty.contact y11f1_), (true, Blk.vec Ty.int (groupsX y11f0_))]))) := by kernel_rfl

theorem ok_l7Groups : FsOk Tryz.prog 161 fs_l7Groups := fsOk_of tt_ok (tabFs_cons ok_l3Less (tabFs_cons ok_l7Number tabFs_nil)) mixed Tryz.func161 (by kernel_rfl) (by kernel_rfl) (by
    intro args LL p r HH h hp
    unfold fs_l7Groups at h
    dsimp only at h
    split at h
    case h_2 => cases h
    rename_i xs cs
    simp only [Option.some.injEq, Prod.mk.injEq] at h
    obtain ⟨rfl, rfl, rfl⟩ := h
    refine ⟨by simp [Form, stays], (L_groupsS), ?_⟩
    rw [vc_l7Groups]
    try dsimp only
    obtain ⟨hl, hC⟩ := hp _ rfl
    have hq := length_contactsF hl
    rw [← hC] at hq
    refine ⟨⟨(by trivial), (by trivial), by omega, by omega, rfl⟩, ?_⟩
    rintro ⟨xs', cs', u, v, out, i⟩ ⟨h⟩
    dsimp only at h ⊢
    obtain ⟨rfl, rfl, i0, i1, h5⟩ := h
    have hs := congrArg List.length h5
    rw [length_gen] at hs
    refine ifB_of (fun c => ?_) (fun c => ?_)
    · have c := of_decide_eq_true c
      have e1 : (i + 1).toNat = i.toNat + 1 := by omega
      have w : IntKind.i64.wrap (i + 1) = i + 1 := wrap_small (by omega) (by omega)
      rw [w, e1]
      refine ⟨by simp only [room, List.length_singleton]; omega, ⟨(by trivial), (by trivial), by omega, by omega, ?_⟩, by omega⟩
      rw [gen_succ, h5, show ((i.toNat : Nat) : Int) = i by omega]
    · have c := of_decide_eq_false c
      have hag : agree xs' out (fun j => (j : Int)) := by
        refine ⟨by omega, fun j hj => ?_⟩
        rw [h5]
        exact ix_gen (T := .int) (by omega)
      refine ⟨⟨(by trivial), (by trivial), by omega, by omega, _, hag, rfl⟩, ?_⟩
      clear h5 hs c hag i0 i1
      rintro ⟨xs2, cs2, u2, v2, out2, n⟩ ⟨h⟩
      dsimp only at h ⊢
      obtain ⟨rfl, rfl, n0, n1, f, ha, hr⟩ := h
      refine ifB_of (fun c => ?_) (fun c => ?_)
      · have c := of_decide_eq_true c
        have e1 : (n + 1).toNat = n.toNat + 1 := by omega
        have w : IntKind.i64.wrap (n + 1) = n + 1 := wrap_small (by omega) (by omega)
        have hEd : edgesC xs2 cs2 = edgesX xs2 := by rw [hC]; rfl
        refine ⟨⟨(by trivial), (by trivial), (by trivial), by omega, by omega, f, ha, ?_⟩, ?_⟩
        · rw [← hr, show xs2.length - n.toNat = (xs2.length - (n.toNat + 1)) + 1 by omega]
          show Grp.rounds (edgesX xs2) (xs2.length - (n.toNat + 1)) ((edgesC xs2 cs2).foldl Grp.relax f) = _
          rw [hEd]
          rfl
        clear ha hr f
        rintro ⟨xs3, cs3, u3, v3, out3, n3, k⟩ ⟨h⟩
        dsimp only at h ⊢
        obtain ⟨rfl, rfl, rfl, k0, k1, f, ha, hr⟩ := h
        refine ifB_of (fun c2 => ?_) (fun c2 => ?_)
        · have c2 := of_decide_eq_true c2
          have hk : k.toNat < cs3.length := by omega
          have e2 : (k + 1).toNat = k.toNat + 1 := by omega
          have w2 : IntKind.i64.wrap (k + 1) = k + 1 := wrap_small (by omega) (by omega)
          have hc : 0 ≤ (Ty.ix .contact cs3 k.toNat).A ∧ (Ty.ix .contact cs3 k.toNat).A < xs3.length ∧ 0 ≤ (Ty.ix .contact cs3 k.toNat).B ∧ (Ty.ix .contact cs3 k.toNat).B < xs3.length := by
            have := contact_ok0 (xs := xs3) (i := k.toNat) (by rw [← hC]; exact hk)
            rw [← hC] at this
            exact ⟨this.1, this.2.1, this.2.2.1, this.2.2.2.1⟩
          obtain ⟨a0, a1, b0, b1⟩ := hc
          rw [edgesC_drop hk] at hr
          rw [w2, e2]
          have stay : (freeB xs3 (Ty.ix .contact cs3 k.toNat).A.toNat && freeB xs3 (Ty.ix .contact cs3 k.toNat).B.toNat) = false → ∃ f, agree xs3 out3 f ∧ Grp.rounds (edgesX xs3) (xs3.length - (n3.toNat + 1)) ((edgesC xs3 (cs3.drop (k.toNat + 1))).foldl Grp.relax f) = Grp.rounds (edgesX xs3) xs3.length (fun j => (j : Int)) := by
            intro z
            rw [z] at hr
            exact ⟨f, ha, hr⟩
          refine ⟨⟨k0, c2⟩, ⟨a0, a1⟩, ifB_of (fun d1 => ⟨⟨(by trivial), (by trivial), (by trivial), by omega, by omega, stay ?_⟩, by omega⟩) (fun d1 => ⟨⟨b0, b1⟩, ifB_of (fun d2 => ⟨⟨(by trivial), (by trivial), (by trivial), by omega, by omega, stay ?_⟩, by omega⟩) (fun d2 => ?_)⟩)⟩
          · unfold freeB
            rw [d1]
            rfl
          · unfold freeB
            rw [d2, Bool.not_true, Bool.and_false]
          · have fA : freeB xs3 (Ty.ix .contact cs3 k.toNat).A.toNat = true := by unfold freeB; rw [d1]; rfl
            have fB : freeB xs3 (Ty.ix .contact cs3 k.toNat).B.toNat = true := by unfold freeB; rw [d2]; rfl
            rw [fA, fB] at hr
            have hl3 := ha.1
            refine ⟨⟨a0, by omega⟩, ⟨b0, by omega⟩, ⟨a0, by omega⟩, ⟨b0, by rw [List.length_set]; omega⟩, ⟨(by trivial), (by trivial), (by trivial), by omega, by omega, _, agree_relax ha (by omega) (by omega), hr⟩, by omega⟩
        · have c2 := of_decide_eq_false c2
          rw [drop_end (by omega)] at hr
          have hr : Grp.rounds (edgesX xs3) (xs3.length - (n3.toNat + 1)) f = _ := hr
          rw [w, e1]
          exact ⟨⟨(by trivial), (by trivial), by omega, by omega, f, ha, hr⟩, by omega⟩
      · have c := of_decide_eq_false c
        rw [show xs2.length - n.toNat = 0 by omega] at hr
        exact ⟨⟨hl, lab_done ha hr⟩, (by trivial), (by trivial)⟩)

def LSsaw  : LS where
  S := List Body × List Int × Unit × Unit × List Bool × Int
  live := [(0, [none]), (1, [none]), (5, [some .bool]), (6, [none])]
  shape := fun s => ([.vec 0, .vec 1, .vec 2, .int .i64 s.2.2.2.2.2], [(false, .vec .body s.1), (false, .vec .int s.2.1), (true, .vec .bool s.2.2.2.2.1)])
  get := fun v h => match v, h with
    | [.vec 0, .vec 1, .vec 2, .int .i64 i], [(false, .vec .body xs), (false, .vec .int gs), (true, .vec .bool out)] => some (xs, gs, (), (), out, i)
    | _, _ => none
  inv := fun s0 s => Holds (s.1 = s0.1 ∧ s.2.1 = s0.2.1 ∧ 0 ≤ s.2.2.2.2.2 ∧ s.2.2.2.2.2 ≤ s0.1.length ∧ s.2.2.2.2.1 = awkF s0.1 s.2.2.2.2.2.toNat)
  mu := fun s => ((s.1.length : Int) - s.2.2.2.2.2).toNat
  ok := by
    intro v h s hg
    try dsimp only at hg
    split at hg <;> cases hg
    rfl

def L_sawake : Loops := fun n => match n with
  | 3 => some LSsaw
  | _ => none
noncomputable def fs_l7Awake : Fs := ⟨[], fun args H => match args, H with
  | [.vec 0, .vec 1], [(false, .vec .body xs), (false, .vec .int gs)] => some ((some (bodiesOk xs = true ∧ gs = groupsX xs)), .vec 2, [(false, .vec .body xs), (false, .vec .int gs), (true, .vec .bool (awkF xs xs.length))])
  | _, _ => none⟩

theorem vc_l7Awake (xs : List Body) (gs : List Int) (Q : SV → List Ent → Prop) :
    fnVC tt (look [(215, fs_l6Sleeps)]) (L_sawake) Tryz.f162 [.vec 0, .vec 1] [(false, .vec .body xs), (false, .vec .int gs)] Q =
    (let w_ := IntKind.wrap IntKind.i64; let n_ := Int.toNat; let ii_ := Ty.ix Ty.int; Holds (xs = xs ∧ gs = gs ∧ (0 : Int) ≤ (0 : Int) ∧ (0 : Int) ≤ (↑(List.length xs) : Int) ∧ [] = awkF xs (n_ (0 : Int))) ∧ ∀ (y1 : List Body × List Int × Unit × Unit × List Bool × Int), let y1f0_ := Prod.fst y1; let y1s1_ := Prod.snd y1; let y1f1_ := Prod.fst (Prod.snd y1); let y1s4_ := Prod.snd (Prod.snd (Prod.snd (Prod.snd y1))); let y1f4_ := Prod.fst (Prod.snd (Prod.snd (Prod.snd (Prod.snd y1)))); let y1s5_ := Prod.snd (Prod.snd (Prod.snd (Prod.snd (Prod.snd y1)))); let A9_ := (Prod.fst y1s4_ ++ [false]); let A8_ := (↑(List.length xs) : Int); let A7_ := (↑(List.length y1f1_) : Int); let A4_ := (n_ (ii_ y1f1_ (n_ y1s5_))); let A3_ := (↑(List.length y1f0_) : Int); let A2_ := (Prod.snd y1s4_ + (1 : Int)); let A6_ := (A3_ - w_ A2_); let A5_ := (n_ (w_ A2_)); Holds (Prod.fst y1 = xs ∧ y1f1_ = gs ∧ (0 : Int) ≤ y1s5_ ∧ y1s5_ ≤ A8_ ∧ y1f4_ = awkF xs (n_ y1s5_)) → ifB (decide (Prod.snd y1s4_ < A3_)) (((0 : Int) ≤ y1s5_ ∧ y1s5_ < A7_) ∧ ifB (ii_ y1f1_ (n_ y1s5_) == (↑(List.length y1f4_) : Int)) ((List.length y1f4_ + List.length [false]) * (1 : Nat) ≤ room ∧ ((0 : Int) ≤ y1s5_ ∧ y1s5_ < A7_) ∧ ifB (decide (ii_ y1f1_ (n_ y1s5_) ≥ (0 : Int))) (((0 : Int) ≤ y1s5_ ∧ y1s5_ < A7_) ∧ ((0 : Int) ≤ y1s5_ ∧ y1s5_ < A7_) ∧ ((0 : Int) ≤ ii_ y1f1_ (n_ y1s5_) ∧ ii_ y1f1_ (n_ y1s5_) < (↑(List.length A9_) : Int)) ∧ ifB (Ty.ix Ty.bool A9_ A4_) (((0 : Int) ≤ ii_ y1f1_ (n_ y1s5_) ∧ ii_ y1f1_ (n_ y1s5_) < (↑(List.length A9_) : Int)) ∧ Holds (Prod.fst y1 = xs ∧ y1f1_ = gs ∧ (0 : Int) ≤ w_ A2_ ∧ w_ A2_ ≤ A8_ ∧ List.set A9_ A4_ true = awkF xs A5_) ∧ n_ A6_ < n_ (A3_ - y1s5_)) (((0 : Int) ≤ y1s5_ ∧ y1s5_ < A3_) ∧ ((0 : Int) ≤ ii_ y1f1_ (n_ y1s5_) ∧ ii_ y1f1_ (n_ y1s5_) < (↑(List.length A9_) : Int)) ∧ Holds (Prod.fst y1 = xs ∧ y1f1_ = gs ∧ (0 : Int) ≤ w_ A2_ ∧ w_ A2_ ≤ A8_ ∧ (List.set A9_ A4_ !decide (Body.Quiet (Ty.ix Ty.body y1f0_ (n_ y1s5_)) ≥ (8 : Int))) = awkF xs A5_) ∧ n_ A6_ < n_ (A3_ - y1s5_))) (Holds (Prod.fst y1 = xs ∧ y1f1_ = gs ∧ (0 : Int) ≤ w_ A2_ ∧ w_ A2_ ≤ A8_ ∧ y1f4_ ++ [false] = awkF xs A5_) ∧ n_ A6_ < n_ (A3_ - y1s5_))) (((0 : Int) ≤ y1s5_ ∧ y1s5_ < A7_) ∧ ifB (decide (ii_ y1f1_ (n_ y1s5_) ≥ (0 : Int))) (((0 : Int) ≤ y1s5_ ∧ y1s5_ < A7_) ∧ ((0 : Int) ≤ y1s5_ ∧ y1s5_ < A7_) ∧ ((0 : Int) ≤ ii_ y1f1_ (n_ y1s5_) ∧ ii_ y1f1_ (n_ y1s5_) < (↑(List.length y1f4_) : Int)) ∧ ifB (Ty.ix Ty.bool y1f4_ A4_) (((0 : Int) ≤ ii_ y1f1_ (n_ y1s5_) ∧ ii_ y1f1_ (n_ y1s5_) < (↑(List.length y1f4_) : Int)) ∧ Holds (Prod.fst y1 = xs ∧ y1f1_ = gs ∧ (0 : Int) ≤ w_ A2_ ∧ w_ A2_ ≤ A8_ ∧ List.set y1f4_ A4_ true = awkF xs A5_) ∧ n_ A6_ < n_ (A3_ - y1s5_)) (((0 : Int) ≤ y1s5_ ∧ y1s5_ < A3_) ∧ ((0 : Int) ≤ ii_ y1f1_ (n_ y1s5_) ∧ ii_ y1f1_ (n_ y1s5_) < (↑(List.length y1f4_) : Int)) ∧ Holds (Prod.fst y1 = xs ∧ y1f1_ = gs ∧ (0 : Int) ≤ w_ A2_ ∧ w_ A2_ ≤ A8_ ∧ (List.set y1f4_ A4_ !decide (Body.Quiet (Ty.ix Ty.body y1f0_ (n_ y1s5_)) ≥ (8 : Int))) = awkF xs A5_) ∧ n_ A6_ < n_ (A3_ - y1s5_))) (Holds (Prod.fst y1 = xs ∧ y1f1_ = gs ∧ (0 : Int) ≤ w_ A2_ ∧ w_ A2_ ≤ A8_ ∧ y1f4_ = awkF xs A5_) ∧ n_ A6_ < n_ (A3_ - y1s5_)))) (Q (SV.vec (2 : Nat)) [(false, Blk.vec Ty.body y1f0_), (false, Blk.vec Ty.int y1f1_), (true, Blk.vec Ty.bool y1f4_)])) := by kernel_rfl

theorem ok_l7Awake : FsOk Tryz.prog 162 fs_l7Awake := fsOk_of tt_ok (tabFs_cons ok_l6Sleeps tabFs_nil) mixed Tryz.func162 (by kernel_rfl) (by kernel_rfl) (by
    intro args LL p r HH h hp
    unfold fs_l7Awake at h
    dsimp only at h
    split at h
    case h_2 => cases h
    rename_i xs gs
    simp only [Option.some.injEq, Prod.mk.injEq] at h
    obtain ⟨rfl, rfl, rfl⟩ := h
    refine ⟨by simp [Form, stays], (L_sawake), ?_⟩
    rw [vc_l7Awake]
    try dsimp only
    obtain ⟨hok, hG⟩ := hp _ rfl
    have hl := bodiesOk_len hok
    have hgl : (groupsX xs).length = xs.length := by simp only [groupsX, length_gen]
    refine ⟨⟨(by trivial), (by trivial), by omega, by omega, rfl⟩, ?_⟩
    rintro ⟨xs', gs', u, v, out, i⟩ ⟨h⟩
    dsimp only at h ⊢
    obtain ⟨rfl, rfl, i0, i1, rfl⟩ := h
    subst hG
    refine ifB_of (fun c => ?_) (fun c => ?_)
    · have c := of_decide_eq_true c
      have hi : i.toNat < xs'.length := by omega
      have e1 : (i + 1).toNat = i.toNat + 1 := by omega
      have w : IntKind.i64.wrap (i + 1) = i + 1 := wrap_small (by omega) (by omega)
      have hg : Ty.ix .int (groupsX xs') i.toNat = gOf xs' xs'.length i.toNat := ix_gen (T := .int) hi
      have hle := length_awkF xs' i.toNat
      have hll := lead_len hi
      have hga := gOf_all hi
      have hns := num_succ xs' i.toNat
      have hnl := num_le xs' i.toNat
      have hqq : decide ((Ty.ix .body xs' i.toNat).Quiet ≥ 8) = ((Ty.ix .body xs' i.toNat).Quiet == 8) := by
        have h1 := bodiesOk_each hok hi
        simp only [bodyOk, Bool.and_eq_true, isIn, decide_eq_true_eq] at h1
        have h8 := h1.1.2
        rw [Bool.eq_iff_iff]
        simp only [decide_eq_true_eq, beq_iff_eq]
        omega
      rw [w, e1, hg, hle, hqq]
      cases f : freeB xs' i.toNat with
      | false =>
        rw [f] at hga
        have hga : gOf xs' xs'.length i.toNat = -1 := hga
        rw [hga]
        have fin : awkF xs' i.toNat = awkF xs' (i.toNat + 1) := (awk_fixed f).symm
        refine ⟨⟨i0, by omega⟩, ifB_of (fun d => ?_) (fun d => ⟨⟨i0, by omega⟩, ifB_of (fun d2 => ?_) (fun d2 => ⟨⟨(by trivial), (by trivial), by omega, by omega, fin⟩, by omega⟩)⟩)⟩
        · have d : (-1 : Int) = (numX xs' i.toNat : Int) := eq_of_beq d
          omega
        · exact absurd d2 (by decide)
      | true =>
        rw [f] at hga
        have hga : gOf xs' xs'.length i.toNat = (numX xs' (cmX xs' i.toNat) : Int) := hga
        have hin := num_in f
        rw [hga] at hll ⊢
        have hpos : ¬ decide ((numX xs' (cmX xs' i.toNat) : Int) ≥ 0) = false := by
          rw [decide_eq_true (by omega)]
          simp
        have same0 : ∀ {out : List Bool} {m : Nat} {v : Bool}, m < out.length → Ty.ix .bool out m = v → out.set m v = out := by
          rintro out m v hm rfl
          exact set_ix (T := .bool) out hm
        have key : ∀ {out : List Bool}, (bif !((Ty.ix .body xs' i.toNat).Quiet == 8) then out.set (numX xs' (cmX xs' i.toNat)) true else out) = awkF xs' (i.toNat + 1) → numX xs' (cmX xs' i.toNat) < out.length → ∀ b : Bool, Ty.ix .bool out (numX xs' (cmX xs' i.toNat)) = b →
            out.set (numX xs' (cmX xs' i.toNat)) (bif b then true else !((Ty.ix .body xs' i.toNat).Quiet == 8)) = awkF xs' (i.toNat + 1) := by
          intro out h1 h2 b h3
          rw [← h1]
          cases q : (Ty.ix .body xs' i.toNat).Quiet == 8
          · cases b <;> rfl
          · cases b
            · exact same0 h2 h3
            · exact same0 h2 h3
        refine ⟨⟨i0, by omega⟩, ifB_of (fun d => ⟨by simp only [room, List.length_singleton]; omega, ⟨i0, by omega⟩, ifB_of (fun _ => ⟨⟨i0, by omega⟩, ⟨i0, by omega⟩, ⟨by omega, ?_⟩, ifB_of (fun d3 => ⟨⟨by omega, ?_⟩, ⟨(by trivial), (by trivial), by omega, by omega, ?_⟩, by omega⟩) (fun d3 => ⟨⟨i0, c⟩, ⟨by omega, ?_⟩, ⟨(by trivial), (by trivial), by omega, by omega, ?_⟩, by omega⟩)⟩) (fun d2 => absurd d2 hpos)⟩)
          (fun d => ⟨⟨i0, by omega⟩, ifB_of (fun _ => ⟨⟨i0, by omega⟩, ⟨i0, by omega⟩, ⟨by omega, ?_⟩, ifB_of (fun d3 => ⟨⟨by omega, ?_⟩, ⟨(by trivial), (by trivial), by omega, by omega, ?_⟩, by omega⟩) (fun d3 => ⟨⟨i0, c⟩, ⟨by omega, ?_⟩, ⟨(by trivial), (by trivial), by omega, by omega, ?_⟩, by omega⟩)⟩) (fun d2 => absurd d2 hpos)⟩)⟩
        all_goals
          have d : Grp.lead (freeB xs') (cmX xs') i.toNat = _ := hll.symm.trans d
          rw [d] at hns
        case refine_1 | refine_2 | refine_4 =>
          simp only [cond_true] at hns
          exact Int.ofNat_lt.2 (by rw [List.length_append, hle, List.length_singleton]; omega)
        case refine_3 =>
          simp only [cond_true] at hns
          exact key (awk_free f d rfl).symm (by simp only [cond_true]; rw [List.length_append, hle, List.length_singleton]; omega) true d3
        case refine_5 =>
          simp only [cond_true] at hns
          exact key (awk_free f d rfl).symm (by simp only [cond_true]; rw [List.length_append, hle, List.length_singleton]; omega) false d3
        case refine_6 | refine_7 | refine_9 =>
          simp only [cond_false] at hns
          exact Int.ofNat_lt.2 (by omega)
        case refine_8 =>
          simp only [cond_false] at hns
          have := awk_free f d rfl
          simp only [cond_false, List.append_nil] at this
          exact key this.symm (by omega) true d3
        case refine_10 =>
          simp only [cond_false] at hns
          have := awk_free f d rfl
          simp only [cond_false, List.append_nil] at this
          exact key this.symm (by omega) false d3
    · have c := of_decide_eq_false c
      rw [show i.toNat = xs'.length by omega]
      exact ⟨(by trivial), (by trivial)⟩)

end
end Go.Proofs.YtdhbkcaaijgocaaGreat.Sym

namespace Go.Proofs.YtdhbkcaaijgocaaGreat.Sym
open Go
set_option linter.unusedVariables false
set_option linter.unusedSimpArgs false
set_option maxRecDepth 100000
noncomputable section

theorem quiet_ok2 {xs : List Body} (h : bodiesOk xs = true) {k : Nat} (hk : k < xs.length) : decide ((Ty.ix .body xs k).Quiet ≥ 8) = ((Ty.ix .body xs k).Quiet == 8) := by
  have := (bok_iff.1 (bodiesOk_each h hk)).2.2.2.2.2.2.2.1
  rw [Bool.eq_iff_iff]
  simp only [decide_eq_true_eq, beq_iff_eq]
  omega
theorem moves_ok2 {xs : List Body} (h : bodiesOk xs = true) {k : Nat} (hk : k < xs.length) : moves (Ty.ix .body xs k) = (decide ((Ty.ix .body xs k).Mass > 0) && !decide ((Ty.ix .body xs k).Quiet ≥ 8)) := moves_iff (bodiesOk_each h hk)
theorem wakeS_stay {xs : List Body} {gs : List Int} {ws : List Bool} {k : Nat} (h : ((Ty.ix .body xs k).Quiet == 8 && Ty.ix .bool ws (gi gs k).toNat) = false) : wakeS gs ws k (Ty.ix .body xs k) = Ty.ix .body xs k := by
  unfold wakeS
  rw [h]
  rfl
def LSl9w  : LS where
  S := List Body × List Int × List Bool × Unit × Unit × List Body × Int
  live := [(1, [none]), (2, [none]), (7, [some .body]), (8, [none])]
  shape := fun s => ([.vec 1, .vec 2, .vec 3, .int .i64 s.2.2.2.2.2.2], [(false, .vec .body s.1), (false, .vec .int s.2.1), (false, .vec .bool s.2.2.1), (true, .vec .body s.2.2.2.2.2.1)])
  get := fun v h => match v, h with
    | [.vec 1, .vec 2, .vec 3, .int .i64 i], [(false, .vec .body xs), (false, .vec .int gs), (false, .vec .bool ws), (true, .vec .body ys)] => some (xs, gs, ws, (), (), ys, i)
    | _, _ => none
  inv := fun s0 s => Holds (s.1 = s0.1 ∧ s.2.1 = s0.2.1 ∧ s.2.2.1 = s0.2.2.1 ∧ 0 ≤ s.2.2.2.2.2.2 ∧ s.2.2.2.2.2.2 ≤ s0.1.length ∧ s.2.2.2.2.2.1 = fill (fun e => wakeS s0.2.1 s0.2.2.1 e (Ty.ix .body s0.1 e)) s0.1 s.2.2.2.2.2.2.toNat)
  mu := fun s => ((s.1.length : Int) - s.2.2.2.2.2.2).toNat
  ok := by
    intro v h s hg
    try dsimp only at hg
    split at hg <;> cases hg
    rfl

def L_l9w : Loops := fun n => match n with
  | 3 => some LSl9w
  | _ => none
noncomputable def fs_l9Wake : Fs := ⟨[], fun args H => match args, H with
  | [.vec 0, .vec 1, .vec 2], [(false, .vec .body xs), (false, .vec .int gs), (false, .vec .bool ws)] => some ((some (bodiesOk xs = true ∧ gs = groupsX xs ∧ ws = awkF xs xs.length)), .vec 3, [(false, .vec .body xs), (false, .vec .int gs), (false, .vec .bool ws), (true, .vec .body (wokenF xs))])
  | _, _ => none⟩

theorem vc_l9Wake (xs : List Body) (gs : List Int) (ws : List Bool) (Q : SV → List Ent → Prop) :
    fnVC tt (look [(90, fs_specCopyB), (215, fs_l6Sleeps)]) (L_l9w) Tryz.f163 [.vec 0, .vec 1, .vec 2] [(false, .vec .body xs), (false, .vec .int gs), (false, .vec .bool ws)] Q =
    (let w_ := IntKind.wrap IntKind.i64; let n_ := Int.toNat; let ib_ := Ty.ix Ty.body; List.length xs ≤ (1048576 : Nat) ∧ Holds (xs = xs ∧ gs = gs ∧ ws = ws ∧ (0 : Int) ≤ (0 : Int) ∧ (0 : Int) ≤ (↑(List.length xs) : Int) ∧ xs = fill (fun e => wakeS gs ws e (ib_ xs e)) xs (n_ (0 : Int))) ∧ ∀ (y1 : List Body × List Int × List Bool × Unit × Unit × List Body × Int), let y1f0_ := Prod.fst y1; let y1s1_ := Prod.snd y1; let y1f1_ := Prod.fst (Prod.snd y1); let y1f2_ := Prod.fst (Prod.snd (Prod.snd y1)); let y1s5_ := Prod.snd (Prod.snd (Prod.snd (Prod.snd (Prod.snd y1)))); let y1f5_ := Prod.fst (Prod.snd (Prod.snd (Prod.snd (Prod.snd (Prod.snd y1))))); let y1s6_ := Prod.snd (Prod.snd (Prod.snd (Prod.snd (Prod.snd (Prod.snd y1))))); let A5_ := ((↑(List.length y1f0_) : Int) - y1s6_); let A2_ := (Prod.snd y1s5_ + (1 : Int)); let A4_ := (n_ (w_ A2_)); let A3_ := ((↑(List.length y1f0_) : Int) - w_ A2_); Holds (Prod.fst y1 = xs ∧ y1f1_ = gs ∧ y1f2_ = ws ∧ (0 : Int) ≤ y1s6_ ∧ y1s6_ ≤ (↑(List.length xs) : Int) ∧ y1f5_ = fill (fun e => wakeS gs ws e (ib_ xs e)) xs (n_ y1s6_)) → ifB (decide (Prod.snd y1s5_ < (↑(List.length y1f5_) : Int))) (((0 : Int) ≤ y1s6_ ∧ y1s6_ < (↑(List.length y1f1_) : Int)) ∧ ifB (decide (Ty.ix Ty.int y1f1_ (n_ y1s6_) ≥ (0 : Int))) (((0 : Int) ≤ y1s6_ ∧ y1s6_ < (↑(List.length y1f1_) : Int)) ∧ ((0 : Int) ≤ Ty.ix Ty.int y1f1_ (n_ y1s6_) ∧ Ty.ix Ty.int y1f1_ (n_ y1s6_) < (↑(List.length y1f2_) : Int)) ∧ ifB (Ty.ix Ty.bool y1f2_ (n_ (Ty.ix Ty.int y1f1_ (n_ y1s6_)))) (((0 : Int) ≤ y1s6_ ∧ y1s6_ < (↑(List.length y1f5_) : Int)) ∧ ifB (decide (Body.Quiet (ib_ y1f5_ (n_ y1s6_)) ≥ (8 : Int))) (((0 : Int) ≤ y1s6_ ∧ y1s6_ < (↑(List.length y1f5_) : Int)) ∧ Holds (Prod.fst y1 = xs ∧ y1f1_ = gs ∧ y1f2_ = ws ∧ (0 : Int) ≤ w_ A2_ ∧ w_ A2_ ≤ (↑(List.length xs) : Int) ∧ setC Ty.body y1f5_ (n_ y1s6_) ((0 : Nat) + (11 : Nat)) [SV.int IntKind.i64 (0 : Int)] = fill (fun e => wakeS gs ws e (ib_ xs e)) xs A4_) ∧ n_ A3_ < n_ A5_) (Holds (Prod.fst y1 = xs ∧ y1f1_ = gs ∧ y1f2_ = ws ∧ (0 : Int) ≤ w_ A2_ ∧ w_ A2_ ≤ (↑(List.length xs) : Int) ∧ y1f5_ = fill (fun e => wakeS gs ws e (ib_ xs e)) xs A4_) ∧ n_ A3_ < n_ A5_)) (Holds (Prod.fst y1 = xs ∧ y1f1_ = gs ∧ y1f2_ = ws ∧ (0 : Int) ≤ w_ A2_ ∧ w_ A2_ ≤ (↑(List.length xs) : Int) ∧ y1f5_ = fill (fun e => wakeS gs ws e (ib_ xs e)) xs A4_) ∧ n_ A3_ < n_ A5_)) (Holds (Prod.fst y1 = xs ∧ y1f1_ = gs ∧ y1f2_ = ws ∧ (0 : Int) ≤ w_ A2_ ∧ w_ A2_ ≤ (↑(List.length xs) : Int) ∧ y1f5_ = fill (fun e => wakeS gs ws e (ib_ xs e)) xs A4_) ∧ n_ A3_ < n_ A5_)) (Q (SV.vec (3 : Nat)) [(false, Blk.vec Ty.body y1f0_), (false, Blk.vec Ty.int y1f1_), (false, Blk.vec Ty.bool y1f2_), (true, Blk.vec Ty.body y1f5_)])) := by kernel_rfl

theorem ok_l9Wake : FsOk Tryz.prog 163 fs_l9Wake := fsOk_of tt_ok (tabFs_cons ok_specCopyB (tabFs_cons ok_l6Sleeps tabFs_nil)) mixed Tryz.func163 (by kernel_rfl) (by kernel_rfl) (by
    intro args LL p r HH h hp
    unfold fs_l9Wake at h
    dsimp only at h
    split at h
    case h_2 => cases h
    rename_i xs gs ws
    simp only [Option.some.injEq, Prod.mk.injEq] at h
    obtain ⟨rfl, rfl, rfl⟩ := h
    refine ⟨by simp [Form, stays], (L_l9w), ?_⟩
    rw [vc_l9Wake]
    try dsimp only
    obtain ⟨hok, hG, hW⟩ := hp _ rfl
    have hl := bodiesOk_len hok
    have hgl : (groupsX xs).length = xs.length := by simp only [groupsX, length_gen]
    have hwl := length_awkF xs xs.length
    refine ⟨by omega, ⟨(by trivial), (by trivial), (by trivial), by omega, by omega, (fill_zero _ _).symm⟩, ?_⟩
    rintro ⟨xs', gs', ws', u, v, ys, i⟩ ⟨h⟩
    dsimp only at h ⊢
    obtain ⟨rfl, rfl, rfl, i0, i1, h5⟩ := h
    subst hG hW
    have hyl : ys.length = xs'.length := by rw [h5]; exact length_fill _ _ (by omega)
    refine ifB_of (fun c => ?_) (fun c => ?_)
    · have c := of_decide_eq_true c
      have hi : i.toNat < xs'.length := by omega
      have e1 : (i + 1).toNat = i.toNat + 1 := by omega
      have w : IntKind.i64.wrap (i + 1) = i + 1 := wrap_small (by omega) (by omega)
      have hf := (fill_ix h5 hi).2
      have hq := quiet_ok2 hok hi
      have hgi : Ty.ix .int (groupsX xs') i.toNat = gOf xs' xs'.length i.toNat := ix_gen (T := .int) hi
      rw [w, e1, hf, hq]
      have stay : ((Ty.ix .body xs' i.toNat).Quiet == 8 && Ty.ix .bool (awkF xs' xs'.length) (gi (groupsX xs') i.toNat).toNat) = false → ys = fill (fun e => wakeS (groupsX xs') (awkF xs' xs'.length) e (Ty.ix .body xs' e)) xs' (i.toNat + 1) := fun z => fill_stay h5 hi (wakeS_stay z)
      refine ⟨⟨i0, by omega⟩, ifB_of (fun d => ⟨⟨i0, by omega⟩, ⟨of_decide_eq_true d, ?_⟩, ifB_of (fun d2 => ⟨⟨i0, c⟩, ifB_of (fun d3 => ⟨⟨i0, c⟩, ⟨(by trivial), (by trivial), (by trivial), by omega, by omega, ?_⟩, by omega⟩) (fun d3 => ⟨⟨(by trivial), (by trivial), (by trivial), by omega, by omega, stay ?_⟩, by omega⟩)⟩) (fun d2 => ⟨⟨(by trivial), (by trivial), (by trivial), by omega, by omega, stay ?_⟩, by omega⟩)⟩) (fun d => ⟨⟨(by trivial), (by trivial), (by trivial), by omega, by omega, stay ?_⟩, by omega⟩)⟩
      · have f := group_free hi (show 0 ≤ gi (groupsX xs') i.toNat from of_decide_eq_true d)
        rw [hgi, gOf_all hi, f]
        have h1 := num_in f
        have h2 := Grp.num_mono (freeB xs') (cmX xs') (show i.toNat + 1 ≤ xs'.length from hi)
        have h3 : numX xs' (cmX xs' i.toNat) < (awkF xs' xs'.length).length := by rw [hwl]; exact Nat.lt_of_lt_of_le h1 h2
        exact Int.ofNat_lt.2 h3
      · have d2 : Ty.ix .bool (awkF xs' xs'.length) (gi (groupsX xs') i.toNat).toNat = true := d2
        rw [setC_quiet, hf]
        refine fill_go h5 hi ?_
        unfold wakeS
        rw [d3, d2]
        rfl
      · rw [d3, Bool.false_and]
      · have d2 : Ty.ix .bool (awkF xs' xs'.length) (gi (groupsX xs') i.toNat).toNat = false := d2
        rw [d2, Bool.and_false]
      · have d : ¬ Ty.ix .int (groupsX xs') i.toNat ≥ 0 := of_decide_eq_false d
        cases q : (Ty.ix .body xs' i.toNat).Quiet == 8 with
        | false => rw [Bool.false_and]
        | true =>
          have f := groups_in hok hi q
          rw [hgi, gOf_all hi, f] at d
          exact absurd (Int.natCast_nonneg _) d
    · have c := of_decide_eq_false c
      rw [fill_map (f := wakeS (groupsX xs') (awkF xs' xs'.length)) h5 (by omega)]
      exact ⟨(by trivial), (by trivial)⟩)

def LSl9pl  : LS where
  S := List Body × Int × List Body × Int
  live := [(1, [none]), (5, [some .body]), (6, [none])]
  shape := fun s => ([.int .i64 s.2.1, .vec 1, .int .i64 s.2.2.2], [(false, .vec .body s.1), (true, .vec .body s.2.2.1)])
  get := fun v h => match v, h with
    | [.int .i64 pull, .vec 1, .int .i64 i], [(false, .vec .body xs), (true, .vec .body ys)] => some (xs, pull, ys, i)
    | _, _ => none
  inv := fun s0 s => Holds (s.1 = s0.1 ∧ s.2.1 = s0.2.1 ∧ 0 ≤ s.2.2.2 ∧ s.2.2.2 ≤ s0.1.length ∧ s.2.2.1 = fill (fun e => pullS s0.2.1 e (Ty.ix .body s0.1 e)) s0.1 s.2.2.2.toNat)
  mu := fun s => ((s.1.length : Int) - s.2.2.2).toNat
  ok := by
    intro v h s hg
    try dsimp only at hg
    split at hg <;> cases hg
    rfl

def L_l9pl : Loops := fun n => match n with
  | 3 => some LSl9pl
  | _ => none
noncomputable def fs_l9Pull : Fs := ⟨[], fun args H => match args, H with
  | [.vec 0, .int .i64 pull], [(false, .vec .body xs)] => some ((some (bodiesOk xs = true ∧ 0 ≤ pull ∧ pull ≤ 2560)), .vec 1, [(false, .vec .body xs), (true, .vec .body (mapX (pullS pull) xs))])
  | _, _ => none⟩

theorem vc_l9Pull (xs : List Body) (pull : Int) (Q : SV → List Ent → Prop) :
    fnVC tt (look [(90, fs_specCopyB), (215, fs_l6Sleeps), (211, fs_specWithin)]) (L_l9pl) Tryz.f165 [.vec 0, .int .i64 pull] [(false, .vec .body xs)] Q =
    (let w_ := IntKind.wrap IntKind.i64; let n_ := Int.toNat; let ib_ := Ty.ix Ty.body; List.length xs ≤ (1048576 : Nat) ∧ Holds (xs = xs ∧ pull = pull ∧ (0 : Int) ≤ (0 : Int) ∧ (0 : Int) ≤ (↑(List.length xs) : Int) ∧ xs = fill (fun e => pullS pull e (ib_ xs e)) xs (n_ (0 : Int))) ∧ ∀ (y1 : List Body × Int × List Body × Int), let y1f0_ := Prod.fst y1; let y1s1_ := Prod.snd y1; let y1f1_ := Prod.fst (Prod.snd y1); let y1s2_ := Prod.snd (Prod.snd y1); let y1f2_ := Prod.fst (Prod.snd (Prod.snd y1)); let y1s3_ := Prod.snd (Prod.snd (Prod.snd y1)); let A4_ := (↑(List.length y1f0_) : Int); let A3_ := (Prod.snd y1s2_ + (1 : Int)); let A2_ := (ib_ y1f2_ (n_ y1s3_)); Holds (Prod.fst y1 = xs ∧ y1f1_ = pull ∧ (0 : Int) ≤ y1s3_ ∧ y1s3_ ≤ (↑(List.length xs) : Int) ∧ y1f2_ = fill (fun e => pullS pull e (ib_ xs e)) xs (n_ y1s3_)) → ifB (decide (Prod.snd y1s2_ < (↑(List.length y1f2_) : Int))) (((0 : Int) ≤ y1s3_ ∧ y1s3_ < (↑(List.length y1f2_) : Int)) ∧ ifB (decide (Body.Mass A2_ > (0 : Int))) (ifB (!decide (Body.Quiet A2_ ≥ (8 : Int))) (((0 : Int) ≤ y1s3_ ∧ y1s3_ < (↑(List.length y1f2_) : Int)) ∧ Holds (Prod.fst y1 = xs ∧ y1f1_ = pull ∧ (0 : Int) ≤ w_ A3_ ∧ w_ A3_ ≤ (↑(List.length xs) : Int) ∧ List.set y1f2_ (n_ y1s3_) (Body.mk (Body.Id A2_) (Body.Shape A2_) (Body.At A2_) (Vec.mk (Vec.X (Body.Drive A2_)) (withinS (w_ (Vec.Y (Body.Drive A2_) - w_ (Prod.fst y1s1_ * Body.Mass A2_))) (20000000 : Int))) (Body.Mass A2_) (Body.Bounce A2_) (Body.Rub A2_) (Body.Quiet A2_)) = fill (fun e => pullS pull e (ib_ xs e)) xs (n_ (w_ A3_))) ∧ n_ (A4_ - w_ A3_) < n_ (A4_ - y1s3_)) (Holds (Prod.fst y1 = xs ∧ y1f1_ = pull ∧ (0 : Int) ≤ w_ A3_ ∧ w_ A3_ ≤ (↑(List.length xs) : Int) ∧ y1f2_ = fill (fun e => pullS pull e (ib_ xs e)) xs (n_ (w_ A3_))) ∧ n_ (A4_ - w_ A3_) < n_ (A4_ - y1s3_))) (Holds (Prod.fst y1 = xs ∧ y1f1_ = pull ∧ (0 : Int) ≤ w_ A3_ ∧ w_ A3_ ≤ (↑(List.length xs) : Int) ∧ y1f2_ = fill (fun e => pullS pull e (ib_ xs e)) xs (n_ (w_ A3_))) ∧ n_ (A4_ - w_ A3_) < n_ (A4_ - y1s3_))) (Q (SV.vec (1 : Nat)) [(false, Blk.vec Ty.body y1f0_), (true, Blk.vec Ty.body y1f2_)])) := by kernel_rfl

theorem ok_l9Pull : FsOk Tryz.prog 165 fs_l9Pull := fsOk_of tt_ok (tabFs_cons ok_specCopyB (tabFs_cons ok_l6Sleeps (tabFs_cons ok_specWithin tabFs_nil))) mixed Tryz.func165 (by kernel_rfl) (by kernel_rfl) (by
    intro args LL p r HH h hp
    unfold fs_l9Pull at h
    dsimp only at h
    split at h
    case h_2 => cases h
    rename_i pull xs
    simp only [Option.some.injEq, Prod.mk.injEq] at h
    obtain ⟨rfl, rfl, rfl⟩ := h
    refine ⟨by simp [Form, stays], (L_l9pl), ?_⟩
    rw [vc_l9Pull]
    try dsimp only
    obtain ⟨hok, p0, p1⟩ := hp _ rfl
    have hl := bodiesOk_len hok
    refine ⟨by omega, ⟨(by trivial), (by trivial), by omega, by omega, (fill_zero _ _).symm⟩, ?_⟩
    rintro ⟨xs', pl, ys, i⟩ ⟨h⟩
    dsimp only at h ⊢
    obtain ⟨rfl, rfl, i0, i1, h5⟩ := h
    have hyl : ys.length = xs'.length := by rw [h5]; exact length_fill _ _ (by omega)
    refine ifB_of (fun c => ?_) (fun c => ?_)
    · have c := of_decide_eq_true c
      have hi : i.toNat < xs'.length := by omega
      have e1 : (i + 1).toNat = i.toNat + 1 := by omega
      have w : IntKind.i64.wrap (i + 1) = i + 1 := wrap_small (by omega) (by omega)
      have hf := (fill_ix h5 hi).2
      have hb := bok_iff.1 (bodiesOk_each hok hi)
      have hmv := moves_ok2 hok hi
      rw [w, e1, hf]
      refine ⟨⟨i0, c⟩, ifB_of (fun d => ifB_of (fun d2 => ⟨⟨i0, c⟩, ⟨(by trivial), (by trivial), by omega, by omega, fill_go h5 hi ?_⟩, by omega⟩) (fun d2 => ⟨⟨(by trivial), (by trivial), by omega, by omega, fill_stay h5 hi ?_⟩, by omega⟩)) (fun d => ⟨⟨(by trivial), (by trivial), by omega, by omega, fill_stay h5 hi ?_⟩, by omega⟩)⟩
      · rw [d, d2] at hmv
        have hm := mul_le_mul0 p0 p1 hb.2.2.2.2.1.1 hb.2.2.2.2.1.2
        have hd := hb.2.2.2.1
        have e : withinS (W ((Ty.ix .body xs' i.toNat).Drive.Y - W (pl * (Ty.ix .body xs' i.toNat).Mass))) 20000000 = max (W ((Ty.ix .body xs' i.toNat).Drive.Y - W (pl * (Ty.ix .body xs' i.toNat).Mass))) (-20000000) := by
          rw [withinS_drive, withinI_drive, show W (pl * (Ty.ix .body xs' i.toNat).Mass) = pl * (Ty.ix .body xs' i.toNat).Mass from W_small (by omega) (by omega), W_small (by omega) (by omega)]
          unfold clampTo
          omega
        have e : withinS (IntKind.i64.wrap ((Ty.ix .body xs' i.toNat).Drive.Y - IntKind.i64.wrap (pl * (Ty.ix .body xs' i.toNat).Mass))) 20000000 = _ := e
        rw [e]
        unfold pullS
        rw [hmv]
        rfl
      · rw [d, d2] at hmv
        unfold pullS
        rw [hmv]
        rfl
      · rw [d] at hmv
        unfold pullS
        rw [hmv]
        rfl
    · have c := of_decide_eq_false c
      rw [fill_map (f := pullS pl) h5 (by omega)]
      exact ⟨(by trivial), (by trivial)⟩)

def LSl9lv  : LS where
  S := List Body × List Contact × Unit × Unit × List Contact × Int
  live := [(0, [none]), (1, [none]), (5, [some .contact]), (6, [none])]
  shape := fun s => ([.vec 0, .vec 1, .vec 2, .int .i64 s.2.2.2.2.2], [(false, .vec .body s.1), (false, .vec .contact s.2.1), (true, .vec .contact s.2.2.2.2.1)])
  get := fun v h => match v, h with
    | [.vec 0, .vec 1, .vec 2, .int .i64 i], [(false, .vec .body xs), (false, .vec .contact cs), (true, .vec .contact live)] => some (xs, cs, (), (), live, i)
    | _, _ => none
  inv := fun s0 s => Holds (s.1 = s0.1 ∧ s.2.1 = s0.2.1 ∧ 0 ≤ s.2.2.2.2.2 ∧ s.2.2.2.2.2 ≤ s0.2.1.length ∧ s.2.2.2.2.1 ++ liveF s0.1 (s0.2.1.drop s.2.2.2.2.2.toNat) = liveF s0.1 s0.2.1)
  mu := fun s => ((s.2.1.length : Int) - s.2.2.2.2.2).toNat
  ok := by
    intro v h s hg
    try dsimp only at hg
    split at hg <;> cases hg
    rfl

def L_l9lv : Loops := fun n => match n with
  | 3 => some LSl9lv
  | _ => none
noncomputable def fs_l9Live : Fs := ⟨[], fun args H => match args, H with
  | [.vec 0, .vec 1], [(false, .vec .body xs), (false, .vec .contact cs)] => some ((some (bodiesOk xs = true ∧ CtsOk xs.length cs)), .vec 2, [(false, .vec .body xs), (false, .vec .contact cs), (true, .vec .contact (liveF xs cs))])
  | _, _ => none⟩

theorem vc_l9Live (xs : List Body) (cs : List Contact) (Q : SV → List Ent → Prop) :
    fnVC tt (look [(215, fs_l6Sleeps)]) (L_l9lv) Tryz.f164 [.vec 0, .vec 1] [(false, .vec .body xs), (false, .vec .contact cs)] Q =
    (let w_ := IntKind.wrap IntKind.i64; let n_ := Int.toNat; let ic_ := Ty.ix Ty.contact; Holds (xs = xs ∧ cs = cs ∧ (0 : Int) ≤ (0 : Int) ∧ (0 : Int) ≤ (↑(List.length cs) : Int) ∧ [] ++ liveF xs (List.drop (n_ (0 : Int)) cs) = liveF xs cs) ∧ ∀ (y1 : List Body × List Contact × Unit × Unit × List Contact × Int), let y1f0_ := Prod.fst y1; let y1s1_ := Prod.snd y1; let y1f1_ := Prod.fst (Prod.snd y1); let y1s4_ := Prod.snd (Prod.snd (Prod.snd (Prod.snd y1))); let y1f4_ := Prod.fst (Prod.snd (Prod.snd (Prod.snd (Prod.snd y1)))); let y1s5_ := Prod.snd (Prod.snd (Prod.snd (Prod.snd (Prod.snd y1)))); let A8_ := (List.length y1f4_ + List.length [ic_ y1f1_ (n_ y1s5_)]); let A7_ := (↑(List.length cs) : Int); let A4_ := (ic_ y1f1_ (n_ y1s5_)); let A9_ := (Ty.ix Ty.body y1f0_ (n_ (Contact.B A4_))); let A3_ := (↑(List.length y1f1_) : Int); let A2_ := (Prod.snd y1s4_ + (1 : Int)); let A6_ := (A3_ - w_ A2_); let A5_ := (List.drop (n_ (w_ A2_)) cs); Holds (Prod.fst y1 = xs ∧ y1f1_ = cs ∧ (0 : Int) ≤ y1s5_ ∧ y1s5_ ≤ A7_ ∧ y1f4_ ++ liveF xs (List.drop (n_ y1s5_) cs) = liveF xs cs) → ifB (decide (Prod.snd y1s4_ < A3_)) (((0 : Int) ≤ y1s5_ ∧ y1s5_ < A3_) ∧ ((0 : Int) ≤ Contact.A A4_ ∧ Contact.A A4_ < (↑(List.length y1f0_) : Int)) ∧ ((0 : Int) ≤ y1s5_ ∧ y1s5_ < A3_) ∧ ((0 : Int) ≤ Contact.B A4_ ∧ Contact.B A4_ < (↑(List.length y1f0_) : Int)) ∧ ifB (decide (Body.Mass (Ty.ix Ty.body y1f0_ (n_ (Contact.A A4_))) > (0 : Int))) (ifB (!decide (Body.Quiet (Ty.ix Ty.body y1f0_ (n_ (Contact.A A4_))) ≥ (8 : Int))) (((0 : Int) ≤ y1s5_ ∧ y1s5_ < A3_) ∧ A8_ * (40 : Nat) ≤ room ∧ Holds (Prod.fst y1 = xs ∧ y1f1_ = cs ∧ (0 : Int) ≤ w_ A2_ ∧ w_ A2_ ≤ A7_ ∧ y1f4_ ++ [ic_ y1f1_ (n_ y1s5_)] ++ liveF xs A5_ = liveF xs cs) ∧ n_ A6_ < n_ (A3_ - y1s5_)) (ifB (decide (Body.Mass A9_ > (0 : Int))) (ifB (!decide (Body.Quiet A9_ ≥ (8 : Int))) (((0 : Int) ≤ y1s5_ ∧ y1s5_ < A3_) ∧ A8_ * (40 : Nat) ≤ room ∧ Holds (Prod.fst y1 = xs ∧ y1f1_ = cs ∧ (0 : Int) ≤ w_ A2_ ∧ w_ A2_ ≤ A7_ ∧ y1f4_ ++ [ic_ y1f1_ (n_ y1s5_)] ++ liveF xs A5_ = liveF xs cs) ∧ n_ A6_ < n_ (A3_ - y1s5_)) (Holds (Prod.fst y1 = xs ∧ y1f1_ = cs ∧ (0 : Int) ≤ w_ A2_ ∧ w_ A2_ ≤ A7_ ∧ y1f4_ ++ liveF xs A5_ = liveF xs cs) ∧ n_ A6_ < n_ (A3_ - y1s5_))) (Holds (Prod.fst y1 = xs ∧ y1f1_ = cs ∧ (0 : Int) ≤ w_ A2_ ∧ w_ A2_ ≤ A7_ ∧ y1f4_ ++ liveF xs A5_ = liveF xs cs) ∧ n_ A6_ < n_ (A3_ - y1s5_)))) (ifB (decide (Body.Mass A9_ > (0 : Int))) (ifB (!decide (Body.Quiet A9_ ≥ (8 : Int))) (((0 : Int) ≤ y1s5_ ∧ y1s5_ < A3_) ∧ A8_ * (40 : Nat) ≤ room ∧ Holds (Prod.fst y1 = xs ∧ y1f1_ = cs ∧ (0 : Int) ≤ w_ A2_ ∧ w_ A2_ ≤ A7_ ∧ y1f4_ ++ [ic_ y1f1_ (n_ y1s5_)] ++ liveF xs A5_ = liveF xs cs) ∧ n_ A6_ < n_ (A3_ - y1s5_)) (Holds (Prod.fst y1 = xs ∧ y1f1_ = cs ∧ (0 : Int) ≤ w_ A2_ ∧ w_ A2_ ≤ A7_ ∧ y1f4_ ++ liveF xs A5_ = liveF xs cs) ∧ n_ A6_ < n_ (A3_ - y1s5_))) (Holds (Prod.fst y1 = xs ∧ y1f1_ = cs ∧ (0 : Int) ≤ w_ A2_ ∧ w_ A2_ ≤ A7_ ∧ y1f4_ ++ liveF xs A5_ = liveF xs cs) ∧ n_ A6_ < n_ (A3_ - y1s5_)))) (Q (SV.vec (2 : Nat)) [(false, Blk.vec Ty.body y1f0_), (false, Blk.vec Ty.contact y1f1_), (true, Blk.vec Ty.contact y1f4_)])) := by kernel_rfl

theorem ok_l9Live : FsOk Tryz.prog 164 fs_l9Live := fsOk_of tt_ok (tabFs_cons ok_l6Sleeps tabFs_nil) mixed Tryz.func164 (by kernel_rfl) (by kernel_rfl) (by
    intro args LL p r HH h hp
    unfold fs_l9Live at h
    dsimp only at h
    split at h
    case h_2 => cases h
    rename_i xs cs
    simp only [Option.some.injEq, Prod.mk.injEq] at h
    obtain ⟨rfl, rfl, rfl⟩ := h
    refine ⟨by simp [Form, stays], (L_l9lv), ?_⟩
    rw [vc_l9Live]
    try dsimp only
    obtain ⟨hok, hct⟩ := hp _ rfl
    have hl := bodiesOk_len hok
    have hc0 := hct.1
    refine ⟨⟨(by trivial), (by trivial), by omega, by omega, (by trivial)⟩, ?_⟩
    rintro ⟨xs', cs', u, v, live, i⟩ ⟨h⟩
    dsimp only at h ⊢
    obtain ⟨rfl, rfl, i0, i1, h7⟩ := h
    have hll : (liveF xs' cs').length ≤ cs'.length := List.length_filter_le _ _
    have h7l := congrArg List.length h7
    rw [List.length_append] at h7l
    refine ifB_of (fun c => ?_) (fun c => ?_)
    · have c := of_decide_eq_true c
      have hik : i.toNat < cs'.length := by omega
      have e1 : (i + 1).toNat = i.toNat + 1 := by omega
      have w : IntKind.i64.wrap (i + 1) = i + 1 := wrap_small (by omega) (by omega)
      obtain ⟨a0, a1, b0, b1, _⟩ := hct.2 _ hik
      rw [liveF_drop hik, moves_ok2 hok (show (Ty.ix .contact cs' i.toNat).A.toNat < xs'.length by omega), moves_ok2 hok (show (Ty.ix .contact cs' i.toNat).B.toNat < xs'.length by omega)] at h7
      rw [w, e1]
      have yes : ∀ {us : List Contact}, us = [Ty.ix .contact cs' i.toNat] → live ++ (us ++ liveF xs' (cs'.drop (i.toNat + 1))) = liveF xs' cs' → live ++ [Ty.ix .contact cs' i.toNat] ++ liveF xs' (cs'.drop (i.toNat + 1)) = liveF xs' cs' := by
        rintro us rfl h
        rw [← h, List.append_assoc]
      refine ⟨⟨i0, c⟩, ⟨a0, a1⟩, ⟨i0, c⟩, ⟨b0, b1⟩, ifB_of (fun d1 => ifB_of (fun d2 => ⟨⟨i0, c⟩, by simp only [room, List.length_singleton]; omega, ⟨(by trivial), (by trivial), by omega, by omega, ?_⟩, by omega⟩)
        (fun d2 => ifB_of (fun d3 => ifB_of (fun d4 => ⟨⟨i0, c⟩, by simp only [room, List.length_singleton]; omega, ⟨(by trivial), (by trivial), by omega, by omega, ?_⟩, by omega⟩) (fun d4 => ⟨⟨(by trivial), (by trivial), by omega, by omega, ?_⟩, by omega⟩)) (fun d3 => ⟨⟨(by trivial), (by trivial), by omega, by omega, ?_⟩, by omega⟩)))
        (fun d1 => ifB_of (fun d3 => ifB_of (fun d4 => ⟨⟨i0, c⟩, by simp only [room, List.length_singleton]; omega, ⟨(by trivial), (by trivial), by omega, by omega, ?_⟩, by omega⟩) (fun d4 => ⟨⟨(by trivial), (by trivial), by omega, by omega, ?_⟩, by omega⟩)) (fun d3 => ⟨⟨(by trivial), (by trivial), by omega, by omega, ?_⟩, by omega⟩))⟩
      · rw [d1, d2] at h7
        exact yes rfl h7
      · rw [d1, d2, d3, d4] at h7
        exact yes rfl h7
      · rw [d1, d2, d3, d4] at h7
        exact h7
      · rw [d1, d2, d3] at h7
        exact h7
      · rw [d1, d3, d4] at h7
        exact yes rfl h7
      · rw [d1, d3, d4] at h7
        exact h7
      · rw [d1, d3] at h7
        exact h7
    · have c := of_decide_eq_false c
      rw [drop_end (by omega)] at h7
      have h7 : live = liveF xs' cs' := by simpa [liveF] using h7
      rw [h7]
      exact ⟨(by trivial), (by trivial)⟩)

def LSl9mv  : LS where
  S := List Body × List Body × Int
  live := [(3, [some .body]), (4, [none])]
  shape := fun s => ([.vec 1, .int .i64 s.2.2], [(false, .vec .body s.1), (true, .vec .body s.2.1)])
  get := fun v h => match v, h with
    | [.vec 1, .int .i64 i], [(false, .vec .body xs), (true, .vec .body ys)] => some (xs, ys, i)
    | _, _ => none
  inv := fun s0 s => Holds (s.1 = s0.1 ∧ 0 ≤ s.2.2 ∧ s.2.2 ≤ s0.1.length ∧ s.2.1 = fill (fun e => goS e (Ty.ix .body s0.1 e)) s0.1 s.2.2.toNat)
  mu := fun s => ((s.1.length : Int) - s.2.2).toNat
  ok := by
    intro v h s hg
    try dsimp only at hg
    split at hg <;> cases hg
    rfl

def L_l9mv : Loops := fun n => match n with
  | 3 => some LSl9mv
  | _ => none
noncomputable def fs_l9Moves : Fs := ⟨[], fun args H => match args, H with
  | [.vec 0], [(false, .vec .body xs)] => some ((some (bodiesOk xs = true)), .vec 1, [(false, .vec .body xs), (true, .vec .body (mapX goS xs))])
  | _, _ => none⟩

theorem vc_l9Moves (xs : List Body) (Q : SV → List Ent → Prop) :
    fnVC tt (look [(90, fs_specCopyB), (215, fs_l6Sleeps), (217, fs_specSpeed), (216, fs_specMoveB)]) (L_l9mv) Tryz.f166 [.vec 0] [(false, .vec .body xs)] Q =
    (let w_ := IntKind.wrap IntKind.i64; let n_ := Int.toNat; let ib_ := Ty.ix Ty.body; List.length xs ≤ (1048576 : Nat) ∧ Holds (xs = xs ∧ (0 : Int) ≤ (0 : Int) ∧ (0 : Int) ≤ (↑(List.length xs) : Int) ∧ xs = fill (fun e => goS e (ib_ xs e)) xs (n_ (0 : Int))) ∧ ∀ (y1 : List Body × List Body × Int), let y1f0_ := Prod.fst y1; let y1s1_ := Prod.snd y1; let y1f1_ := Prod.fst (Prod.snd y1); let y1s2_ := Prod.snd (Prod.snd y1); let A5_ := (ib_ y1f1_ (n_ y1s2_)); let A4_ := (↑(List.length y1f0_) : Int); let A3_ := (↑(List.length y1f1_) : Int); let A2_ := (Prod.snd y1s1_ + (1 : Int)); Holds (Prod.fst y1 = xs ∧ (0 : Int) ≤ y1s2_ ∧ y1s2_ ≤ (↑(List.length xs) : Int) ∧ y1f1_ = fill (fun e => goS e (ib_ xs e)) xs (n_ y1s2_)) → ifB (decide (Prod.snd y1s1_ < A3_)) (((0 : Int) ≤ y1s2_ ∧ y1s2_ < A3_) ∧ ifB (decide (Body.Mass A5_ > (0 : Int))) (((0 : Int) ≤ y1s2_ ∧ y1s2_ < A3_) ∧ ifB (!decide (Body.Quiet A5_ ≥ (8 : Int))) (((0 : Int) ≤ y1s2_ ∧ y1s2_ < A3_) ∧ ((0 : Int) ≤ y1s2_ ∧ y1s2_ < A3_) ∧ ((0 : Int) ≤ y1s2_ ∧ y1s2_ < A3_) ∧ Holds (Prod.fst y1 = xs ∧ (0 : Int) ≤ w_ A2_ ∧ w_ A2_ ≤ (↑(List.length xs) : Int) ∧ List.set y1f1_ (n_ y1s2_) (moveB A5_ (speed A5_)) = fill (fun e => goS e (ib_ xs e)) xs (n_ (w_ A2_))) ∧ n_ (A4_ - w_ A2_) < n_ (A4_ - y1s2_)) (Holds (Prod.fst y1 = xs ∧ (0 : Int) ≤ w_ A2_ ∧ w_ A2_ ≤ (↑(List.length xs) : Int) ∧ y1f1_ = fill (fun e => goS e (ib_ xs e)) xs (n_ (w_ A2_))) ∧ n_ (A4_ - w_ A2_) < n_ (A4_ - y1s2_))) (Holds (Prod.fst y1 = xs ∧ (0 : Int) ≤ w_ A2_ ∧ w_ A2_ ≤ (↑(List.length xs) : Int) ∧ y1f1_ = fill (fun e => goS e (ib_ xs e)) xs (n_ (w_ A2_))) ∧ n_ (A4_ - w_ A2_) < n_ (A4_ - y1s2_))) (Q (SV.vec (1 : Nat)) [(false, Blk.vec Ty.body y1f0_), (true, Blk.vec Ty.body y1f1_)])) := by kernel_rfl

theorem ok_l9Moves : FsOk Tryz.prog 166 fs_l9Moves := fsOk_of tt_ok (tabFs_cons ok_specCopyB (tabFs_cons ok_l6Sleeps (tabFs_cons ok_specSpeed (tabFs_cons ok_specMoveB tabFs_nil)))) mixed Tryz.func166 (by kernel_rfl) (by kernel_rfl) (by
    intro args LL p r HH h hp
    unfold fs_l9Moves at h
    dsimp only at h
    split at h
    case h_2 => cases h
    rename_i xs
    simp only [Option.some.injEq, Prod.mk.injEq] at h
    obtain ⟨rfl, rfl, rfl⟩ := h
    refine ⟨by simp [Form, stays], (L_l9mv), ?_⟩
    rw [vc_l9Moves]
    try dsimp only
    have hok := hp _ rfl
    have hl := bodiesOk_len hok
    refine ⟨by omega, ⟨(by trivial), by omega, by omega, (fill_zero _ _).symm⟩, ?_⟩
    rintro ⟨xs', ys, i⟩ ⟨h⟩
    dsimp only at h ⊢
    obtain ⟨rfl, i0, i1, h5⟩ := h
    have hyl : ys.length = xs'.length := by rw [h5]; exact length_fill _ _ (by omega)
    refine ifB_of (fun c => ?_) (fun c => ?_)
    · have c := of_decide_eq_true c
      have hi : i.toNat < xs'.length := by omega
      have e1 : (i + 1).toNat = i.toNat + 1 := by omega
      have w : IntKind.i64.wrap (i + 1) = i + 1 := wrap_small (by omega) (by omega)
      have hf := (fill_ix h5 hi).2
      have hmv := moves_ok2 hok hi
      rw [w, e1, hf]
      refine ⟨⟨i0, c⟩, ifB_of (fun d => ⟨⟨i0, c⟩, ifB_of (fun d2 => ⟨⟨i0, c⟩, ⟨i0, c⟩, ⟨i0, c⟩, ⟨(by trivial), by omega, by omega, fill_go h5 hi ?_⟩, by omega⟩) (fun d2 => ⟨⟨(by trivial), by omega, by omega, fill_stay h5 hi ?_⟩, by omega⟩)⟩) (fun d => ⟨⟨(by trivial), by omega, by omega, fill_stay h5 hi ?_⟩, by omega⟩)⟩
      · rw [d, d2] at hmv
        unfold goS
        rw [hmv]
        rfl
      · rw [d, d2] at hmv
        unfold goS
        rw [hmv]
        rfl
      · rw [d] at hmv
        unfold goS
        rw [hmv]
        rfl
    · have c := of_decide_eq_false c
      rw [fill_map (f := goS) h5 (by omega)]
      exact ⟨(by trivial), (by trivial)⟩)

def LSl9q  : LS where
  S := List Body × List Body × Unit × List Body × Int
  live := [(1, [none]), (5, [some .body]), (6, [none])]
  shape := fun s => ([.vec 1, .vec 2, .int .i64 s.2.2.2.2], [(false, .vec .body s.1), (false, .vec .body s.2.1), (true, .vec .body s.2.2.2.1)])
  get := fun v h => match v, h with
    | [.vec 1, .vec 2, .int .i64 i], [(false, .vec .body xs), (false, .vec .body was), (true, .vec .body ys)] => some (xs, was, (), ys, i)
    | _, _ => none
  inv := fun s0 s => Holds (s.1 = s0.1 ∧ s.2.1 = s0.2.1 ∧ 0 ≤ s.2.2.2.2 ∧ s.2.2.2.2 ≤ s0.1.length ∧ s.2.2.2.1 = fill (fun e => quietS s0.2.1 e (Ty.ix .body s0.1 e)) s0.1 s.2.2.2.2.toNat)
  mu := fun s => ((s.1.length : Int) - s.2.2.2.2).toNat
  ok := by
    intro v h s hg
    try dsimp only at hg
    split at hg <;> cases hg
    rfl

def L_l9q : Loops := fun n => match n with
  | 3 => some LSl9q
  | _ => none
noncomputable def fs_l9Quiet : Fs := ⟨[], fun args H => match args, H with
  | [.vec 0, .vec 1], [(false, .vec .body xs), (false, .vec .body was)] => some ((some (bodiesOk xs = true ∧ bodiesOk was = true ∧ was.length = xs.length)), .vec 2, [(false, .vec .body xs), (false, .vec .body was), (true, .vec .body (mapX (quietS was) xs))])
  | _, _ => none⟩

theorem vc_l9Quiet (xs : List Body) (was : List Body) (Q : SV → List Ent → Prop) :
    fnVC tt (look [(90, fs_specCopyB), (215, fs_l6Sleeps), (217, fs_specSpeed), (74, fs_l1In), (213, fs_l3Less)]) (L_l9q) Tryz.f168 [.vec 0, .vec 1] [(false, .vec .body xs), (false, .vec .body was)] Q =
    (let w_ := IntKind.wrap IntKind.i64; let s_ := SV.int IntKind.i64; let n_ := Int.toNat; let ib_ := Ty.ix Ty.body; List.length xs ≤ (1048576 : Nat) ∧ Holds (xs = xs ∧ was = was ∧ (0 : Int) ≤ (0 : Int) ∧ (0 : Int) ≤ (↑(List.length xs) : Int) ∧ xs = fill (fun e => quietS was e (ib_ xs e)) xs (n_ (0 : Int))) ∧ ∀ (y1 : List Body × List Body × Unit × List Body × Int), let y1f0_ := Prod.fst y1; let y1s1_ := Prod.snd y1; let y1f1_ := Prod.fst (Prod.snd y1); let y1s3_ := Prod.snd (Prod.snd (Prod.snd y1)); let y1f3_ := Prod.fst (Prod.snd (Prod.snd (Prod.snd y1))); let y1s4_ := Prod.snd (Prod.snd (Prod.snd (Prod.snd y1))); let A8_ := (↑(List.length y1f3_) : Int); let A7_ := (ib_ y1f3_ (n_ y1s4_)); let A6_ := (↑(List.length xs) : Int); let A5_ := ((↑(List.length y1f0_) : Int) - y1s4_); let A2_ := (Prod.snd y1s3_ + (1 : Int)); let A4_ := (n_ (w_ A2_)); let A3_ := ((↑(List.length y1f0_) : Int) - w_ A2_); Holds (Prod.fst y1 = xs ∧ y1f1_ = was ∧ (0 : Int) ≤ y1s4_ ∧ y1s4_ ≤ A6_ ∧ y1f3_ = fill (fun e => quietS was e (ib_ xs e)) xs (n_ y1s4_)) → ifB (decide (Prod.snd y1s3_ < A8_)) (((0 : Int) ≤ y1s4_ ∧ y1s4_ < A8_) ∧ ifB (Body.Mass A7_ == (0 : Int)) (Holds (Prod.fst y1 = xs ∧ y1f1_ = was ∧ (0 : Int) ≤ w_ A2_ ∧ w_ A2_ ≤ A6_ ∧ y1f3_ = fill (fun e => quietS was e (ib_ xs e)) xs A4_) ∧ n_ A3_ < n_ A5_) (((0 : Int) ≤ y1s4_ ∧ y1s4_ < A8_) ∧ ifB (decide (Body.Quiet A7_ ≥ (8 : Int))) (Holds (Prod.fst y1 = xs ∧ y1f1_ = was ∧ (0 : Int) ≤ w_ A2_ ∧ w_ A2_ ≤ A6_ ∧ y1f3_ = fill (fun e => quietS was e (ib_ xs e)) xs A4_) ∧ n_ A3_ < n_ A5_) (((0 : Int) ≤ y1s4_ ∧ y1s4_ < A8_) ∧ ((0 : Int) ≤ y1s4_ ∧ y1s4_ < A8_) ∧ ifB (isIn (Vec.X (speed A7_)) (-8 : Int) (8 : Int)) (ifB (isIn (Vec.Y (speed A7_)) (-8 : Int) (8 : Int)) (((0 : Int) ≤ y1s4_ ∧ y1s4_ < (↑(List.length y1f1_) : Int)) ∧ ((0 : Int) ≤ y1s4_ ∧ y1s4_ < (↑(List.length (setC Ty.body y1f3_ (n_ y1s4_) ((0 : Nat) + (11 : Nat)) [s_ (0 : Int)])) : Int)) ∧ Holds (Prod.fst y1 = xs ∧ y1f1_ = was ∧ (0 : Int) ≤ w_ A2_ ∧ w_ A2_ ≤ A6_ ∧ setC Ty.body (setC Ty.body y1f3_ (n_ y1s4_) ((0 : Nat) + (11 : Nat)) [s_ (0 : Int)]) (n_ y1s4_) ((0 : Nat) + (11 : Nat)) [s_ (min (w_ (Body.Quiet (ib_ y1f1_ (n_ y1s4_)) + (1 : Int))) (7 : Int))] = fill (fun e => quietS was e (ib_ xs e)) xs A4_) ∧ n_ A3_ < n_ A5_) (Holds (Prod.fst y1 = xs ∧ y1f1_ = was ∧ (0 : Int) ≤ w_ A2_ ∧ w_ A2_ ≤ A6_ ∧ setC Ty.body y1f3_ (n_ y1s4_) ((0 : Nat) + (11 : Nat)) [s_ (0 : Int)] = fill (fun e => quietS was e (ib_ xs e)) xs A4_) ∧ n_ A3_ < n_ A5_)) (Holds (Prod.fst y1 = xs ∧ y1f1_ = was ∧ (0 : Int) ≤ w_ A2_ ∧ w_ A2_ ≤ A6_ ∧ setC Ty.body y1f3_ (n_ y1s4_) ((0 : Nat) + (11 : Nat)) [s_ (0 : Int)] = fill (fun e => quietS was e (ib_ xs e)) xs A4_) ∧ n_ A3_ < n_ A5_)))) (Q (SV.vec (2 : Nat)) [(false, Blk.vec Ty.body y1f0_), (false, Blk.vec Ty.body y1f1_), (true, Blk.vec Ty.body y1f3_)])) := by kernel_rfl

theorem ok_l9Quiet : FsOk Tryz.prog 168 fs_l9Quiet := fsOk_of tt_ok (tabFs_cons ok_specCopyB (tabFs_cons ok_l6Sleeps (tabFs_cons ok_specSpeed (tabFs_cons ok_l1In (tabFs_cons ok_l3Less tabFs_nil))))) mixed Tryz.func168 (by kernel_rfl) (by kernel_rfl) (by
    intro args LL p r HH h hp
    unfold fs_l9Quiet at h
    dsimp only at h
    split at h
    case h_2 => cases h
    rename_i xs was
    simp only [Option.some.injEq, Prod.mk.injEq] at h
    obtain ⟨rfl, rfl, rfl⟩ := h
    refine ⟨by simp [Form, stays], (L_l9q), ?_⟩
    rw [vc_l9Quiet]
    try dsimp only
    obtain ⟨hok, hok2, hl2⟩ := hp _ rfl
    have hl := bodiesOk_len hok
    refine ⟨by omega, ⟨(by trivial), (by trivial), by omega, by omega, (fill_zero _ _).symm⟩, ?_⟩
    rintro ⟨xs', was', u, ys, i⟩ ⟨h⟩
    dsimp only at h ⊢
    obtain ⟨rfl, rfl, i0, i1, h5⟩ := h
    have hyl : ys.length = xs'.length := by rw [h5]; exact length_fill _ _ (by omega)
    refine ifB_of (fun c => ?_) (fun c => ?_)
    · have c := of_decide_eq_true c
      have hi : i.toNat < xs'.length := by omega
      have e1 : (i + 1).toNat = i.toNat + 1 := by omega
      have w : IntKind.i64.wrap (i + 1) = i + 1 := wrap_small (by omega) (by omega)
      have hf := (fill_ix h5 hi).2
      have hq := quiet_ok2 hok hi
      rw [w, e1, setC_quiet, setC_quiet, ix_set_self_body _ _ (by omega), List.set_set, hf, hq]
      refine ⟨⟨i0, c⟩, ifB_of (fun d => ⟨⟨(by trivial), (by trivial), by omega, by omega, fill_stay h5 hi ?_⟩, by omega⟩) (fun d => ⟨⟨i0, c⟩, ifB_of (fun d2 => ⟨⟨(by trivial), (by trivial), by omega, by omega, fill_stay h5 hi ?_⟩, by omega⟩) (fun d2 => ⟨⟨i0, c⟩, ⟨i0, c⟩, ifB_of (fun d3 => ifB_of (fun d4 => ⟨⟨i0, by omega⟩, ⟨i0, by rw [List.length_set]; exact c⟩, ⟨(by trivial), (by trivial), by omega, by omega, fill_go h5 hi ?_⟩, by omega⟩) (fun d4 => ⟨⟨(by trivial), (by trivial), by omega, by omega, fill_go h5 hi ?_⟩, by omega⟩)) (fun d3 => ⟨⟨(by trivial), (by trivial), by omega, by omega, fill_go h5 hi ?_⟩, by omega⟩)⟩)⟩)⟩
      all_goals
        unfold quietS moves
      · rw [d]
        rfl
      · rw [d, d2]
        rfl
      · rw [d, d2, d3, d4]
        rfl
      · rw [d, d2, d3, d4]
        rfl
      · rw [d, d2, d3]
        rfl
    · have c := of_decide_eq_false c
      rw [fill_map (f := quietS was') h5 (by omega)]
      exact ⟨(by trivial), (by trivial)⟩)

/-- In the groups from g on that are awake none sleeps. -/
def LowF (gs : List Int) (ws : List Bool) (g : Nat) (xs : List Body) : Prop := ∀ k, k < xs.length → (g : Int) ≤ gi gs k → Ty.ix .bool ws (gi gs k).toNat = true → (Ty.ix .body xs k).Quiet ≤ 7
def LSl9s1 (zs : List Body) : LS where
  S := List Body × List Int × List Bool × Unit × Unit × List Body × Int
  live := [(1, [none]), (2, [none]), (7, [some .body]), (8, [none])]
  shape := fun s => ([.vec 1, .vec 2, .vec 3, .int .i64 s.2.2.2.2.2.2], [(false, .vec .body s.1), (false, .vec .int s.2.1), (false, .vec .bool s.2.2.1), (true, .vec .body s.2.2.2.2.2.1)])
  get := fun v h => match v, h with
    | [.vec 1, .vec 2, .vec 3, .int .i64 g], [(false, .vec .body xs), (false, .vec .int gs), (false, .vec .bool ws), (true, .vec .body ys)] => some (xs, gs, ws, (), (), ys, g)
    | _, _ => none
  inv := fun s0 s => Holds (s.1 = s0.1 ∧ s.2.1 = s0.2.1 ∧ s.2.2.1 = s0.2.2.1 ∧ 0 ≤ s.2.2.2.2.2.2 ∧ s.2.2.2.2.2.2 ≤ s0.2.2.1.length ∧ s.2.2.2.2.2.1.length = zs.length ∧ LowF s0.2.1 s0.2.2.1 s.2.2.2.2.2.2.toNat s.2.2.2.2.2.1 ∧ settleF s0.2.1 s.2.2.2.2.2.2.toNat (s0.2.2.1.drop s.2.2.2.2.2.2.toNat) s.2.2.2.2.2.1 = settleF s0.2.1 0 s0.2.2.1 zs)
  mu := fun s => ((s.2.2.1.length : Int) - s.2.2.2.2.2.2).toNat
  ok := by
    intro v h s hg
    try dsimp only at hg
    split at hg <;> cases hg
    rfl

def LSl9s2  : LS where
  S := List Body × List Int × List Bool × Unit × Unit × List Body × Int × Bool × Int
  live := [(1, [none]), (2, [none]), (7, [some .body]), (8, [none]), (9, [none]), (10, [none])]
  shape := fun s => ([.vec 1, .vec 2, .vec 3, .int .i64 s.2.2.2.2.2.2.1, .bool s.2.2.2.2.2.2.2.1, .int .i64 s.2.2.2.2.2.2.2.2], [(false, .vec .body s.1), (false, .vec .int s.2.1), (false, .vec .bool s.2.2.1), (true, .vec .body s.2.2.2.2.2.1)])
  get := fun v h => match v, h with
    | [.vec 1, .vec 2, .vec 3, .int .i64 g, .bool all, .int .i64 i], [(false, .vec .body xs), (false, .vec .int gs), (false, .vec .bool ws), (true, .vec .body ys)] => some (xs, gs, ws, (), (), ys, g, all, i)
    | _, _ => none
  inv := fun s0 s => Holds (s.1 = s0.1 ∧ s.2.1 = s0.2.1 ∧ s.2.2.1 = s0.2.2.1 ∧ s.2.2.2.2.2.1 = s0.2.2.2.2.2.1 ∧ s.2.2.2.2.2.2.1 = s0.2.2.2.2.2.2.1 ∧ 0 ≤ s.2.2.2.2.2.2.2.2 ∧ s.2.2.2.2.2.2.2.2 ≤ s0.2.2.2.2.2.1.length ∧ s.2.2.2.2.2.2.2.1 = stillG s0.2.2.2.2.2.1 s0.2.1 s0.2.2.2.2.2.2.1 s.2.2.2.2.2.2.2.2.toNat)
  mu := fun s => ((s.2.2.2.2.2.1.length : Int) - s.2.2.2.2.2.2.2.2).toNat
  ok := by
    intro v h s hg
    try dsimp only at hg
    split at hg <;> cases hg
    rfl

def LSl9s3  : LS where
  S := List Body × List Int × List Bool × Unit × Unit × List Body × Int × Bool × Int
  live := [(1, [none]), (2, [none]), (7, [some .body]), (8, [none]), (9, [none]), (11, [none])]
  shape := fun s => ([.vec 1, .vec 2, .vec 3, .int .i64 s.2.2.2.2.2.2.1, .bool s.2.2.2.2.2.2.2.1, .int .i64 s.2.2.2.2.2.2.2.2], [(false, .vec .body s.1), (false, .vec .int s.2.1), (false, .vec .bool s.2.2.1), (true, .vec .body s.2.2.2.2.2.1)])
  get := fun v h => match v, h with
    | [.vec 1, .vec 2, .vec 3, .int .i64 g, .bool all, .int .i64 i], [(false, .vec .body xs), (false, .vec .int gs), (false, .vec .bool ws), (true, .vec .body ys)] => some (xs, gs, ws, (), (), ys, g, all, i)
    | _, _ => none
  inv := fun s0 s => Holds (s.1 = s0.1 ∧ s.2.1 = s0.2.1 ∧ s.2.2.1 = s0.2.2.1 ∧ s.2.2.2.2.2.2.1 = s0.2.2.2.2.2.2.1 ∧ s.2.2.2.2.2.2.2.1 = s0.2.2.2.2.2.2.2.1 ∧ 0 ≤ s.2.2.2.2.2.2.2.2 ∧ s.2.2.2.2.2.2.2.2 ≤ s0.2.2.2.2.2.1.length ∧ s.2.2.2.2.2.1 = fill (bedAt s0.2.2.2.2.2.1 s0.2.1 s0.2.2.2.2.2.2.1 s0.2.2.2.2.2.2.2.1) s0.2.2.2.2.2.1 s.2.2.2.2.2.2.2.2.toNat)
  mu := fun s => ((s.2.2.2.2.2.1.length : Int) - s.2.2.2.2.2.2.2.2).toNat
  ok := by
    intro v h s hg
    try dsimp only at hg
    split at hg <;> cases hg
    rfl

def L_l9s (zs : List Body) : Loops := fun n => match n with
  | 3 => some (LSl9s1 zs)
  | 8 => some LSl9s2
  | 12 => some LSl9s3
  | _ => none
noncomputable def fs_l9Sleep : Fs := ⟨[], fun args H => match args, H with
  | [.vec 0, .vec 1, .vec 2], [(false, .vec .body xs), (false, .vec .int gs), (false, .vec .bool ws)] => some ((some (xs.length ≤ 12 ∧ gs.length = xs.length ∧ ws.length ≤ 12 ∧ LowG gs ws xs)), .vec 3, [(false, .vec .body xs), (false, .vec .int gs), (false, .vec .bool ws), (true, .vec .body (settleF gs 0 ws xs))])
  | _, _ => none⟩

theorem vc_l9Sleep (xs : List Body) (gs : List Int) (ws : List Bool) (Q : SV → List Ent → Prop) :
    fnVC tt (look [(90, fs_specCopyB)]) (L_l9s xs) Tryz.f167 [.vec 0, .vec 1, .vec 2] [(false, .vec .body xs), (false, .vec .int gs), (false, .vec .bool ws)] Q =
    (let w_ := IntKind.wrap IntKind.i64; let s_ := SV.int IntKind.i64; let n_ := Int.toNat; List.length xs ≤ (1048576 : Nat) ∧ Holds (xs = xs ∧ gs = gs ∧ ws = ws ∧ (0 : Int) ≤ (0 : Int) ∧ (0 : Int) ≤ (↑(List.length ws) : Int) ∧ List.length xs = List.length xs ∧ LowF gs ws (n_ (0 : Int)) xs ∧ settleF gs (n_ (0 : Int)) (List.drop (n_ (0 : Int)) ws) xs = settleF gs (0 : Nat) ws xs) ∧ ∀ (y14 : List Body × List Int × List Bool × Unit × Unit × List Body × Int), let y14f0_ := Prod.fst y14; let y14s1_ := Prod.snd y14; let y14f1_ := Prod.fst (Prod.snd y14); let y14f2_ := Prod.fst (Prod.snd (Prod.snd y14)); let y14s5_ := Prod.snd (Prod.snd (Prod.snd (Prod.snd (Prod.snd y14)))); let y14f5_ := Prod.fst (Prod.snd (Prod.snd (Prod.snd (Prod.snd (Prod.snd y14))))); let y14s6_ := Prod.snd (Prod.snd (Prod.snd (Prod.snd (Prod.snd (Prod.snd y14))))); let A16_ := (↑(List.length y14f2_) : Int); let A15_ := (n_ (w_ (Prod.snd y14s5_ + (1 : Int)))); Holds (Prod.fst y14 = xs ∧ y14f1_ = gs ∧ y14f2_ = ws ∧ (0 : Int) ≤ y14s6_ ∧ y14s6_ ≤ (↑(List.length ws) : Int) ∧ List.length y14f5_ = List.length xs ∧ LowF gs ws (n_ y14s6_) y14f5_ ∧ settleF gs (n_ y14s6_) (List.drop (n_ y14s6_) ws) y14f5_ = settleF gs (0 : Nat) ws xs) → ifB (decide (Prod.snd y14s5_ < A16_)) (((0 : Int) ≤ y14s6_ ∧ y14s6_ < A16_) ∧ ifB (!Ty.ix Ty.bool y14f2_ (n_ y14s6_)) (Holds (Prod.fst y14 = xs ∧ y14f1_ = gs ∧ y14f2_ = ws ∧ (0 : Int) ≤ w_ (Prod.snd y14s5_ + (1 : Int)) ∧ w_ (Prod.snd y14s5_ + (1 : Int)) ≤ (↑(List.length ws) : Int) ∧ List.length y14f5_ = List.length xs ∧ LowF gs ws A15_ y14f5_ ∧ settleF gs A15_ (List.drop A15_ ws) y14f5_ = settleF gs (0 : Nat) ws xs) ∧ n_ (A16_ - w_ (Prod.snd y14s5_ + (1 : Int))) < n_ (A16_ - y14s6_)) (Holds (Prod.fst y14 = y14f0_ ∧ y14f1_ = y14f1_ ∧ y14f2_ = y14f2_ ∧ y14f5_ = y14f5_ ∧ y14s6_ = y14s6_ ∧ (0 : Int) ≤ (0 : Int) ∧ (0 : Int) ≤ (↑(List.length y14f5_) : Int) ∧ true = stillG y14f5_ y14f1_ y14s6_ (n_ (0 : Int))) ∧ ∀ (y9 : List Body × List Int × List Bool × Unit × Unit × List Body × Int × Bool × Int), let y9f0_ := Prod.fst y9; let y9s1_ := Prod.snd y9; let y9f1_ := Prod.fst (Prod.snd y9); let y9f2_ := Prod.fst (Prod.snd (Prod.snd y9)); let y9f5_ := Prod.fst (Prod.snd (Prod.snd (Prod.snd (Prod.snd (Prod.snd y9))))); let y9f6_ := Prod.fst (Prod.snd (Prod.snd (Prod.snd (Prod.snd (Prod.snd (Prod.snd y9)))))); let y9s7_ := Prod.snd (Prod.snd (Prod.snd (Prod.snd (Prod.snd (Prod.snd (Prod.snd y9)))))); let y9f7_ := Prod.fst (Prod.snd (Prod.snd (Prod.snd (Prod.snd (Prod.snd (Prod.snd (Prod.snd y9))))))); let y9s8_ := Prod.snd (Prod.snd (Prod.snd (Prod.snd (Prod.snd (Prod.snd (Prod.snd (Prod.snd y9))))))); let A12_ := (↑(List.length y9f5_) : Int); let A11_ := (Prod.snd y9s7_ + (1 : Int)); let A10_ := y14s5_; let A13_ := (↑(List.length (Prod.fst A10_)) : Int); Holds (Prod.fst y9 = y14f0_ ∧ y9f1_ = y14f1_ ∧ y9f2_ = y14f2_ ∧ y9f5_ = Prod.fst A10_ ∧ y9f6_ = Prod.snd A10_ ∧ (0 : Int) ≤ y9s8_ ∧ y9s8_ ≤ A13_ ∧ y9f7_ = stillG (Prod.fst A10_) y14f1_ (Prod.snd A10_) (n_ y9s8_)) → ifB (decide (Prod.snd y9s7_ < A12_)) (ifB y9f7_ (((0 : Int) ≤ y9s8_ ∧ y9s8_ < (↑(List.length y9f1_) : Int)) ∧ ifB (Ty.ix Ty.int y9f1_ (n_ y9s8_) != y9f6_) (Holds (Prod.fst y9 = y14f0_ ∧ y9f1_ = y14f1_ ∧ y9f2_ = y14f2_ ∧ y9f5_ = Prod.fst A10_ ∧ y9f6_ = Prod.snd A10_ ∧ (0 : Int) ≤ w_ A11_ ∧ w_ A11_ ≤ A13_ ∧ true = stillG (Prod.fst A10_) y14f1_ (Prod.snd A10_) (n_ (w_ A11_))) ∧ n_ (A12_ - w_ A11_) < n_ (A12_ - y9s8_)) (((0 : Int) ≤ y9s8_ ∧ y9s8_ < A12_) ∧ Holds (Prod.fst y9 = y14f0_ ∧ y9f1_ = y14f1_ ∧ y9f2_ = y14f2_ ∧ y9f5_ = Prod.fst A10_ ∧ y9f6_ = Prod.snd A10_ ∧ (0 : Int) ≤ w_ A11_ ∧ w_ A11_ ≤ A13_ ∧ decide (Body.Quiet (Ty.ix Ty.body y9f5_ (n_ y9s8_)) ≥ (7 : Int)) = stillG (Prod.fst A10_) y14f1_ (Prod.snd A10_) (n_ (w_ A11_))) ∧ n_ (A12_ - w_ A11_) < n_ (A12_ - y9s8_))) (Holds (Prod.fst y9 = y14f0_ ∧ y9f1_ = y14f1_ ∧ y9f2_ = y14f2_ ∧ y9f5_ = Prod.fst A10_ ∧ y9f6_ = Prod.snd A10_ ∧ (0 : Int) ≤ w_ A11_ ∧ w_ A11_ ≤ A13_ ∧ false = stillG (Prod.fst A10_) y14f1_ (Prod.snd A10_) (n_ (w_ A11_))) ∧ n_ (A12_ - w_ A11_) < n_ (A12_ - y9s8_))) (Holds (Prod.fst y9 = y9f0_ ∧ y9f1_ = y9f1_ ∧ y9f2_ = y9f2_ ∧ y9f6_ = y9f6_ ∧ y9f7_ = y9f7_ ∧ (0 : Int) ≤ (0 : Int) ∧ (0 : Int) ≤ A12_ ∧ y9f5_ = fill (bedAt y9f5_ y9f1_ y9f6_ y9f7_) y9f5_ (n_ (0 : Int))) ∧ ∀ (y1 : List Body × List Int × List Bool × Unit × Unit × List Body × Int × Bool × Int), let y1f0_ := Prod.fst y1; let y1s1_ := Prod.snd y1; let y1f1_ := Prod.fst (Prod.snd y1); let y1f2_ := Prod.fst (Prod.snd (Prod.snd y1)); let y1f5_ := Prod.fst (Prod.snd (Prod.snd (Prod.snd (Prod.snd (Prod.snd y1))))); let y1s6_ := Prod.snd (Prod.snd (Prod.snd (Prod.snd (Prod.snd (Prod.snd y1))))); let y1f6_ := Prod.fst (Prod.snd (Prod.snd (Prod.snd (Prod.snd (Prod.snd (Prod.snd y1)))))); let y1s7_ := Prod.snd (Prod.snd (Prod.snd (Prod.snd (Prod.snd (Prod.snd (Prod.snd y1)))))); let y1f7_ := Prod.fst (Prod.snd (Prod.snd (Prod.snd (Prod.snd (Prod.snd (Prod.snd (Prod.snd y1))))))); let y1s8_ := Prod.snd (Prod.snd (Prod.snd (Prod.snd (Prod.snd (Prod.snd (Prod.snd (Prod.snd y1))))))); let A7_ := (n_ (w_ (Prod.fst y1s6_ + (1 : Int)))); let A6_ := (↑(List.length y1f5_) : Int); let A5_ := (setC Ty.body y1f5_ (n_ y1s8_) ((0 : Nat) + (11 : Nat)) [s_ (8 : Int)]); let A4_ := (Prod.snd y1s7_ + (1 : Int)); let A2_ := (Prod.snd (Prod.snd (Prod.snd (Prod.snd y9s1_)))); let A8_ := (↑(List.length (Prod.fst A2_)) : Int); let A3_ := (bedAt (Prod.fst A2_) y9f1_ (Prod.fst (Prod.snd A2_)) (Prod.fst (Prod.snd (Prod.snd A2_)))); Holds (Prod.fst y1 = y9f0_ ∧ y1f1_ = y9f1_ ∧ y1f2_ = y9f2_ ∧ y1f6_ = Prod.fst (Prod.snd A2_) ∧ y1f7_ = Prod.fst (Prod.snd (Prod.snd A2_)) ∧ (0 : Int) ≤ y1s8_ ∧ y1s8_ ≤ A8_ ∧ y1f5_ = fill A3_ (Prod.fst A2_) (n_ y1s8_)) → ifB (decide (Prod.snd y1s7_ < A6_)) (ifB y1f7_ (((0 : Int) ≤ y1s8_ ∧ y1s8_ < (↑(List.length y1f1_) : Int)) ∧ ifB (Ty.ix Ty.int y1f1_ (n_ y1s8_) == y1f6_) (((0 : Int) ≤ y1s8_ ∧ y1s8_ < A6_) ∧ ((0 : Int) ≤ y1s8_ ∧ y1s8_ < (↑(List.length A5_) : Int)) ∧ Holds (Prod.fst y1 = y9f0_ ∧ y1f1_ = y9f1_ ∧ y1f2_ = y9f2_ ∧ y1f6_ = Prod.fst (Prod.snd A2_) ∧ y1f7_ = Prod.fst (Prod.snd (Prod.snd A2_)) ∧ (0 : Int) ≤ w_ A4_ ∧ w_ A4_ ≤ A8_ ∧ setC Ty.body A5_ (n_ y1s8_) ((0 : Nat) + (6 : Nat)) [s_ (0 : Int), s_ (0 : Int)] = fill A3_ (Prod.fst A2_) (n_ (w_ A4_))) ∧ n_ ((↑(List.length (setC Ty.body A5_ (n_ y1s8_) ((0 : Nat) + (6 : Nat)) [s_ (0 : Int), s_ (0 : Int)])) : Int) - w_ A4_) < n_ (A6_ - y1s8_)) (Holds (Prod.fst y1 = y9f0_ ∧ y1f1_ = y9f1_ ∧ y1f2_ = y9f2_ ∧ y1f6_ = Prod.fst (Prod.snd A2_) ∧ y1f7_ = Prod.fst (Prod.snd (Prod.snd A2_)) ∧ (0 : Int) ≤ w_ A4_ ∧ w_ A4_ ≤ A8_ ∧ y1f5_ = fill A3_ (Prod.fst A2_) (n_ (w_ A4_))) ∧ n_ (A6_ - w_ A4_) < n_ (A6_ - y1s8_))) (Holds (Prod.fst y1 = y9f0_ ∧ y1f1_ = y9f1_ ∧ y1f2_ = y9f2_ ∧ y1f6_ = Prod.fst (Prod.snd A2_) ∧ y1f7_ = Prod.fst (Prod.snd (Prod.snd A2_)) ∧ (0 : Int) ≤ w_ A4_ ∧ w_ A4_ ≤ A8_ ∧ y1f5_ = fill A3_ (Prod.fst A2_) (n_ (w_ A4_))) ∧ n_ (A6_ - w_ A4_) < n_ (A6_ - y1s8_))) (Holds (Prod.fst y1 = xs ∧ y1f1_ = gs ∧ y1f2_ = ws ∧ (0 : Int) ≤ w_ (Prod.fst y1s6_ + (1 : Int)) ∧ w_ (Prod.fst y1s6_ + (1 : Int)) ≤ (↑(List.length ws) : Int) ∧ List.length y1f5_ = List.length xs ∧ LowF gs ws A7_ y1f5_ ∧ settleF gs A7_ (List.drop A7_ ws) y1f5_ = settleF gs (0 : Nat) ws xs) ∧ n_ ((↑(List.length y1f2_) : Int) - w_ (Prod.fst y1s6_ + (1 : Int))) < n_ (A16_ - Prod.snd A10_))))) (Q (SV.vec (3 : Nat)) [(false, Blk.vec Ty.body y14f0_), (false, Blk.vec Ty.int y14f1_), (false, Blk.vec Ty.bool y14f2_), (true, Blk.vec Ty.body y14f5_)])) := by kernel_rfl

theorem ok_l9Sleep : FsOk Tryz.prog 167 fs_l9Sleep := fsOk_of tt_ok (tabFs_cons ok_specCopyB tabFs_nil) mixed Tryz.func167 (by kernel_rfl) (by kernel_rfl) (by
    intro args LL p r HH h hp
    unfold fs_l9Sleep at h
    dsimp only at h
    split at h
    case h_2 => cases h
    rename_i xs gs ws
    simp only [Option.some.injEq, Prod.mk.injEq] at h
    obtain ⟨rfl, rfl, rfl⟩ := h
    refine ⟨by simp [Form, stays], (L_l9s xs), ?_⟩
    rw [vc_l9Sleep]
    try dsimp only
    obtain ⟨hl, hgl, hwl, hlow⟩ := hp _ rfl
    have low0 : LowF gs ws 0 xs := fun k hk h1 h2 => hlow k hk (by omega) h2
    refine ⟨by omega, ⟨(by trivial), (by trivial), (by trivial), by omega, by omega, (by trivial), low0, (by trivial)⟩, ?_⟩
    rintro ⟨xs', gs', ws', u, v, ys, g⟩ ⟨h⟩
    dsimp only at h ⊢
    obtain ⟨rfl, rfl, rfl, g0, g1, g2, g3, g4⟩ := h
    refine ifB_of (fun c => ?_) (fun c => ?_)
    · have c := of_decide_eq_true c
      have hg : g.toNat < ws'.length := by omega
      have e1 : (g + 1).toNat = g.toNat + 1 := by omega
      have w1 : IntKind.i64.wrap (g + 1) = g + 1 := wrap_small (by omega) (by omega)
      rw [drop_ix (T := .bool) hg] at g4
      have eg : ((g.toNat : Nat) : Int) = g := by omega
      refine ⟨⟨g0, c⟩, ifB_of (fun d => ?_) (fun d => ⟨⟨(by trivial), (by trivial), (by trivial), (by trivial), (by trivial), by omega, by omega, (by trivial)⟩, ?_⟩)⟩
      · rw [w1, e1]
        have d := not_true d
        refine ⟨⟨(by trivial), (by trivial), (by trivial), by omega, by omega, g2, fun k hk h1 h2 => g3 k hk (by omega) h2, ?_⟩, by omega⟩
        rw [← g4, d]
        show settleF gs' (g.toNat + 1) (ws'.drop (g.toNat + 1)) ys = settleF gs' (g.toNat + 1) (ws'.drop (g.toNat + 1)) (settleOne ys gs' (g.toNat : Nat) false)
        congr 1
        unfold settleOne bedAt
        simp only [Bool.false_and, cond_false]
        exact (gen_ix (T := .body) ys).symm
      have d := not_false d
      rintro ⟨xs2, gs2, ws2, u2, v2, ys2, gg, all, i⟩ ⟨h⟩
      dsimp only at h ⊢
      obtain ⟨rfl, rfl, rfl, rfl, rfl, i0, i1, rfl⟩ := h
      refine ifB_of (fun c2 => ?_) (fun c2 => ?_)
      · have c2 := of_decide_eq_true c2
        have hi : i.toNat < ys2.length := by omega
        have e2 : (i + 1).toNat = i.toNat + 1 := by omega
        have w2 : IntKind.i64.wrap (i + 1) = i + 1 := wrap_small (by omega) (by omega)
        rw [w2, e2]
        have hst : stillG ys2 gs2 gg (i.toNat + 1) = (stillG ys2 gs2 gg i.toNat && (!(gi gs2 i.toNat == gg) || (Ty.ix .body ys2 i.toNat).Quiet == 7)) := rfl
        rw [hst]
        refine ifB_of (fun q => ⟨⟨i0, by omega⟩, ifB_of (fun q2 => ⟨⟨(by trivial), (by trivial), (by trivial), (by trivial), (by trivial), by omega, by omega, ?_⟩, by omega⟩) (fun q2 => ⟨⟨i0, c2⟩, ⟨(by trivial), (by trivial), (by trivial), (by trivial), (by trivial), by omega, by omega, ?_⟩, by omega⟩)⟩) (fun q => ⟨⟨(by trivial), (by trivial), (by trivial), (by trivial), (by trivial), by omega, by omega, ?_⟩, by omega⟩)
        · have q2 : (!(gi gs2 i.toNat == gg)) = true := q2
          rw [q, q2]
          rfl
        · have q2 : (!(gi gs2 i.toNat == gg)) = false := q2
          have q3 : gi gs2 i.toNat = gg := eq_of_beq (not_false q2)
          have h7 := g3 i.toNat hi (by rw [q3]; omega) (by rw [q3]; exact d)
          rw [q, q2]
          show decide ((Ty.ix .body ys2 i.toNat).Quiet ≥ 7) = ((Ty.ix .body ys2 i.toNat).Quiet == 7)
          rw [Bool.eq_iff_iff]
          simp only [decide_eq_true_eq, beq_iff_eq]
          omega
        · rw [q]
          rfl
      · have c2 := of_decide_eq_false c2
        have ei : i.toNat = ys2.length := by omega
        rw [ei]
        refine ⟨⟨(by trivial), (by trivial), (by trivial), (by trivial), (by trivial), by omega, by omega, (fill_zero _ _).symm⟩, ?_⟩
        clear c2 i0 i1 ei
        rintro ⟨xs3, gs3, ws3, u3, v3, zs, g3', all, k⟩ ⟨h⟩
        dsimp only at h ⊢
        obtain ⟨rfl, rfl, rfl, rfl, rfl, k0, k1, h5⟩ := h
        have hzl : zs.length = ys2.length := by rw [h5]; exact length_fill _ _ (by omega)
        refine ifB_of (fun c3 => ?_) (fun c3 => ?_)
        · have c3 := of_decide_eq_true c3
          generalize stillG ys2 gs3 g3' ys2.length = A at h5 ⊢
          have hi : k.toNat < ys2.length := by omega
          have e2 : (k + 1).toNat = k.toNat + 1 := by omega
          have w2 : IntKind.i64.wrap (k + 1) = k + 1 := wrap_small (by omega) (by omega)
          have hf := (fill_ix h5 hi).2
          rw [w2, e2, setC_quiet, setC_drive, ix_set_self_body _ _ (by omega), List.set_set, hf]
          refine ifB_of (fun q => ⟨⟨k0, by omega⟩, ifB_of (fun q2 => ⟨⟨k0, c3⟩, ⟨k0, by rw [List.length_set]; exact c3⟩, ⟨(by trivial), (by trivial), (by trivial), (by trivial), (by trivial), by omega, by omega, fill_go h5 hi ?_⟩, by rw [List.length_set]; omega⟩) (fun q2 => ⟨⟨(by trivial), (by trivial), (by trivial), (by trivial), (by trivial), by omega, by omega, fill_stay h5 hi ?_⟩, by omega⟩)⟩) (fun q => ⟨⟨(by trivial), (by trivial), (by trivial), (by trivial), (by trivial), by omega, by omega, fill_stay h5 hi ?_⟩, by omega⟩)
          · have q2 : (gi gs3 k.toNat == g3') = true := q2
            unfold bedAt
            rw [q, q2]
            rfl
          · have q2 : (gi gs3 k.toNat == g3') = false := q2
            unfold bedAt
            rw [q2, Bool.and_false]
            rfl
          · unfold bedAt
            rw [q, Bool.false_and]
            rfl
        · have c3 := of_decide_eq_false c3
          rw [show k.toNat = ys2.length by omega, fill_end _ _ rfl] at h5
          have hz : zs = settleOne ys2 gs3 (g3'.toNat : Nat) true := by
            unfold settleOne
            rw [eg, Bool.true_and]
            exact h5
          rw [w1, e1]
          have g4' := g4
          rw [d] at g4'
          refine ⟨⟨(by trivial), (by trivial), (by trivial), by omega, by omega, by omega, fun j hj h1 h2 => ?_, ?_⟩, by omega⟩
          · rw [hz, length_settleOne] at hj
            rw [hz, ix_settleOne hj]
            have hne : (gi gs3 j == (g3'.toNat : Int)) = false := beq_eq_false_iff_ne.2 (by omega)
            unfold bedAt
            rw [hne, Bool.and_false]
            exact g3 j hj (by omega) h2
          · rw [hz]
            exact g4'
    · have c := of_decide_eq_false c
      rw [drop_end (by omega)] at g4
      have g4 : ys = _ := g4
      rw [g4]
      exact ⟨(by trivial), (by trivial)⟩)

theorem contactsF_ctok {xs : List Body} (h : xs.length ≤ 12) : CtsOk xs.length (contactsF xs) := by
  have h1 := length_contactsF h
  refine ⟨by omega, fun k hk => ?_⟩
  have hm : Ty.ix .contact (contactsF xs) k ∈ contactsF xs := List.mem_of_getElem? (ix_get (T := .contact) hk)
  obtain ⟨a, b, q1, q2, q3, _⟩ := mem_contactsF hm
  rw [q3]
  refine ⟨?_, ?_, ?_, ?_, ?_⟩ <;> dsimp only <;> omega
noncomputable def fs_l9Step : Fs := ⟨[], fun args H => match args, H with
  | [.vec 0, .int .i64 pull], [(false, .vec .body xs)] => some ((some (bodiesOk xs = true ∧ 0 ≤ pull ∧ pull ≤ 2560)), .vec 1, [(false, .vec .body xs), (true, .vec .body (stepF xs pull))])
  | _, _ => none⟩

theorem vc_l9Step (xs : List Body) (pull : Int) (Q : SV → List Ent → Prop) :
    fnVC tt (look [(160, fs_l7Contacts), (161, fs_l7Groups), (162, fs_l7Awake), (163, fs_l9Wake), (164, fs_l9Live), (165, fs_l9Pull), (109, fs_specAll), (166, fs_l9Moves), (113, fs_specAparts), (168, fs_l9Quiet), (167, fs_l9Sleep)]) L0 Tryz.f75 [.vec 0, .int .i64 pull] [(false, .vec .body xs)] Q =
    (let ic_ := Ty.ix Ty.contact; let A1_ := (liveF (wokenF xs) (contactsF xs)); let A2_ := (mapX goS (pushAllF (mapX (pullS pull) (wokenF xs)) A1_)); bodiesOk xs = true ∧ (List.length xs ≤ (12 : Nat) ∧ contactsF xs = contactsF xs) ∧ (bodiesOk xs = true ∧ groupsX xs = groupsX xs) ∧ (bodiesOk xs = true ∧ groupsX xs = groupsX xs ∧ awkF xs (List.length xs) = awkF xs (List.length xs)) ∧ (bodiesOk (wokenF xs) = true ∧ List.length (contactsF xs) ≤ (144 : Nat) ∧ ∀ (k : Nat), k < List.length (contactsF xs) → (0 : Int) ≤ Contact.A (ic_ (contactsF xs) k) ∧ Contact.A (ic_ (contactsF xs) k) < (↑(List.length (wokenF xs)) : Int) ∧ (0 : Int) ≤ Contact.B (ic_ (contactsF xs) k) ∧ Contact.B (ic_ (contactsF xs) k) < (↑(List.length (wokenF xs)) : Int) ∧ Contact.A (ic_ (contactsF xs) k) ≠ Contact.B (ic_ (contactsF xs) k)) ∧ (bodiesOk (wokenF xs) = true ∧ (0 : Int) ≤ pull ∧ pull ≤ (2560 : Int)) ∧ ((∀ (k : Nat), k < List.length (mapX (pullS pull) (wokenF xs)) → POk (Ty.ix Ty.body (mapX (pullS pull) (wokenF xs)) k)) ∧ List.length (mapX (pullS pull) (wokenF xs)) ≤ (12 : Nat) ∧ List.length A1_ ≤ (144 : Nat) ∧ ∀ (k : Nat), k < List.length A1_ → (0 : Int) ≤ Contact.A (ic_ A1_ k) ∧ Contact.A (ic_ A1_ k) < (↑(List.length (mapX (pullS pull) (wokenF xs))) : Int) ∧ (0 : Int) ≤ Contact.B (ic_ A1_ k) ∧ Contact.B (ic_ A1_ k) < (↑(List.length (mapX (pullS pull) (wokenF xs))) : Int) ∧ Contact.A (ic_ A1_ k) ≠ Contact.B (ic_ A1_ k)) ∧ bodiesOk (pushAllF (mapX (pullS pull) (wokenF xs)) A1_) = true ∧ ((∀ (k : Nat), k < List.length A2_ → POk (Ty.ix Ty.body A2_ k)) ∧ List.length A2_ ≤ (12 : Nat) ∧ List.length A1_ ≤ (144 : Nat) ∧ ∀ (k : Nat), k < List.length A1_ → (0 : Int) ≤ Contact.A (ic_ A1_ k) ∧ Contact.A (ic_ A1_ k) < (↑(List.length A2_) : Int) ∧ (0 : Int) ≤ Contact.B (ic_ A1_ k) ∧ Contact.B (ic_ A1_ k) < (↑(List.length A2_) : Int) ∧ Contact.A (ic_ A1_ k) ≠ Contact.B (ic_ A1_ k)) ∧ (bodiesOk (apartF A2_ A1_) = true ∧ bodiesOk (wokenF xs) = true ∧ List.length (wokenF xs) = List.length (apartF A2_ A1_)) ∧ (List.length (mapX (quietS (wokenF xs)) (apartF A2_ A1_)) ≤ (12 : Nat) ∧ List.length (groupsX xs) = List.length (mapX (quietS (wokenF xs)) (apartF A2_ A1_)) ∧ List.length (awkF xs (List.length xs)) ≤ (12 : Nat) ∧ ∀ (k : Nat), k < List.length (mapX (quietS (wokenF xs)) (apartF A2_ A1_)) → (0 : Int) ≤ gi (groupsX xs) k → Ty.ix Ty.bool (awkF xs (List.length xs)) (Int.toNat (gi (groupsX xs) k)) = true → Body.Quiet (Ty.ix Ty.body (mapX (quietS (wokenF xs)) (apartF A2_ A1_)) k) ≤ (7 : Int)) ∧ Q (SV.vec (1 : Nat)) [(false, Blk.vec Ty.body xs), (true, Blk.vec Ty.body (settleF (groupsX xs) (0 : Nat) (awkF xs (List.length xs)) (mapX (quietS (wokenF xs)) (apartF A2_ A1_))))]) := by kernel_rfl

theorem ok_l9Step : FsOk Tryz.prog 75 fs_l9Step := fsOk_of tt_ok (tabFs_cons ok_l7Contacts (tabFs_cons ok_l7Groups (tabFs_cons ok_l7Awake (tabFs_cons ok_l9Wake (tabFs_cons ok_l9Live (tabFs_cons ok_l9Pull (tabFs_cons ok_specAll (tabFs_cons ok_l9Moves (tabFs_cons ok_specAparts (tabFs_cons ok_l9Quiet (tabFs_cons ok_l9Sleep tabFs_nil))))))))))) mixed Tryz.func75 (by kernel_rfl) (by kernel_rfl) (by
    intro args LL p r HH h hp
    unfold fs_l9Step at h
    dsimp only at h
    split at h
    case h_2 => cases h
    rename_i pull xs
    simp only [Option.some.injEq, Prod.mk.injEq] at h
    obtain ⟨rfl, rfl, rfl⟩ := h
    refine ⟨by simp [Form, stays], L0, ?_⟩
    rw [vc_l9Step]
    try dsimp only
    obtain ⟨hok, p0, p1⟩ := hp _ rfl
    have hl := bodiesOk_len hok
    have hco := contactsF_ctok hl
    have hlv := live_same (pull := pull) hl
    rw [hlv]
    have hll : CtsOk xs.length (liveX xs pull) := live_ok hl
    have hP := ok_pulledF hok p0 p1
    refine ⟨hok, ⟨hl, rfl⟩, ⟨hok, rfl⟩, ⟨hok, rfl, rfl⟩, ⟨ok_wokenF hok, by rw [length_wokenF]; exact hco⟩, ⟨ok_wokenF hok, p0, p1⟩, ⟨allP_ok hP, by rw [length_mapX, length_wokenF]; exact hl, by rw [length_mapX, length_wokenF]; exact hll⟩, ok_pushedF hok p0 p1,
      ⟨allP_ok (ok_movedF hok p0 p1), by rw [length_mapX, length_pushAllF, length_mapX, length_wokenF]; exact hl, by rw [length_mapX, length_pushAllF, length_mapX, length_wokenF]; exact hll⟩,
      ⟨ok_apartX hok p0 p1, ok_wokenF hok, by rw [length_apartF, length_mapX, length_pushAllF, length_mapX, length_wokenF]⟩, ⟨?_, ?_, ?_, low_quietX hok⟩, (by trivial), (by trivial)⟩
    · rw [length_mapX, length_apartF, length_mapX, length_pushAllF, length_mapX, length_wokenF]
      exact hl
    · rw [length_mapX, length_apartF, length_mapX, length_pushAllF, length_mapX, length_wokenF]
      simp only [groupsX, length_gen]
    · have := length_awkF xs xs.length
      have := num_le xs xs.length
      omega)

end
end Go.Proofs.YtdhbkcaaijgocaaGreat.Sym

namespace Go.Proofs.YtdhbkcaaijgocaaGreat.Sym
open Go
set_option linter.unusedVariables false
set_option linter.unusedSimpArgs false
set_option maxRecDepth 100000

noncomputable def pairC (xs : List Body) (c : Contact) : Pair := ⟨(Ty.ix .body xs c.A.toNat).Id, (Ty.ix .body xs c.B.toNat).Id⟩
noncomputable def pairsC (xs : List Body) (cs : List Contact) : List Pair := cs.map (pairC xs)
noncomputable def stepPairs (xs : List Body) : List Pair := pairsC xs (contactsOf xs)
theorem pairsC_drop {xs : List Body} {cs : List Contact} {i : Nat} (h : i < cs.length) : pairsC xs (cs.drop i) = pairC xs (Ty.ix .contact cs i) :: pairsC xs (cs.drop (i + 1)) := by
  rw [drop_ix (T := .contact) h]
  rfl
theorem length_pairsC (xs : List Body) (cs : List Contact) : (pairsC xs cs).length = cs.length := by simp [pairsC]
theorem ix_mem {T : Ty} {xs : List T.El} {i : Nat} (h : i < xs.length) : T.ix xs i ∈ xs := by
  have := ix_get (T := T) h
  exact List.mem_of_getElem? this
theorem contact_ok {xs : List Body} {i : Nat} (h : i < (contactsF xs).length) : 0 ≤ (Ty.ix .contact (contactsF xs) i).A ∧ (Ty.ix .contact (contactsF xs) i).A < xs.length ∧ 0 ≤ (Ty.ix .contact (contactsF xs) i).B ∧ (Ty.ix .contact (contactsF xs) i).B < xs.length ∧ (Ty.ix .contact (contactsF xs) i).A < (Ty.ix .contact (contactsF xs) i).B := by
  obtain ⟨a, b, h1, h2, h3, _⟩ := mem_contactsF (ix_mem (T := .contact) h)
  rw [h3]
  dsimp only
  omega
def LSl9p  : LS where
  S := List Body × Unit × List Pair × List Contact × Int
  live := [(0, [none]), (3, [some .pair]), (4, [some .contact]), (5, [none])]
  shape := fun s => ([.vec 0, .vec 1, .vec 2, .int .i64 s.2.2.2.2], [(false, .vec .body s.1), (true, .vec .pair s.2.2.1), (true, .vec .contact s.2.2.2.1)])
  get := fun v h => match v, h with
    | [.vec 0, .vec 1, .vec 2, .int .i64 i], [(false, .vec .body xs), (true, .vec .pair out), (true, .vec .contact cs)] => some (xs, (), out, cs, i)
    | _, _ => none
  inv := fun s0 s => Holds (s.1 = s0.1 ∧ s.2.2.2.1 = s0.2.2.2.1 ∧ 0 ≤ s.2.2.2.2 ∧ s.2.2.2.2 ≤ s0.2.2.2.1.length ∧ s.2.2.1 ++ pairsC s0.1 (s0.2.2.2.1.drop s.2.2.2.2.toNat) = pairsC s0.1 s0.2.2.2.1)
  mu := fun s => ((s.2.2.2.1.length : Int) - s.2.2.2.2).toNat
  ok := by
    intro v h s hg
    try dsimp only at hg
    split at hg <;> cases hg
    rfl

def L_l9p : Loops := fun n => match n with
  | 4 => some LSl9p
  | _ => none
noncomputable def fs_l9Pairs : Fs := ⟨[], fun args H => match args, H with
  | [.vec 0], [(false, .vec .body xs)] => some ((some (bodiesOk xs = true)), .vec 1, [(false, .vec .body xs), (true, .vec .pair (pairsC xs (contactsF xs)))])
  | _, _ => none⟩

theorem vc_l9Pairs (xs : List Body) (Q : SV → List Ent → Prop) :
    fnVC tt (look [(160, fs_l7Contacts)]) (L_l9p) Tryz.f93 [.vec 0] [(false, .vec .body xs)] Q =
    (let w_ := IntKind.wrap IntKind.i64; let n_ := Int.toNat; bodiesOk xs = true ∧ Holds (xs = xs ∧ contactsF xs = contactsF xs ∧ (0 : Int) ≤ (0 : Int) ∧ (0 : Int) ≤ (↑(List.length (contactsF xs)) : Int) ∧ [] ++ pairsC xs (List.drop (n_ (0 : Int)) (contactsF xs)) = pairsC xs (contactsF xs)) ∧ ∀ (y1 : List Body × Unit × List Pair × List Contact × Int), let y1f0_ := Prod.fst y1; let y1s1_ := Prod.snd y1; let y1f2_ := Prod.fst (Prod.snd (Prod.snd y1)); let y1s3_ := Prod.snd (Prod.snd (Prod.snd y1)); let y1f3_ := Prod.fst (Prod.snd (Prod.snd (Prod.snd y1))); let y1s4_ := Prod.snd (Prod.snd (Prod.snd (Prod.snd y1))); let A3_ := (↑(List.length y1f3_) : Int); let A2_ := (Ty.ix Ty.contact y1f3_ (n_ y1s4_)); Holds (Prod.fst y1 = xs ∧ y1f3_ = contactsF xs ∧ (0 : Int) ≤ y1s4_ ∧ y1s4_ ≤ (↑(List.length (contactsF xs)) : Int) ∧ y1f2_ ++ pairsC xs (List.drop (n_ y1s4_) (contactsF xs)) = pairsC xs (contactsF xs)) → ifB (decide (Prod.snd y1s3_ < A3_)) (((0 : Int) ≤ y1s4_ ∧ y1s4_ < A3_) ∧ ((0 : Int) ≤ Contact.A A2_ ∧ Contact.A A2_ < (↑(List.length y1f0_) : Int)) ∧ ((0 : Int) ≤ y1s4_ ∧ y1s4_ < A3_) ∧ ((0 : Int) ≤ Contact.B A2_ ∧ Contact.B A2_ < (↑(List.length y1f0_) : Int)) ∧ (List.length y1f2_ + List.length [Pair.mk (Body.Id (Ty.ix Ty.body y1f0_ (n_ (Contact.A A2_)))) (Body.Id (Ty.ix Ty.body y1f0_ (n_ (Contact.B A2_))))]) * (16 : Nat) ≤ room ∧ Holds (Prod.fst y1 = xs ∧ y1f3_ = contactsF xs ∧ (0 : Int) ≤ w_ (Prod.snd y1s3_ + (1 : Int)) ∧ w_ (Prod.snd y1s3_ + (1 : Int)) ≤ (↑(List.length (contactsF xs)) : Int) ∧ y1f2_ ++ [Pair.mk (Body.Id (Ty.ix Ty.body y1f0_ (n_ (Contact.A A2_)))) (Body.Id (Ty.ix Ty.body y1f0_ (n_ (Contact.B A2_))))] ++ pairsC xs (List.drop (n_ (w_ (Prod.snd y1s3_ + (1 : Int)))) (contactsF xs)) = pairsC xs (contactsF xs)) ∧ n_ (A3_ - w_ (Prod.snd y1s3_ + (1 : Int))) < n_ (A3_ - y1s4_)) (Q (SV.vec (1 : Nat)) [(false, Blk.vec Ty.body y1f0_), (true, Blk.vec Ty.pair y1f2_)])) := by kernel_rfl

theorem ok_l9Pairs : FsOk Tryz.prog 93 fs_l9Pairs := fsOk_of tt_ok (tabFs_cons ok_l7Contacts tabFs_nil) mixed Tryz.func93 (by kernel_rfl) (by kernel_rfl) (by
    intro args LL p r HH h hp
    unfold fs_l9Pairs at h
    dsimp only at h
    split at h
    case h_2 => cases h
    rename_i xs
    simp only [Option.some.injEq, Prod.mk.injEq] at h
    obtain ⟨rfl, rfl, rfl⟩ := h
    refine ⟨by simp [Form, stays], (L_l9p), ?_⟩
    rw [vc_l9Pairs]
    try dsimp only
    have hok := hp _ rfl
    have hl := bodiesOk_len hok
    have hq := length_contactsF hl
    refine ⟨hok, ⟨(by trivial), (by trivial), by omega, by omega, (by trivial)⟩, ?_⟩
    rintro ⟨xs', u, out, cs, i⟩ ⟨h⟩
    dsimp only at h ⊢
    obtain ⟨rfl, rfl, i0, i1, i2⟩ := h
    have hs2 := congrArg List.length i2
    rw [List.length_append, length_pairsC, length_pairsC, List.length_drop] at hs2
    refine ifB_of (fun c3 => ?_) (fun c3 => ?_)
    · have c3 := of_decide_eq_true c3
      have e1 : (i + 1).toNat = i.toNat + 1 := by omega
      have w : IntKind.i64.wrap (i + 1) = i + 1 := wrap_small (by omega) (by omega)
      have hi : i.toNat < (contactsF xs').length := by omega
      rw [pairsC_drop hi] at i2
      rw [w, e1]
      have hc := contact_ok hi
      refine ⟨⟨i0, c3⟩, ⟨hc.1, hc.2.1⟩, ⟨i0, c3⟩, ⟨hc.2.2.1, hc.2.2.2.1⟩, by simp only [room, List.length_singleton]; omega, ⟨(by trivial), (by trivial), by omega, by omega, ?_⟩, by omega⟩
      rw [← i2, List.append_assoc]
      rfl
    · have c3 := of_decide_eq_false c3
      rw [drop_end (by omega)] at i2
      rw [← i2]
      simp [pairsC])

noncomputable def fs_specStepPairs : Fs := ⟨[], fun args H => match args, H with
  | [.vec 0], [(false, .vec .body xs)] => some ((some (xs.length ≤ 1048576)), .vec 1, [(false, .vec .body xs), (true, .vec .pair (stepPairs xs))])
  | _, _ => none⟩

theorem vc_specStepPairs (xs : List Body) (Q : SV → List Ent → Prop) :
    fnVC tt (look [(37, fs_specBodiesOk), (93, fs_l9Pairs)]) L0 Tryz.f58 [.vec 0] [(false, .vec .body xs)] Q =
    (List.length xs ≤ (4611686018427387904 : Nat) ∧ ifB (!bodiesOk xs) (Q (SV.vec (1 : Nat)) [(false, Blk.vec Ty.body xs), (true, Blk.vec Ty.pair [])]) (bodiesOk xs = true ∧ Q (SV.vec (1 : Nat)) [(false, Blk.vec Ty.body xs), (true, Blk.vec Ty.pair (pairsC xs (contactsF xs)))])) := by kernel_rfl

theorem ok_specStepPairs : FsOk Tryz.prog 58 fs_specStepPairs := fsOk_of tt_ok (tabFs_cons ok_specBodiesOk (tabFs_cons ok_l9Pairs tabFs_nil)) mixed Tryz.func58 (by kernel_rfl) (by kernel_rfl) (by
    intro args LL p r HH h hp
    unfold fs_specStepPairs at h
    dsimp only at h
    split at h
    case h_2 => cases h
    rename_i xs
    simp only [Option.some.injEq, Prod.mk.injEq] at h
    obtain ⟨rfl, rfl, rfl⟩ := h
    refine ⟨by simp [Form, stays], L0, ?_⟩
    rw [vc_specStepPairs]
    try dsimp only
    have hb := hp _ rfl
    refine ⟨by omega, ifB_of (fun c => ?_) (fun c => ?_)⟩
    · simp [stepPairs, contactsOf, pairsC, not_true c]
    · simp only [stepPairs, contactsOf, not_false c, cond_true]
      exact ⟨(by trivial), (by trivial), (by trivial)⟩)

def LSi9p  : LS where
  S := List Body × Unit × List Pair × List Contact × Int × Int
  live := [(0, [none]), (3, [some .pair]), (7, [some .contact]), (8, [none]), (9, [none])]
  shape := fun s => ([.vec 0, .vec 1, .vec 2, .int .i64 s.2.2.2.2.1, .int .i64 s.2.2.2.2.2], [(false, .vec .body s.1), (true, .vec .pair s.2.2.1), (true, .vec .contact s.2.2.2.1)])
  get := fun v h => match v, h with
    | [.vec 0, .vec 1, .vec 2, .int .i64 n, .int .i64 i], [(false, .vec .body xs), (true, .vec .pair out), (true, .vec .contact cs)] => some (xs, (), out, cs, n, i)
    | _, _ => none
  inv := fun s0 s => Holds (s.1 = s0.1 ∧ s.2.2.2.1 = s0.2.2.2.1 ∧ s.2.2.2.2.1 = s0.2.2.2.1.length ∧ 0 ≤ s.2.2.2.2.2 ∧ s.2.2.2.2.2 ≤ s0.2.2.2.1.length ∧ s.2.2.1 ++ pairsC s0.1 (s0.2.2.2.1.drop s.2.2.2.2.2.toNat) = pairsC s0.1 s0.2.2.2.1)
  mu := fun s => ((s.2.2.2.1.length : Int) - s.2.2.2.2.2).toNat
  ok := by
    intro v h s hg
    try dsimp only at hg
    split at hg <;> cases hg
    rfl

def L_i9p : Loops := fun n => match n with
  | 3 => some LSi9p
  | _ => none
theorem contact_ok' {xs : List Body} {i : Nat} (h : i < (contactsOf xs).length) : 0 ≤ (Ty.ix .contact (contactsOf xs) i).A ∧ (Ty.ix .contact (contactsOf xs) i).A < xs.length ∧ 0 ≤ (Ty.ix .contact (contactsOf xs) i).B ∧ (Ty.ix .contact (contactsOf xs) i).B < xs.length ∧ (Ty.ix .contact (contactsOf xs) i).A < (Ty.ix .contact (contactsOf xs) i).B := by
  unfold contactsOf at h ⊢
  cases q : bodiesOk xs with
  | true => rw [q] at h; exact contact_ok h
  | false => rw [q] at h; simp at h
noncomputable def fs_implStepPairs : Fs := ⟨[], fun args H => match args, H with
  | [.vec 0], [(false, .vec .body xs)] => some ((some (xs.length ≤ 1048576)), .vec 1, [(false, .vec .body xs), (true, .vec .pair (stepPairs xs))])
  | _, _ => none⟩

theorem vc_implStepPairs (xs : List Body) (Q : SV → List Ent → Prop) :
    fnVC tt (look [(61, fs_implContacts)]) (L_i9p) Tryz.f56 [.vec 0] [(false, .vec .body xs)] Q =
    (let w_ := IntKind.wrap IntKind.i64; let n_ := Int.toNat; List.length xs ≤ (1048576 : Nat) ∧ Holds (xs = xs ∧ contactsOf xs = contactsOf xs ∧ (↑(List.length (contactsOf xs)) : Int) = (↑(List.length (contactsOf xs)) : Int) ∧ (0 : Int) ≤ (0 : Int) ∧ (0 : Int) ≤ (↑(List.length (contactsOf xs)) : Int) ∧ [] ++ pairsC xs (List.drop (n_ (0 : Int)) (contactsOf xs)) = pairsC xs (contactsOf xs)) ∧ ∀ (y1 : List Body × Unit × List Pair × List Contact × Int × Int), let y1f0_ := Prod.fst y1; let y1s1_ := Prod.snd y1; let y1f2_ := Prod.fst (Prod.snd (Prod.snd y1)); let y1f3_ := Prod.fst (Prod.snd (Prod.snd (Prod.snd y1))); let y1s4_ := Prod.snd (Prod.snd (Prod.snd (Prod.snd y1))); let y1f4_ := Prod.fst (Prod.snd (Prod.snd (Prod.snd (Prod.snd y1)))); let y1s5_ := Prod.snd (Prod.snd (Prod.snd (Prod.snd (Prod.snd y1)))); let A3_ := (↑(List.length (contactsOf xs)) : Int); let A2_ := (Ty.ix Ty.contact y1f3_ (n_ y1s5_)); Holds (Prod.fst y1 = xs ∧ y1f3_ = contactsOf xs ∧ y1f4_ = A3_ ∧ (0 : Int) ≤ y1s5_ ∧ y1s5_ ≤ A3_ ∧ y1f2_ ++ pairsC xs (List.drop (n_ y1s5_) (contactsOf xs)) = pairsC xs (contactsOf xs)) → ifB (decide (Prod.snd y1s4_ < y1f4_)) (((0 : Int) ≤ y1s5_ ∧ y1s5_ < (↑(List.length y1f3_) : Int)) ∧ ((0 : Int) ≤ Contact.A A2_ ∧ Contact.A A2_ < (↑(List.length y1f0_) : Int)) ∧ ((0 : Int) ≤ Contact.B A2_ ∧ Contact.B A2_ < (↑(List.length y1f0_) : Int)) ∧ (List.length y1f2_ + List.length [Pair.mk (Body.Id (Ty.ix Ty.body y1f0_ (n_ (Contact.A A2_)))) (Body.Id (Ty.ix Ty.body y1f0_ (n_ (Contact.B A2_))))]) * (16 : Nat) ≤ room ∧ Holds (Prod.fst y1 = xs ∧ y1f3_ = contactsOf xs ∧ y1f4_ = A3_ ∧ (0 : Int) ≤ w_ (Prod.snd y1s4_ + (1 : Int)) ∧ w_ (Prod.snd y1s4_ + (1 : Int)) ≤ A3_ ∧ y1f2_ ++ [Pair.mk (Body.Id (Ty.ix Ty.body y1f0_ (n_ (Contact.A A2_)))) (Body.Id (Ty.ix Ty.body y1f0_ (n_ (Contact.B A2_))))] ++ pairsC xs (List.drop (n_ (w_ (Prod.snd y1s4_ + (1 : Int)))) (contactsOf xs)) = pairsC xs (contactsOf xs)) ∧ n_ ((↑(List.length y1f3_) : Int) - w_ (Prod.snd y1s4_ + (1 : Int))) < n_ ((↑(List.length y1f3_) : Int) - y1s5_)) (Q (SV.vec (1 : Nat)) [(false, Blk.vec Ty.body y1f0_), (true, Blk.vec Ty.pair y1f2_)])) := by kernel_rfl

theorem ok_implStepPairs : FsOk Tryz.prog 56 fs_implStepPairs := fsOk_of tt_ok (tabFs_cons ok_implContacts tabFs_nil) mixed Tryz.func56 (by kernel_rfl) (by kernel_rfl) (by
    intro args LL p r HH h hp
    unfold fs_implStepPairs at h
    dsimp only at h
    split at h
    case h_2 => cases h
    rename_i xs
    simp only [Option.some.injEq, Prod.mk.injEq] at h
    obtain ⟨rfl, rfl, rfl⟩ := h
    refine ⟨by simp [Form, stays], (L_i9p), ?_⟩
    rw [vc_implStepPairs]
    try dsimp only
    have hb := hp _ rfl
    have hq := length_contactsOf xs
    refine ⟨hb, ⟨(by trivial), (by trivial), (by trivial), by omega, by omega, (by trivial)⟩, ?_⟩
    rintro ⟨xs', u, out, cs, n, i⟩ ⟨h⟩
    dsimp only at h ⊢
    obtain ⟨rfl, rfl, rfl, i0, i1, i2⟩ := h
    have hs2 := congrArg List.length i2
    rw [List.length_append, length_pairsC, length_pairsC, List.length_drop] at hs2
    refine ifB_of (fun c3 => ?_) (fun c3 => ?_)
    · have c3 := of_decide_eq_true c3
      have e1 : (i + 1).toNat = i.toNat + 1 := by omega
      have w : IntKind.i64.wrap (i + 1) = i + 1 := wrap_small (by omega) (by omega)
      have hi : i.toNat < (contactsOf xs').length := by omega
      rw [pairsC_drop hi] at i2
      rw [w, e1]
      have hc := contact_ok' hi
      refine ⟨⟨i0, c3⟩, ⟨hc.1, hc.2.1⟩, ⟨hc.2.2.1, hc.2.2.2.1⟩, by simp only [room, List.length_singleton]; omega, ⟨(by trivial), (by trivial), (by trivial), by omega, by omega, ?_⟩, by omega⟩
      rw [← i2, List.append_assoc]
      rfl
    · have c3 := of_decide_eq_false c3
      rw [drop_end (by omega)] at i2
      unfold stepPairs
      rw [← i2]
      simp [pairsC])

theorem length_stepPairs (xs : List Body) : (stepPairs xs).length ≤ 144 := by
  unfold stepPairs
  rw [length_pairsC]
  exact length_contactsOf xs
end Go.Proofs.YtdhbkcaaijgocaaGreat.Sym

namespace Go.Proofs.YtdhbkcaaijgocaaGreat.Sym
open Go
set_option linter.unusedVariables false
set_option linter.unusedSimpArgs false
set_option maxRecDepth 100000

theorem filter_drop {T : Ty} (p : T.El → Bool) {xs : List T.El} {i : Nat} (h : i < xs.length) : (xs.drop i).filter p = (bif p (T.ix xs i) then [T.ix xs i] else []) ++ (xs.drop (i + 1)).filter p := by
  rw [drop_ix (T := T) h]
  cases q : p (T.ix xs i) <;> simp [List.filter, q]
def eqP (a b : Pair) : Bool := a.A == b.A && a.B == b.B
theorem eqP_iff {a b : Pair} : eqP a b = true ↔ a = b := by
  obtain ⟨a1, a2⟩ := a
  obtain ⟨b1, b2⟩ := b
  simp [eqP]
def hasP (ps : List Pair) (p : Pair) : Bool := ps.any fun q => eqP q p
theorem hasP_true {ps : List Pair} {p : Pair} : hasP ps p = true ↔ p ∈ ps := by
  simp only [hasP, List.any_eq_true, eqP_iff]
  exact ⟨fun ⟨x, h, e⟩ => e ▸ h, fun h => ⟨p, h, rfl⟩⟩
theorem hasP_false {ps : List Pair} {p : Pair} (h : ∀ e, e < ps.length → eqP (Ty.ix .pair ps e) p = false) : hasP ps p = false := by
  cases q : hasP ps p with
  | false => rfl
  | true =>
    have hm := hasP_true.1 q
    obtain ⟨i, hi, e⟩ := List.mem_iff_getElem.1 hm
    have := h i hi
    rw [ix_eq (T := .pair) (List.getElem?_eq_getElem hi), e, eqP_iff.2 rfl] at this
    cases this
theorem hasP_at {ps : List Pair} {p : Pair} {i : Nat} (hi : i < ps.length) (h : eqP (Ty.ix .pair ps i) p = true) : hasP ps p = true := by
  refine hasP_true.2 ?_
  rw [← eqP_iff.1 h]
  exact List.mem_of_getElem? (ix_get (T := .pair) hi)
def newF (was now : List Pair) : List Pair := now.filter fun p => !hasP was p
theorem newF_drop {was now : List Pair} {i : Nat} (h : i < now.length) : newF was (now.drop i) = (bif !hasP was (Ty.ix .pair now i) then [Ty.ix .pair now i] else []) ++ newF was (now.drop (i + 1)) := filter_drop (T := .pair) _ h
theorem length_newF (was now : List Pair) : (newF was now).length ≤ now.length := List.length_filter_le _ _
def LSl4In  : LS where
  S := List Pair × Unit × Pair × Int
  live := [(0, [none]), (3, [none]), (5, [none])]
  shape := fun s => ([.vec 0, .ptr 1 0 0, .int .i64 s.2.2.2], [(false, .vec .pair s.1), (true, .box [.int .i64 s.2.2.1.A, .int .i64 s.2.2.1.B])])
  get := fun v h => match v, h with
    | [.vec 0, .ptr 1 0 0, .int .i64 i], [(false, .vec .pair ps), (true, .box [.int .i64 pA, .int .i64 pB])] => some (ps, (), (Pair.mk pA pB), i)
    | _, _ => none
  inv := fun s0 s => Holds (s.1 = s0.1 ∧ s.2.2.1 = s0.2.2.1 ∧ 0 ≤ s.2.2.2 ∧ s.2.2.2 ≤ s0.1.length ∧ (∀ e, e < s.2.2.2.toNat → eqP (Ty.ix .pair s0.1 e) s0.2.2.1 = false))
  mu := fun s => ((s.1.length : Int) - s.2.2.2).toNat
  ok := by
    intro v h s hg
    try dsimp only at hg
    split at hg <;> cases hg
    rfl

def L_l4In : Loops := fun n => match n with
  | 2 => some LSl4In
  | _ => none
noncomputable def fs_l4In : Fs := ⟨[], fun args H => match args, H with
  | [.vec 0, .agg [.int .i64 pA, .int .i64 pB]], [(false, .vec .pair ps)] => some ((some (ps.length ≤ 1048576)), .bool (hasP ps (Pair.mk pA pB)), [(false, .vec .pair ps)])
  | _, _ => none⟩

theorem vc_l4In (ps : List Pair) (pA : Int) (pB : Int) (Q : SV → List Ent → Prop) :
    fnVC tt (look []) (L_l4In) Tryz.f177 [.vec 0, .agg [.int .i64 pA, .int .i64 pB]] [(false, .vec .pair ps)] Q =
    (Holds (ps = ps ∧ Pair.mk pA pB = Pair.mk pA pB ∧ (0 : Int) ≤ (0 : Int) ∧ (0 : Int) ≤ (↑(List.length ps) : Int) ∧ ∀ (e : Nat), e < Int.toNat (0 : Int) → eqP (Ty.ix Ty.pair ps e) (Pair.mk pA pB) = false) ∧ ∀ (x : List Pair × Unit × Pair × Int), Holds (Prod.fst x = ps ∧ Prod.fst (Prod.snd (Prod.snd x)) = Pair.mk pA pB ∧ (0 : Int) ≤ Prod.snd (Prod.snd (Prod.snd x)) ∧ Prod.snd (Prod.snd (Prod.snd x)) ≤ (↑(List.length ps) : Int) ∧ ∀ (e : Nat), e < Int.toNat (Prod.snd (Prod.snd (Prod.snd x))) → eqP (Ty.ix Ty.pair ps e) (Pair.mk pA pB) = false) → ifB (decide (Prod.snd (Prod.snd (Prod.snd x)) < (↑(List.length (Prod.fst x)) : Int))) (((0 : Int) ≤ Prod.snd (Prod.snd (Prod.snd x)) ∧ Prod.snd (Prod.snd (Prod.snd x)) < (↑(List.length (Prod.fst x)) : Int)) ∧ ifB (Pair.A (Ty.ix Ty.pair (Prod.fst x) (Int.toNat (Prod.snd (Prod.snd (Prod.snd x))))) == Pair.A (Prod.fst (Prod.snd (Prod.snd x))) && Pair.B (Ty.ix Ty.pair (Prod.fst x) (Int.toNat (Prod.snd (Prod.snd (Prod.snd x))))) == Pair.B (Prod.fst (Prod.snd (Prod.snd x)))) (Q (SV.bool true) [(false, Blk.vec Ty.pair (Prod.fst x))]) (Holds (Prod.fst x = ps ∧ Prod.fst (Prod.snd (Prod.snd x)) = Pair.mk pA pB ∧ (0 : Int) ≤ IntKind.wrap IntKind.i64 (Prod.snd (Prod.snd (Prod.snd x)) + (1 : Int)) ∧ IntKind.wrap IntKind.i64 (Prod.snd (Prod.snd (Prod.snd x)) + (1 : Int)) ≤ (↑(List.length ps) : Int) ∧ ∀ (e : Nat), e < Int.toNat (IntKind.wrap IntKind.i64 (Prod.snd (Prod.snd (Prod.snd x)) + (1 : Int))) → eqP (Ty.ix Ty.pair ps e) (Pair.mk pA pB) = false) ∧ Int.toNat ((↑(List.length (Prod.fst x)) : Int) - IntKind.wrap IntKind.i64 (Prod.snd (Prod.snd (Prod.snd x)) + (1 : Int))) < Int.toNat ((↑(List.length (Prod.fst x)) : Int) - Prod.snd (Prod.snd (Prod.snd x))))) (Q (SV.bool false) [(false, Blk.vec Ty.pair (Prod.fst x))])) := by kernel_rfl

theorem ok_l4In : FsOk Tryz.prog 177 fs_l4In := fsOk_of tt_ok tabFs_nil mixed Tryz.func177 (by kernel_rfl) (by kernel_rfl) (by
    intro args LL p r HH h hp
    unfold fs_l4In at h
    dsimp only at h
    split at h
    case h_2 => cases h
    rename_i pA pB ps
    simp only [Option.some.injEq, Prod.mk.injEq] at h
    obtain ⟨rfl, rfl, rfl⟩ := h
    refine ⟨by simp [Form, stays], (L_l4In), ?_⟩
    rw [vc_l4In]
    try dsimp only
    have hb := hp _ rfl
    refine ⟨⟨(by trivial), (by trivial), by omega, by omega, fun e he => absurd he (by simp)⟩, ?_⟩
    rintro ⟨ps', u, p', i⟩ ⟨h⟩
    dsimp only at h ⊢
    obtain ⟨rfl, rfl, i0, i1, i2⟩ := h
    refine ifB_of (fun c => ?_) (fun c => ?_)
    · have c := of_decide_eq_true c
      refine ⟨⟨i0, c⟩, ifB_of (fun c2 => ?_) (fun c2 => ?_)⟩
      · exact ⟨by rw [hasP_at (by omega) c2], (by trivial)⟩
      · have w : IntKind.i64.wrap (i + 1) = i + 1 := wrap_small (by omega) (by omega)
        rw [w]
        refine ⟨⟨(by trivial), (by trivial), by omega, by omega, fun e he => ?_⟩, by omega⟩
        by_cases q : e = i.toNat
        · rw [q]; exact c2
        · exact i2 e (by omega)
    · have c := of_decide_eq_false c
      exact ⟨by rw [hasP_false fun e he => i2 e (by omega)], (by trivial)⟩)

end Go.Proofs.YtdhbkcaaijgocaaGreat.Sym

namespace Go.Proofs.YtdhbkcaaijgocaaGreat.Sym
open Go
set_option linter.unusedVariables false
set_option linter.unusedSimpArgs false
set_option maxRecDepth 100000

def atB (xs : List Body) (id : Int) : Nat := pref (fun y => decide (y.Id < id)) xs
def hasB (xs : List Body) (id : Int) : Bool := decide (atB xs id < xs.length) && (Ty.ix .body xs (atB xs id)).Id == id
theorem atB_le (xs : List Body) (id : Int) : atB xs id ≤ xs.length := (pref_spec (T := .body) xs).1
def LSl10At  : LS where
  S := List Body × Unit × Int × Int
  live := [(0, [none]), (1, [none]), (6, [none])]
  shape := fun s => ([.vec 0, .int .i64 s.2.2.1, .int .i64 s.2.2.2], [(false, .vec .body s.1)])
  get := fun v h => match v, h with
    | [.vec 0, .int .i64 id, .int .i64 k], [(false, .vec .body xs)] => some (xs, (), id, k)
    | _, _ => none
  inv := fun s0 s => Holds (s.1 = s0.1 ∧ s.2.2.1 = s0.2.2.1 ∧ 0 ≤ s.2.2.2 ∧ s.2.2.2 ≤ s0.1.length ∧ (∀ e, e < s.2.2.2.toNat → decide ((Ty.ix .body s0.1 e).Id < s0.2.2.1) = true))
  mu := fun s => ((s.1.length : Int) - s.2.2.2).toNat
  ok := by
    intro v h s hg
    try dsimp only at hg
    split at hg <;> cases hg
    rfl

def L_l10At : Loops := fun n => match n with
  | 2 => some LSl10At
  | _ => none
noncomputable def fs_l10At : Fs := ⟨[], fun args H => match args, H with
  | [.vec 0, .int .i64 id], [(false, .vec .body xs)] => some ((some (xs.length ≤ 4611686018427387904)), .tup [.int .i64 (atB xs id), .bool (hasB xs id)], [(false, .vec .body xs)])
  | _, _ => none⟩

theorem vc_l10At (id : Int) (xs : List Body) (Q : SV → List Ent → Prop) :
    fnVC tt (look []) (L_l10At) Tryz.f123 [.vec 0, .int .i64 id] [(false, .vec .body xs)] Q =
    (Holds (xs = xs ∧ id = id ∧ (0 : Int) ≤ (0 : Int) ∧ (0 : Int) ≤ (↑(List.length xs) : Int) ∧ ∀ (e : Nat), e < Int.toNat (0 : Int) → decide (Body.Id (Ty.ix Ty.body xs e) < id) = true) ∧ ∀ (x : List Body × Unit × Int × Int), Holds (Prod.fst x = xs ∧ Prod.fst (Prod.snd (Prod.snd x)) = id ∧ (0 : Int) ≤ Prod.snd (Prod.snd (Prod.snd x)) ∧ Prod.snd (Prod.snd (Prod.snd x)) ≤ (↑(List.length xs) : Int) ∧ ∀ (e : Nat), e < Int.toNat (Prod.snd (Prod.snd (Prod.snd x))) → decide (Body.Id (Ty.ix Ty.body xs e) < id) = true) → ifB (decide (Prod.snd (Prod.snd (Prod.snd x)) < (↑(List.length (Prod.fst x)) : Int))) (((0 : Int) ≤ Prod.snd (Prod.snd (Prod.snd x)) ∧ Prod.snd (Prod.snd (Prod.snd x)) < (↑(List.length (Prod.fst x)) : Int)) ∧ ifB (decide (Body.Id (Ty.ix Ty.body (Prod.fst x) (Int.toNat (Prod.snd (Prod.snd (Prod.snd x))))) < Prod.fst (Prod.snd (Prod.snd x)))) (Holds (Prod.fst x = xs ∧ Prod.fst (Prod.snd (Prod.snd x)) = id ∧ (0 : Int) ≤ IntKind.wrap IntKind.i64 (Prod.snd (Prod.snd (Prod.snd x)) + (1 : Int)) ∧ IntKind.wrap IntKind.i64 (Prod.snd (Prod.snd (Prod.snd x)) + (1 : Int)) ≤ (↑(List.length xs) : Int) ∧ ∀ (e : Nat), e < Int.toNat (IntKind.wrap IntKind.i64 (Prod.snd (Prod.snd (Prod.snd x)) + (1 : Int))) → decide (Body.Id (Ty.ix Ty.body xs e) < id) = true) ∧ Int.toNat ((↑(List.length (Prod.fst x)) : Int) - IntKind.wrap IntKind.i64 (Prod.snd (Prod.snd (Prod.snd x)) + (1 : Int))) < Int.toNat ((↑(List.length (Prod.fst x)) : Int) - Prod.snd (Prod.snd (Prod.snd x)))) (ifB (decide (Prod.snd (Prod.snd (Prod.snd x)) < (↑(List.length (Prod.fst x)) : Int))) (((0 : Int) ≤ Prod.snd (Prod.snd (Prod.snd x)) ∧ Prod.snd (Prod.snd (Prod.snd x)) < (↑(List.length (Prod.fst x)) : Int)) ∧ Q (SV.tup [SV.int IntKind.i64 (Prod.snd (Prod.snd (Prod.snd x))), SV.bool (Body.Id (Ty.ix Ty.body (Prod.fst x) (Int.toNat (Prod.snd (Prod.snd (Prod.snd x))))) == Prod.fst (Prod.snd (Prod.snd x)))]) [(false, Blk.vec Ty.body (Prod.fst x))]) (Q (SV.tup [SV.int IntKind.i64 (Prod.snd (Prod.snd (Prod.snd x))), SV.bool false]) [(false, Blk.vec Ty.body (Prod.fst x))]))) (ifB (decide (Prod.snd (Prod.snd (Prod.snd x)) < (↑(List.length (Prod.fst x)) : Int))) (((0 : Int) ≤ Prod.snd (Prod.snd (Prod.snd x)) ∧ Prod.snd (Prod.snd (Prod.snd x)) < (↑(List.length (Prod.fst x)) : Int)) ∧ Q (SV.tup [SV.int IntKind.i64 (Prod.snd (Prod.snd (Prod.snd x))), SV.bool (Body.Id (Ty.ix Ty.body (Prod.fst x) (Int.toNat (Prod.snd (Prod.snd (Prod.snd x))))) == Prod.fst (Prod.snd (Prod.snd x)))]) [(false, Blk.vec Ty.body (Prod.fst x))]) (Q (SV.tup [SV.int IntKind.i64 (Prod.snd (Prod.snd (Prod.snd x))), SV.bool false]) [(false, Blk.vec Ty.body (Prod.fst x))]))) := by kernel_rfl

theorem ok_l10At : FsOk Tryz.prog 123 fs_l10At := fsOk_of tt_ok tabFs_nil mixed Tryz.func123 (by kernel_rfl) (by kernel_rfl) (by
    intro args LL p r HH h hp
    unfold fs_l10At at h
    dsimp only at h
    split at h
    case h_2 => cases h
    rename_i id xs
    simp only [Option.some.injEq, Prod.mk.injEq] at h
    obtain ⟨rfl, rfl, rfl⟩ := h
    refine ⟨by simp [Form, stays], (L_l10At), ?_⟩
    rw [vc_l10At]
    try dsimp only
    have hb := hp _ rfl
    refine ⟨⟨(by trivial), (by trivial), by omega, by omega, fun e he => absurd he (by simp)⟩, ?_⟩
    rintro ⟨xs', u, id', k⟩ ⟨h⟩
    dsimp only at h ⊢
    obtain ⟨rfl, rfl, h0, h1, h2⟩ := h
    have fin : (k.toNat < xs'.length → decide ((Ty.ix .body xs' k.toNat).Id < id') = false) → atB xs' id' = k.toNat := fun h => pref_eq (T := .body) (by omega) h2 h
    refine ifB_of (fun c => ?_) (fun c => ?_)
    · have hi := of_decide_eq_true c
      refine ⟨⟨h0, hi⟩, ifB_of (fun c2 => ?_) (fun c2 => ?_)⟩
      · have e1 : (k + 1).toNat = k.toNat + 1 := by omega
        simp (disch := omega) only [wrap_small, e1]
        refine ⟨⟨(by trivial), (by trivial), by omega, by omega, fun e he => ?_⟩, by omega⟩
        by_cases q : e = k.toNat
        · rw [q]; exact c2
        · exact h2 e (by omega)
      · have hk := fin fun _ => c2
        refine ifB_of (fun _ => ⟨⟨h0, hi⟩, ?_⟩) (fun c3 => ?_)
        · unfold hasB
          rw [hk]
          have : ((k.toNat : Nat) : Int) = k := by omega
          simp [this, show k.toNat < xs'.length by omega]
        · have := of_decide_eq_false c3
          omega
    · have hi := of_decide_eq_false c
      have hk := fin fun h => by omega
      refine ifB_of (fun c3 => ?_) (fun c3 => ?_)
      · have := of_decide_eq_true c3
        omega
      · unfold hasB
        rw [hk]
        have : ((k.toNat : Nat) : Int) = k := by omega
        simp [this, show ¬ k.toNat < xs'.length by omega])

noncomputable def fs_notAhead : Fs := ⟨[], fun args H => match args, H with
  | [.agg [.int .i64 aI, .int .i64 aK, .int .i64 aW, .int .i64 aH, .int .i64 aX, .int .i64 aY, .int .i64 aU, .int .i64 aV, .int .i64 aM, .int .i64 aB, .int .i64 aR, .int .i64 aQ], .ptr 0 0 0], [(true, .box [.int .i64 id])] => some (none, .bool (decide (aI ≥ id)), [(true, .box [.int .i64 id])])
  | _, _ => none⟩

theorem vc_notAhead (aI : Int) (aK : Int) (aW : Int) (aH : Int) (aX : Int) (aY : Int) (aU : Int) (aV : Int) (aM : Int) (aB : Int) (aR : Int) (aQ : Int) (id : Int) (Q : SV → List Ent → Prop) :
    fnVC tt (look []) L0 Tryz.f210 [.agg [.int .i64 aI, .int .i64 aK, .int .i64 aW, .int .i64 aH, .int .i64 aX, .int .i64 aY, .int .i64 aU, .int .i64 aV, .int .i64 aM, .int .i64 aB, .int .i64 aR, .int .i64 aQ], .ptr 0 0 0] [(true, .box [.int .i64 id])] Q =
    (Q (SV.bool (decide (aI ≥ id))) [(true, Blk.box [SV.int IntKind.i64 id])]) := by kernel_rfl

theorem ok_notAhead : FsOk Tryz.prog 210 fs_notAhead := fsOk_of tt_ok tabFs_nil mixed Tryz.func210 (by kernel_rfl) (by kernel_rfl) (by
    intro args LL p r HH h hp
    unfold fs_notAhead at h
    dsimp only at h
    split at h
    case h_2 => cases h
    rename_i aI aK aW aH aX aY aU aV aM aB aR aQ id
    simp only [Option.some.injEq, Prod.mk.injEq] at h
    obtain ⟨rfl, rfl, rfl⟩ := h
    refine ⟨by simp [Form, stays], L0, ?_⟩
    rw [vc_notAhead]
    try dsimp only
    exact ⟨rfl, rfl⟩)

def LSidxPlace  : LS where
  S := List Body × Int × Unit × Unit × Int × Int
  live := [(0, [none]), (1, [none]), (7, [none]), (8, [none])]
  shape := fun s => ([.vec 0, .fn 210 (some 1), .int .i64 s.2.2.2.2.1, .int .i64 s.2.2.2.2.2], [(false, .vec .body s.1), (true, .box [.int .i64 s.2.1])])
  get := fun v h => match v, h with
    | [.vec 0, .fn 210 (some 1), .int .i64 n, .int .i64 i], [(false, .vec .body xs), (true, .box [.int .i64 id])] => some (xs, id, (), (), n, i)
    | _, _ => none
  inv := fun s0 s => Holds (s.1 = s0.1 ∧ s.2.1 = s0.2.1 ∧ s.2.2.2.2.1 = s0.1.length ∧ 0 ≤ s.2.2.2.2.2 ∧ s.2.2.2.2.2 ≤ s0.1.length ∧ (∀ k, k < s.2.2.2.2.2.toNat → decide ((Ty.ix .body s0.1 k).Id ≥ s0.2.1) = false))
  mu := fun s => ((s.1.length : Int) - s.2.2.2.2.2).toNat
  ok := by
    intro v h s hg
    try dsimp only at hg
    split at hg <;> cases hg
    rfl

def L_idxPlace : Loops := fun n => match n with
  | 2 => some LSidxPlace
  | _ => none
noncomputable def fs_idxPlace : Fs := ⟨[], fun args H => match args, H with
  | [.vec 0, .fn 210 (some 1)], [(false, .vec .body xs), (true, .box [.int .i64 id])] => some ((some (xs.length ≤ 4611686018427387904)), .int .i64 (firstI (fun y : Body => decide (y.Id ≥ id)) xs), [(false, .vec .body xs), (true, .box [.int .i64 id])])
  | _, _ => none⟩

theorem vc_idxPlace (xs : List Body) (id : Int) (Q : SV → List Ent → Prop) :
    fnVC tt (look [(210, fs_notAhead)]) (L_idxPlace) Tryz.f209 [.vec 0, .fn 210 (some 1)] [(false, .vec .body xs), (true, .box [.int .i64 id])] Q =
    (Holds (xs = xs ∧ id = id ∧ (↑(List.length xs) : Int) = (↑(List.length xs) : Int) ∧ (0 : Int) ≤ (0 : Int) ∧ (0 : Int) ≤ (↑(List.length xs) : Int) ∧ ∀ (k : Nat), k < Int.toNat (0 : Int) → decide (Body.Id (Ty.ix Ty.body xs k) ≥ id) = false) ∧ ∀ (x : List Body × Int × Unit × Unit × Int × Int), Holds (Prod.fst x = xs ∧ Prod.fst (Prod.snd x) = id ∧ Prod.fst (Prod.snd (Prod.snd (Prod.snd (Prod.snd x)))) = (↑(List.length xs) : Int) ∧ (0 : Int) ≤ Prod.snd (Prod.snd (Prod.snd (Prod.snd (Prod.snd x)))) ∧ Prod.snd (Prod.snd (Prod.snd (Prod.snd (Prod.snd x)))) ≤ (↑(List.length xs) : Int) ∧ ∀ (k : Nat), k < Int.toNat (Prod.snd (Prod.snd (Prod.snd (Prod.snd (Prod.snd x))))) → decide (Body.Id (Ty.ix Ty.body xs k) ≥ id) = false) → ifB (decide (Prod.snd (Prod.snd (Prod.snd (Prod.snd (Prod.snd x)))) < Prod.fst (Prod.snd (Prod.snd (Prod.snd (Prod.snd x)))))) (((0 : Int) ≤ Prod.snd (Prod.snd (Prod.snd (Prod.snd (Prod.snd x)))) ∧ Prod.snd (Prod.snd (Prod.snd (Prod.snd (Prod.snd x)))) < (↑(List.length (Prod.fst x)) : Int)) ∧ ifB (decide (Body.Id (Ty.ix Ty.body (Prod.fst x) (Int.toNat (Prod.snd (Prod.snd (Prod.snd (Prod.snd (Prod.snd x))))))) ≥ Prod.fst (Prod.snd x))) (Q (SV.int IntKind.i64 (Prod.snd (Prod.snd (Prod.snd (Prod.snd (Prod.snd x)))))) [(false, Blk.vec Ty.body (Prod.fst x)), (true, Blk.box [SV.int IntKind.i64 (Prod.fst (Prod.snd x))])]) (Holds (Prod.fst x = xs ∧ Prod.fst (Prod.snd x) = id ∧ Prod.fst (Prod.snd (Prod.snd (Prod.snd (Prod.snd x)))) = (↑(List.length xs) : Int) ∧ (0 : Int) ≤ IntKind.wrap IntKind.i64 (Prod.snd (Prod.snd (Prod.snd (Prod.snd (Prod.snd x)))) + (1 : Int)) ∧ IntKind.wrap IntKind.i64 (Prod.snd (Prod.snd (Prod.snd (Prod.snd (Prod.snd x)))) + (1 : Int)) ≤ (↑(List.length xs) : Int) ∧ ∀ (k : Nat), k < Int.toNat (IntKind.wrap IntKind.i64 (Prod.snd (Prod.snd (Prod.snd (Prod.snd (Prod.snd x)))) + (1 : Int))) → decide (Body.Id (Ty.ix Ty.body xs k) ≥ id) = false) ∧ Int.toNat ((↑(List.length (Prod.fst x)) : Int) - IntKind.wrap IntKind.i64 (Prod.snd (Prod.snd (Prod.snd (Prod.snd (Prod.snd x)))) + (1 : Int))) < Int.toNat ((↑(List.length (Prod.fst x)) : Int) - Prod.snd (Prod.snd (Prod.snd (Prod.snd (Prod.snd x))))))) (Q (SV.int IntKind.i64 (-1 : Int)) [(false, Blk.vec Ty.body (Prod.fst x)), (true, Blk.box [SV.int IntKind.i64 (Prod.fst (Prod.snd x))])])) := by kernel_rfl

theorem ok_idxPlace : FsOk Tryz.prog 209 fs_idxPlace := fsOk_of tt_ok (tabFs_cons ok_notAhead tabFs_nil) mixed Tryz.func209 (by kernel_rfl) (by kernel_rfl) (by
    intro args LL p r HH h hp
    unfold fs_idxPlace at h
    dsimp only at h
    split at h
    case h_2 => cases h
    rename_i xs id
    simp only [Option.some.injEq, Prod.mk.injEq] at h
    obtain ⟨rfl, rfl, rfl⟩ := h
    refine ⟨by simp [Form, stays], (L_idxPlace), ?_⟩
    rw [vc_idxPlace]
    try dsimp only
    have hb := hp _ rfl
    refine ⟨⟨(by trivial), (by trivial), (by trivial), by omega, by omega, fun k hk => absurd hk (by simp)⟩, ?_⟩
    rintro ⟨xs', id', u, f, n, i⟩ ⟨h⟩
    dsimp only at h ⊢
    obtain ⟨rfl, rfl, rfl, h0, h1, h3⟩ := h
    refine ifB_of (fun c => ?_) (fun c => ?_)
    · have hi : i < xs'.length := of_decide_eq_true c
      have e1 : (i + 1).toNat = i.toNat + 1 := by omega
      refine ⟨⟨h0, hi⟩, ifB_of (fun c1 => ?_) (fun c1 => ?_)⟩
      · rw [firstI_at (T := .body) (p := fun y : Body => decide (y.Id ≥ id')) (i := i.toNat) (by omega) c1 h3]
        refine ⟨?_, (by trivial)⟩
        congr 1
        omega
      · simp (disch := omega) only [wrap_small, e1]
        refine ⟨⟨(by trivial), (by trivial), (by trivial), by omega, by omega, fun k hk => ?_⟩, by omega⟩
        by_cases e : k = i.toNat
        · rw [e]; exact c1
        · exact h3 k (by omega)
    · have hi : ¬ i < xs'.length := of_decide_eq_false c
      rw [firstI_no (T := .body) (p := fun y : Body => decide (y.Id ≥ id')) fun k hk => h3 k (by omega)]
      exact ⟨rfl, rfl⟩)

theorem firstI_place (xs : List Body) (id : Int) : firstI (fun y : Body => decide (y.Id ≥ id)) xs = bif decide (atB xs id < xs.length) then (atB xs id : Int) else -1 := by
  obtain ⟨k1, k2, k3⟩ := pref_spec (T := .body) (p := fun y : Body => decide (y.Id < id)) xs
  change atB xs id ≤ xs.length at k1
  change ∀ e, e < atB xs id → decide ((Ty.ix .body xs e).Id < id) = true at k2
  change atB xs id < xs.length → decide ((Ty.ix .body xs (atB xs id)).Id < id) = false at k3
  cases hh : decide (atB xs id < xs.length) with
  | true =>
    have hlt := of_decide_eq_true hh
    have := of_decide_eq_false (k3 hlt)
    simp only [cond_true]
    refine firstI_at (T := .body) (p := fun y : Body => decide (y.Id ≥ id)) hlt (decide_eq_true (by omega)) fun e he => ?_
    have := of_decide_eq_true (k2 e he)
    exact decide_eq_false (by omega)
  | false =>
    have hlt := of_decide_eq_false hh
    simp only [cond_false]
    refine firstI_no (T := .body) (p := fun y : Body => decide (y.Id ≥ id)) fun e he => ?_
    have := of_decide_eq_true (k2 e (by omega))
    exact decide_eq_false (by omega)
noncomputable def fs_place : Fs := ⟨[], fun args H => match args, H with
  | [.vec 0, .int .i64 id], [(false, .vec .body xs)] => some ((some (xs.length ≤ 4611686018427387904)), .tup [.int .i64 (atB xs id), .bool (hasB xs id)], [(false, .vec .body xs)])
  | _, _ => none⟩

theorem vc_place (id : Int) (xs : List Body) (Q : SV → List Ent → Prop) :
    fnVC tt (look [(209, fs_idxPlace)]) L0 Tryz.f155 [.vec 0, .int .i64 id] [(false, .vec .body xs)] Q =
    (List.length xs ≤ (4611686018427387904 : Nat) ∧ ifB (decide (firstI (fun y => decide (Body.Id y ≥ id)) xs < (0 : Int))) (Q (SV.tup [SV.int IntKind.i64 (↑(List.length xs) : Int), SV.bool false]) [(false, Blk.vec Ty.body xs)]) (((0 : Int) ≤ firstI (fun y => decide (Body.Id y ≥ id)) xs ∧ firstI (fun y => decide (Body.Id y ≥ id)) xs < (↑(List.length xs) : Int)) ∧ Q (SV.tup [SV.int IntKind.i64 (firstI (fun y => decide (Body.Id y ≥ id)) xs), SV.bool (Body.Id (Ty.ix Ty.body xs (Int.toNat (firstI (fun y => decide (Body.Id y ≥ id)) xs))) == id)]) [(false, Blk.vec Ty.body xs)])) := by kernel_rfl

theorem ok_place : FsOk Tryz.prog 155 fs_place := fsOk_of tt_ok (tabFs_cons ok_idxPlace tabFs_nil) mixed Tryz.func155 (by kernel_rfl) (by kernel_rfl) (by
    intro args LL p r HH h hp
    unfold fs_place at h
    dsimp only at h
    split at h
    case h_2 => cases h
    rename_i id xs
    simp only [Option.some.injEq, Prod.mk.injEq] at h
    obtain ⟨rfl, rfl, rfl⟩ := h
    refine ⟨by simp [Form, stays], L0, ?_⟩
    rw [vc_place]
    try dsimp only
    have hb := hp _ rfl
    refine ⟨hb, ?_⟩
    rw [firstI_place]
    have hk := atB_le xs id
    unfold hasB
    cases hh : decide (atB xs id < xs.length) with
    | true =>
      have hlt := of_decide_eq_true hh
      simp only [cond_true]
      refine ifB_of (fun c => ?_) (fun c => ⟨by omega, ?_⟩)
      · have := of_decide_eq_true c
        omega
      · exact ⟨rfl, (by trivial)⟩
    | false =>
      have hlt := of_decide_eq_false hh
      simp only [cond_false]
      refine ifB_of (fun c => ?_) (fun c => ?_)
      · rw [show atB xs id = xs.length by omega]
        exact ⟨rfl, (by trivial)⟩
      · simp at c)


def ahead (a b : Pair) : Bool := decide (a.A < b.A) || a.A == b.A && decide (a.B < b.B)
noncomputable def fs_l10Ahead : Fs := ⟨[], fun args H => match args, H with
  | [.agg [.int .i64 aA, .int .i64 aB], .agg [.int .i64 bA, .int .i64 bB]], [] => some (none, .bool (ahead (Pair.mk aA aB) (Pair.mk bA bB)), [])
  | _, _ => none⟩

theorem vc_l10Ahead (aA : Int) (aB : Int) (bA : Int) (bB : Int) (Q : SV → List Ent → Prop) :
    fnVC tt (look []) L0 Tryz.f124 [.agg [.int .i64 aA, .int .i64 aB], .agg [.int .i64 bA, .int .i64 bB]] [] Q =
    (ifB (decide (aA < bA)) (Q (SV.bool true) []) (ifB (aA == bA) (Q (SV.bool (decide (aB < bB))) []) (Q (SV.bool false) []))) := by kernel_rfl

theorem ok_l10Ahead : FsOk Tryz.prog 124 fs_l10Ahead := fsOk_of tt_ok tabFs_nil mixed Tryz.func124 (by kernel_rfl) (by kernel_rfl) (by
    intro args LL p r HH h hp
    unfold fs_l10Ahead at h
    dsimp only at h
    split at h
    case h_2 => cases h
    rename_i aA aB bA bB
    simp only [Option.some.injEq, Prod.mk.injEq] at h
    obtain ⟨rfl, rfl, rfl⟩ := h
    refine ⟨by simp [Form, stays], L0, ?_⟩
    rw [vc_l10Ahead]
    try dsimp only

    repeat' (first | refine ifB_of (fun _ => ?_) (fun _ => ?_) | refine pre_of ?_ (fun _ => ?_))
    all_goals first
      | rfl
      | (simp only [W, ahead, *, cond_true, cond_false, Bool.true_and, Bool.false_and, Bool.and_true, Bool.and_false, Bool.not_true, Bool.not_false, and_self, true_and]; done)
      | (simp_all [W, ahead]; done)
      | (simp_all [W, ahead] <;> omega))

def pairAt (xs : List Body) (ps : List Pair) (i : Nat) : Bool :=
  hasB xs (Ty.ix .pair ps i).A && hasB xs (Ty.ix .pair ps i).B && decide ((Ty.ix .pair ps i).A < (Ty.ix .pair ps i).B) && (i == 0 || ahead (Ty.ix .pair ps (i - 1)) (Ty.ix .pair ps i))
def worldOk (t p : Int) (xs : List Body) (ps : List Pair) : Bool := isIn t 0 100000 && isIn p 0 2560 && bodiesOk xs && allTo (pairAt xs ps) ps.length
def LSspecWok  : LS where
  S := List Body × List Pair × (Int × Int) × Int
  live := [(1, [none]), (3, [none])]
  shape := fun s => ([.ptr 2 0 0, .int .i64 s.2.2.2], [(false, .vec .body s.1), (false, .vec .pair s.2.1), (true, .box [.int .i64 s.2.2.1.1, .int .i64 s.2.2.1.2, .vec 0, .vec 1])])
  get := fun v h => match v, h with
    | [.ptr 2 0 0, .int .i64 i], [(false, .vec .body xs), (false, .vec .pair ps), (true, .box [.int .i64 w_0, .int .i64 w_1, .vec 0, .vec 1])] => some (xs, ps, (w_0, w_1), i)
    | _, _ => none
  inv := fun s0 s => Holds (s.1 = s0.1 ∧ s.2.1 = s0.2.1 ∧ s.2.2.1 = s0.2.2.1 ∧ 0 ≤ s.2.2.2 ∧ s.2.2.2 ≤ s0.2.1.length ∧ allTo (pairAt s0.1 s0.2.1) s.2.2.2.toNat = true)
  mu := fun s => ((s.2.1.length : Int) - s.2.2.2).toNat
  ok := by
    intro v h s hg
    try dsimp only at hg
    split at hg <;> cases hg
    rfl

def L_specWok : Loops := fun n => match n with
  | 4 => some LSspecWok
  | _ => none
noncomputable def fs_specWorldOk : Fs := ⟨[], fun args H => match args, H with
  | [.agg [.int .i64 t, .int .i64 p, .vec 0, .vec 1]], [(false, .vec .body xs), (false, .vec .pair ps)] => some ((some (xs.length ≤ 1048576 ∧ ps.length ≤ 1048576)), .bool (worldOk t p xs ps), [(false, .vec .body xs), (false, .vec .pair ps)])
  | _, _ => none⟩

theorem vc_specWorldOk (t : Int) (p : Int) (xs : List Body) (ps : List Pair) (Q : SV → List Ent → Prop) :
    fnVC tt (look [(74, fs_l1In), (37, fs_specBodiesOk), (123, fs_l10At), (124, fs_l10Ahead)]) (L_specWok) Tryz.f46 [.agg [.int .i64 t, .int .i64 p, .vec 0, .vec 1]] [(false, .vec .body xs), (false, .vec .pair ps)] Q =
    (let w_ := IntKind.wrap IntKind.i64; let n_ := Int.toNat; ifB (!isIn t (0 : Int) (100000 : Int)) (Q (SV.bool false) [(false, Blk.vec Ty.body xs), (false, Blk.vec Ty.pair ps)]) (ifB (!isIn p (0 : Int) (2560 : Int)) (Q (SV.bool false) [(false, Blk.vec Ty.body xs), (false, Blk.vec Ty.pair ps)]) (List.length xs ≤ (4611686018427387904 : Nat) ∧ ifB (!bodiesOk xs) (Q (SV.bool false) [(false, Blk.vec Ty.body xs), (false, Blk.vec Ty.pair ps)]) (Holds (xs = xs ∧ ps = ps ∧ (t, p) = (t, p) ∧ (0 : Int) ≤ (0 : Int) ∧ (0 : Int) ≤ (↑(List.length ps) : Int) ∧ allTo (pairAt xs ps) (n_ (0 : Int)) = true) ∧ ∀ (y1 : List Body × List Pair × (Int × Int) × Int), let y1f0_ := Prod.fst y1; let y1s1_ := Prod.snd y1; let y1f1_ := Prod.fst (Prod.snd y1); let y1s2_ := Prod.snd (Prod.snd y1); let y1f2_ := Prod.fst (Prod.snd (Prod.snd y1)); let y1s3_ := Prod.snd (Prod.snd (Prod.snd y1)); let A6_ := (false, Blk.vec Ty.pair y1f1_); let A5_ := (false, Blk.vec Ty.body y1f0_); let A4_ := (Ty.ix Ty.pair y1f1_ (n_ y1s3_)); let A3_ := (↑(List.length y1f1_) : Int); let A2_ := (Prod.snd y1s2_ + (1 : Int)); Holds (Prod.fst y1 = xs ∧ y1f1_ = ps ∧ y1f2_ = (t, p) ∧ (0 : Int) ≤ y1s3_ ∧ y1s3_ ≤ (↑(List.length ps) : Int) ∧ allTo (pairAt xs ps) (n_ y1s3_) = true) → ifB (decide (Prod.snd y1s2_ < A3_)) (((0 : Int) ≤ y1s3_ ∧ y1s3_ < A3_) ∧ List.length y1f0_ ≤ (4611686018427387904 : Nat) ∧ List.length y1f0_ ≤ (4611686018427387904 : Nat) ∧ ifB (!hasB y1f0_ (Pair.A A4_)) (Q (SV.bool false) [A5_, A6_]) (ifB (!hasB y1f0_ (Pair.B A4_)) (Q (SV.bool false) [A5_, A6_]) (ifB (decide (Pair.A A4_ ≥ Pair.B A4_)) (Q (SV.bool false) [A5_, A6_]) (ifB (decide (Prod.snd y1s2_ > (0 : Int))) (((0 : Int) ≤ w_ (Prod.snd y1s2_ - (1 : Int)) ∧ w_ (Prod.snd y1s2_ - (1 : Int)) < A3_) ∧ ifB (!ahead (Ty.ix Ty.pair y1f1_ (n_ (w_ (Prod.snd y1s2_ - (1 : Int))))) A4_) (Q (SV.bool false) [A5_, A6_]) (Holds (Prod.fst y1 = xs ∧ y1f1_ = ps ∧ y1f2_ = (t, p) ∧ (0 : Int) ≤ w_ A2_ ∧ w_ A2_ ≤ (↑(List.length ps) : Int) ∧ allTo (pairAt xs ps) (n_ (w_ A2_)) = true) ∧ n_ (A3_ - w_ A2_) < n_ (A3_ - y1s3_))) (Holds (Prod.fst y1 = xs ∧ y1f1_ = ps ∧ y1f2_ = (t, p) ∧ (0 : Int) ≤ w_ A2_ ∧ w_ A2_ ≤ (↑(List.length ps) : Int) ∧ allTo (pairAt xs ps) (n_ (w_ A2_)) = true) ∧ n_ (A3_ - w_ A2_) < n_ (A3_ - y1s3_)))))) (Q (SV.bool true) [A5_, A6_]))))) := by kernel_rfl

theorem ok_specWorldOk : FsOk Tryz.prog 46 fs_specWorldOk := fsOk_of tt_ok (tabFs_cons ok_l1In (tabFs_cons ok_specBodiesOk (tabFs_cons ok_l10At (tabFs_cons ok_l10Ahead tabFs_nil)))) mixed Tryz.func46 (by kernel_rfl) (by kernel_rfl) (by
    intro args LL p r HH h hp
    unfold fs_specWorldOk at h
    dsimp only at h
    split at h
    case h_2 => cases h
    rename_i t p xs ps
    simp only [Option.some.injEq, Prod.mk.injEq] at h
    obtain ⟨rfl, rfl, rfl⟩ := h
    refine ⟨by simp [Form, stays], (L_specWok), ?_⟩
    rw [vc_specWorldOk]
    try dsimp only
    obtain ⟨hb, hb2⟩ := hp _ rfl
    refine ifB_of (fun c => ?_) (fun c => ifB_of (fun c2 => ?_) (fun c2 => ⟨by omega, ifB_of (fun c3 => ?_) (fun c3 => ⟨⟨(by trivial), (by trivial), (by trivial), by omega, by omega, rfl⟩, ?_⟩)⟩))
    · simp [worldOk, not_true c]
    · simp [worldOk, not_true c2]
    · simp [worldOk, not_true c3]
    rintro ⟨xs', ps', w, i⟩ ⟨h⟩
    dsimp only at h ⊢
    obtain ⟨rfl, rfl, rfl, h0, h1, h2⟩ := h
    refine ifB_of (fun c4 => ?_) (fun c4 => ?_)
    · have hi : i < ps'.length := of_decide_eq_true c4
      have hw1 : IntKind.i64.wrap (i + 1) = i + 1 := wrap_small (by omega) (by omega)
      have hw2 : IntKind.i64.wrap (i - 1) = i - 1 := wrap_small (by omega) (by omega)
      have e1 : (i + 1).toNat = i.toNat + 1 := by omega
      have e2 : (i - 1).toNat = i.toNat - 1 := by omega
      have fl : pairAt xs' ps' i.toNat = false → worldOk t p xs' ps' = false := fun h => by simp [worldOk, allTo_false h (show i.toNat < ps'.length by omega)]
      have nx : pairAt xs' ps' i.toNat = true → allTo (pairAt xs' ps') (i.toNat + 1) = true := fun h => by simp [allTo, h2, h]
      rw [hw1, hw2, e1, e2]
      refine ⟨⟨h0, hi⟩, by omega, by omega, ifB_of (fun d1 => ?_) (fun d1 => ifB_of (fun d2 => ?_) (fun d2 => ifB_of (fun d3 => ?_) (fun d3 => ifB_of (fun d4 => ?_) (fun d4 => ?_))))⟩
      · rw [fl (by simp [pairAt, not_true d1])]
        exact ⟨rfl, rfl⟩
      · rw [fl (by simp [pairAt, not_true d2])]
        exact ⟨rfl, rfl⟩
      · have d3' : decide ((Ty.ix .pair ps' i.toNat).A < (Ty.ix .pair ps' i.toNat).B) = false := decide_eq_false (by have := of_decide_eq_true d3; omega)
        rw [fl (by simp only [pairAt, d3', Bool.and_false, Bool.false_and])]
        exact ⟨rfl, rfl⟩
      · have d3' : decide ((Ty.ix .pair ps' i.toNat).A < (Ty.ix .pair ps' i.toNat).B) = true := decide_eq_true (by have := of_decide_eq_false d3; omega)
        have d4 := of_decide_eq_true d4
        have hz : (i.toNat == 0) = false := by simp; omega
        have pa : pairAt xs' ps' i.toNat = ahead (Ty.ix .pair ps' (i.toNat - 1)) (Ty.ix .pair ps' i.toNat) := by simp only [pairAt, not_false d1, not_false d2, d3', hz, Bool.true_and, Bool.false_or]
        rw [pa] at fl nx
        refine ⟨⟨by omega, by omega⟩, ifB_of (fun d5 => ?_) (fun d5 => ?_)⟩
        · rw [fl (not_true d5)]
          exact ⟨rfl, rfl⟩
        · exact ⟨⟨(by trivial), (by trivial), (by trivial), by omega, by omega, nx (not_false d5)⟩, by omega⟩
      · have d3' : decide ((Ty.ix .pair ps' i.toNat).A < (Ty.ix .pair ps' i.toNat).B) = true := decide_eq_true (by have := of_decide_eq_false d3; omega)
        have d4 := of_decide_eq_false d4
        have hz : (i.toNat == 0) = true := by simp; omega
        exact ⟨⟨(by trivial), (by trivial), (by trivial), by omega, by omega, nx (by simp only [pairAt, not_false d1, not_false d2, d3', hz, Bool.true_and, Bool.true_or])⟩, by omega⟩
    · have hi : ¬ i < ps'.length := of_decide_eq_false c4
      have e1 : i.toNat = ps'.length := by omega
      rw [e1] at h2
      simp [worldOk, not_false c, not_false c2, not_false c3, h2])

def LSimplWok  : LS where
  S := List Body × List Pair × (Int × Int) × Unit × Int × Int
  live := [(1, [none]), (26, [none]), (27, [none]), (28, [none])]
  shape := fun s => ([.ptr 2 0 0, .vec 1, .int .i64 s.2.2.2.2.1, .int .i64 s.2.2.2.2.2], [(false, .vec .body s.1), (false, .vec .pair s.2.1), (true, .box [.int .i64 s.2.2.1.1, .int .i64 s.2.2.1.2, .vec 0, .vec 1])])
  get := fun v h => match v, h with
    | [.ptr 2 0 0, .vec 1, .int .i64 n, .int .i64 i], [(false, .vec .body xs), (false, .vec .pair ps), (true, .box [.int .i64 w_0, .int .i64 w_1, .vec 0, .vec 1])] => some (xs, ps, (w_0, w_1), (), n, i)
    | _, _ => none
  inv := fun s0 s => Holds (s.1 = s0.1 ∧ s.2.1 = s0.2.1 ∧ s.2.2.1 = s0.2.2.1 ∧ s.2.2.2.2.1 = s0.2.1.length ∧ 0 ≤ s.2.2.2.2.2 ∧ s.2.2.2.2.2 ≤ s0.2.1.length ∧ allTo (pairAt s0.1 s0.2.1) s.2.2.2.2.2.toNat = true)
  mu := fun s => ((s.2.1.length : Int) - s.2.2.2.2.2).toNat
  ok := by
    intro v h s hg
    try dsimp only at hg
    split at hg <;> cases hg
    rfl

def L_implWok : Loops := fun n => match n with
  | 4 => some LSimplWok
  | _ => none
noncomputable def fs_implWorldOk : Fs := ⟨[], fun args H => match args, H with
  | [.agg [.int .i64 t, .int .i64 p, .vec 0, .vec 1]], [(false, .vec .body xs), (false, .vec .pair ps)] => some ((some (xs.length ≤ 1048576 ∧ ps.length ≤ 1048576)), .bool (worldOk t p xs ps), [(false, .vec .body xs), (false, .vec .pair ps)])
  | _, _ => none⟩

theorem vc_implWorldOk (t : Int) (p : Int) (xs : List Body) (ps : List Pair) (Q : SV → List Ent → Prop) :
    fnVC tt (look [(77, fs_in_), (38, fs_implBodiesOk), (155, fs_place)]) (L_implWok) Tryz.f73 [.agg [.int .i64 t, .int .i64 p, .vec 0, .vec 1]] [(false, .vec .body xs), (false, .vec .pair ps)] Q =
    (let w_ := IntKind.wrap IntKind.i64; let n_ := Int.toNat; ifB (!isIn t (0 : Int) (100000 : Int)) (Q (SV.bool false) [(false, Blk.vec Ty.body xs), (false, Blk.vec Ty.pair ps)]) (ifB (!isIn p (0 : Int) (2560 : Int)) (Q (SV.bool false) [(false, Blk.vec Ty.body xs), (false, Blk.vec Ty.pair ps)]) (List.length xs ≤ (4611686018427387904 : Nat) ∧ ifB (!bodiesOk xs) (Q (SV.bool false) [(false, Blk.vec Ty.body xs), (false, Blk.vec Ty.pair ps)]) (Holds (xs = xs ∧ ps = ps ∧ (t, p) = (t, p) ∧ (↑(List.length ps) : Int) = (↑(List.length ps) : Int) ∧ (0 : Int) ≤ (0 : Int) ∧ (0 : Int) ≤ (↑(List.length ps) : Int) ∧ allTo (pairAt xs ps) (n_ (0 : Int)) = true) ∧ ∀ (y1 : List Body × List Pair × (Int × Int) × Unit × Int × Int), let y1f0_ := Prod.fst y1; let y1s1_ := Prod.snd y1; let y1f1_ := Prod.fst (Prod.snd y1); let y1f2_ := Prod.fst (Prod.snd (Prod.snd y1)); let y1s4_ := Prod.snd (Prod.snd (Prod.snd (Prod.snd y1))); let y1f4_ := Prod.fst (Prod.snd (Prod.snd (Prod.snd (Prod.snd y1)))); let y1s5_ := Prod.snd (Prod.snd (Prod.snd (Prod.snd (Prod.snd y1)))); let A8_ := (false, Blk.vec Ty.pair y1f1_); let A7_ := (false, Blk.vec Ty.body y1f0_); let A6_ := (↑(List.length ps) : Int); let A5_ := (Prod.snd y1s4_ - (1 : Int)); let A9_ := (Ty.ix Ty.pair y1f1_ (n_ (w_ A5_))); let A4_ := (Ty.ix Ty.pair y1f1_ (n_ y1s5_)); let A3_ := (↑(List.length y1f1_) : Int); let A2_ := (Prod.snd y1s4_ + (1 : Int)); Holds (Prod.fst y1 = xs ∧ y1f1_ = ps ∧ y1f2_ = (t, p) ∧ y1f4_ = A6_ ∧ (0 : Int) ≤ y1s5_ ∧ y1s5_ ≤ A6_ ∧ allTo (pairAt xs ps) (n_ y1s5_) = true) → ifB (decide (Prod.snd y1s4_ < y1f4_)) (((0 : Int) ≤ y1s5_ ∧ y1s5_ < A3_) ∧ List.length y1f0_ ≤ (4611686018427387904 : Nat) ∧ List.length y1f0_ ≤ (4611686018427387904 : Nat) ∧ ifB (!hasB y1f0_ (Pair.A A4_)) (Q (SV.bool false) [A7_, A8_]) (ifB (!hasB y1f0_ (Pair.B A4_)) (Q (SV.bool false) [A7_, A8_]) (ifB (decide (Pair.A A4_ ≥ Pair.B A4_)) (Q (SV.bool false) [A7_, A8_]) (ifB (decide (Prod.snd y1s4_ > (0 : Int))) (((0 : Int) ≤ w_ A5_ ∧ w_ A5_ < A3_) ∧ ifB (decide (Pair.A A4_ < Pair.A A9_)) (Q (SV.bool false) [A7_, A8_]) (((0 : Int) ≤ w_ A5_ ∧ w_ A5_ < A3_) ∧ ifB (Pair.A A4_ == Pair.A A9_) (((0 : Int) ≤ w_ A5_ ∧ w_ A5_ < A3_) ∧ ifB (decide (Pair.B A4_ ≤ Pair.B A9_)) (Q (SV.bool false) [A7_, A8_]) (Holds (Prod.fst y1 = xs ∧ y1f1_ = ps ∧ y1f2_ = (t, p) ∧ y1f4_ = A6_ ∧ (0 : Int) ≤ w_ A2_ ∧ w_ A2_ ≤ A6_ ∧ allTo (pairAt xs ps) (n_ (w_ A2_)) = true) ∧ n_ (A3_ - w_ A2_) < n_ (A3_ - y1s5_))) (Holds (Prod.fst y1 = xs ∧ y1f1_ = ps ∧ y1f2_ = (t, p) ∧ y1f4_ = A6_ ∧ (0 : Int) ≤ w_ A2_ ∧ w_ A2_ ≤ A6_ ∧ allTo (pairAt xs ps) (n_ (w_ A2_)) = true) ∧ n_ (A3_ - w_ A2_) < n_ (A3_ - y1s5_)))) (Holds (Prod.fst y1 = xs ∧ y1f1_ = ps ∧ y1f2_ = (t, p) ∧ y1f4_ = A6_ ∧ (0 : Int) ≤ w_ A2_ ∧ w_ A2_ ≤ A6_ ∧ allTo (pairAt xs ps) (n_ (w_ A2_)) = true) ∧ n_ (A3_ - w_ A2_) < n_ (A3_ - y1s5_)))))) (Q (SV.bool true) [A7_, A8_]))))) := by kernel_rfl

theorem ok_implWorldOk : FsOk Tryz.prog 73 fs_implWorldOk := fsOk_of tt_ok (tabFs_cons ok_in_ (tabFs_cons ok_implBodiesOk (tabFs_cons ok_place tabFs_nil))) mixed Tryz.func73 (by kernel_rfl) (by kernel_rfl) (by
    intro args LL p r HH h hp
    unfold fs_implWorldOk at h
    dsimp only at h
    split at h
    case h_2 => cases h
    rename_i t p xs ps
    simp only [Option.some.injEq, Prod.mk.injEq] at h
    obtain ⟨rfl, rfl, rfl⟩ := h
    refine ⟨by simp [Form, stays], (L_implWok), ?_⟩
    rw [vc_implWorldOk]
    try dsimp only
    obtain ⟨hb, hb2⟩ := hp _ rfl
    refine ifB_of (fun c => ?_) (fun c => ifB_of (fun c2 => ?_) (fun c2 => ⟨by omega, ifB_of (fun c3 => ?_) (fun c3 => ⟨⟨(by trivial), (by trivial), (by trivial), (by trivial), by omega, by omega, rfl⟩, ?_⟩)⟩))
    · simp [worldOk, not_true c]
    · simp [worldOk, not_true c2]
    · simp [worldOk, not_true c3]
    rintro ⟨xs', ps', w, v, n, i⟩ ⟨h⟩
    dsimp only at h ⊢
    obtain ⟨rfl, rfl, rfl, rfl, h0, h1, h2⟩ := h
    refine ifB_of (fun c4 => ?_) (fun c4 => ?_)
    · have hi : i < ps'.length := of_decide_eq_true c4
      have hw1 : IntKind.i64.wrap (i + 1) = i + 1 := wrap_small (by omega) (by omega)
      have hw2 : IntKind.i64.wrap (i - 1) = i - 1 := wrap_small (by omega) (by omega)
      have e1 : (i + 1).toNat = i.toNat + 1 := by omega
      have e2 : (i - 1).toNat = i.toNat - 1 := by omega
      have fl : pairAt xs' ps' i.toNat = false → worldOk t p xs' ps' = false := fun h => by simp [worldOk, allTo_false h (show i.toNat < ps'.length by omega)]
      have nx : pairAt xs' ps' i.toNat = true → allTo (pairAt xs' ps') (i.toNat + 1) = true := fun h => by simp [allTo, h2, h]
      rw [hw1, hw2, e1, e2]
      refine ⟨⟨h0, hi⟩, by omega, by omega, ifB_of (fun d1 => ?_) (fun d1 => ifB_of (fun d2 => ?_) (fun d2 => ifB_of (fun d3 => ?_) (fun d3 => ifB_of (fun d4 => ?_) (fun d4 => ?_))))⟩
      · rw [fl (by simp [pairAt, not_true d1])]
        exact ⟨rfl, rfl⟩
      · rw [fl (by simp [pairAt, not_true d2])]
        exact ⟨rfl, rfl⟩
      · have d3' : decide ((Ty.ix .pair ps' i.toNat).A < (Ty.ix .pair ps' i.toNat).B) = false := decide_eq_false (by have := of_decide_eq_true d3; omega)
        rw [fl (by simp only [pairAt, d3', Bool.and_false, Bool.false_and])]
        exact ⟨rfl, rfl⟩
      · have d3' : decide ((Ty.ix .pair ps' i.toNat).A < (Ty.ix .pair ps' i.toNat).B) = true := decide_eq_true (by have := of_decide_eq_false d3; omega)
        have d4 := of_decide_eq_true d4
        have hz : (i.toNat == 0) = false := by simp; omega
        have pa : pairAt xs' ps' i.toNat = ahead (Ty.ix .pair ps' (i.toNat - 1)) (Ty.ix .pair ps' i.toNat) := by simp only [pairAt, not_false d1, not_false d2, d3', hz, Bool.true_and, Bool.false_or]
        rw [pa] at fl nx
        unfold ahead at fl nx
        refine ⟨⟨by omega, by omega⟩, ifB_of (fun d5 => ?_) (fun d5 => ⟨⟨by omega, by omega⟩, ifB_of (fun d6 => ⟨⟨by omega, by omega⟩, ifB_of (fun d7 => ?_) (fun d7 => ?_)⟩) (fun d6 => ?_)⟩)⟩
        · have d5 := of_decide_eq_true d5
          rw [fl (by simp; omega)]
          exact ⟨rfl, rfl⟩
        · have d5 := of_decide_eq_false d5
          have d7 := of_decide_eq_true d7
          simp only [beq_iff_eq] at d6
          rw [fl (by simp; omega)]
          exact ⟨rfl, rfl⟩
        · have d5 := of_decide_eq_false d5
          have d7 := of_decide_eq_false d7
          simp only [beq_iff_eq] at d6
          exact ⟨⟨(by trivial), (by trivial), (by trivial), (by trivial), by omega, by omega, nx (by simp; omega)⟩, by omega⟩
        · have d5 := of_decide_eq_false d5
          simp only [beq_eq_false_iff_ne] at d6
          exact ⟨⟨(by trivial), (by trivial), (by trivial), (by trivial), by omega, by omega, nx (by simp; omega)⟩, by omega⟩
      · have d3' : decide ((Ty.ix .pair ps' i.toNat).A < (Ty.ix .pair ps' i.toNat).B) = true := decide_eq_true (by have := of_decide_eq_false d3; omega)
        have d4 := of_decide_eq_false d4
        have hz : (i.toNat == 0) = true := by simp; omega
        exact ⟨⟨(by trivial), (by trivial), (by trivial), (by trivial), by omega, by omega, nx (by simp only [pairAt, not_false d1, not_false d2, d3', hz, Bool.true_and, Bool.true_or])⟩, by omega⟩
    · have hi : ¬ i < ps'.length := of_decide_eq_false c4
      have e1 : i.toNat = ps'.length := by omega
      rw [e1] at h2
      simp [worldOk, not_false c, not_false c2, not_false c3, h2])


end Go.Proofs.YtdhbkcaaijgocaaGreat.Sym

namespace Go.Proofs.YtdhbkcaaijgocaaGreat.Sym
open Go
set_option linter.unusedVariables false
set_option linter.unusedSimpArgs false
set_option maxRecDepth 100000

def idsF (f : Body → Bool) (xs : List Body) : List Int := (xs.filter f).map (·.Id)
theorem length_idsF (f : Body → Bool) (xs : List Body) : (idsF f xs).length ≤ xs.length := by
  simp only [idsF, List.length_map]
  exact List.length_filter_le _ _
theorem idsF_drop {f : Body → Bool} {xs : List Body} {i : Nat} (h : i < xs.length) : idsF f (xs.drop i) = (bif f (Ty.ix .body xs i) then [(Ty.ix .body xs i).Id] else []) ++ idsF f (xs.drop (i + 1)) := by
  rw [drop_ix (T := .body) h]
  cases c : f (Ty.ix .body xs i) <;> simp [idsF, c]
theorem idsF_congr {f g : Body → Bool} {xs : List Body} (h : ∀ k, k < xs.length → f (Ty.ix .body xs k) = g (Ty.ix .body xs k)) : idsF f xs = idsF g xs := by
  unfold idsF
  congr 1
  refine List.filter_congr fun x hx => ?_
  obtain ⟨i, hi, e⟩ := List.mem_iff_getElem.1 hx
  have := h i hi
  rwa [ix_eq (T := .body) (List.getElem?_eq_getElem hi), e] at this
theorem worldOk_bodies {t p : Int} {xs : List Body} {ps : List Pair} (h : worldOk t p xs ps = true) : bodiesOk xs = true := by
  simp only [worldOk, Bool.and_eq_true] at h
  exact h.1.2
theorem bodyOk_shape {b : Body} (h : bodyOk b = true) : shapeOk b.Shape = true ∧ placeOk b.At = true := by
  simp only [bodyOk, Bool.and_eq_true] at h
  simp only [h, and_self]
def pointB (q : Vec) (y : Body) : Bool := shapeHas y.Shape y.At q
def pointA (q : Vec) (y : Body) : Bool := shapeOk y.Shape && placeOk y.At && placeOk q && shapeHas y.Shape y.At q
noncomputable def fs_implShapeHas : Fs := ⟨[], fun args H => match args, H with
  | [.agg [.int .i64 sK, .int .i64 sW, .int .i64 sH], .agg [.int .i64 pX, .int .i64 pY], .agg [.int .i64 qX, .int .i64 qY]], [] => some (none, .bool (shapeOk (Shape.mk sK sW sH) && placeOk (Vec.mk pX pY) && placeOk (Vec.mk qX qY) && shapeHas (Shape.mk sK sW sH) (Vec.mk pX pY) (Vec.mk qX qY)), [])
  | _, _ => none⟩

theorem vc_implShapeHas (sK : Int) (sW : Int) (sH : Int) (pX : Int) (pY : Int) (qX : Int) (qY : Int) (Q : SV → List Ent → Prop) :
    fnVC tt (look [(126, fs_implShapeOk), (127, fs_isPlace), (132, fs_vecMinus), (133, fs_vecSquare), (119, fs_implBounds), (134, fs_implHasPoint)]) L0 Tryz.f53 [.agg [.int .i64 sK, .int .i64 sW, .int .i64 sH], .agg [.int .i64 pX, .int .i64 pY], .agg [.int .i64 qX, .int .i64 qY]] [] Q =
    (ifB (!shapeOk (Shape.mk sK sW sH)) (Q (SV.bool false) []) (ifB (!placeOk (Vec.mk pX pY)) (Q (SV.bool false) []) (ifB (!placeOk (Vec.mk qX qY)) (Q (SV.bool false) []) (ifB (sK == (1 : Int)) (Q (SV.bool (decide (square (minus (Vec.mk qX qY) (Vec.mk pX pY)) ≤ IntKind.wrap IntKind.i64 (sW * sW)))) []) (Q (SV.bool (hasPoint (bounds (Shape.mk sK sW sH) (Vec.mk pX pY)) (Vec.mk qX qY))) []))))) := by kernel_rfl

theorem ok_implShapeHas : FsOk Tryz.prog 53 fs_implShapeHas := fsOk_of tt_ok (tabFs_cons ok_implShapeOk (tabFs_cons ok_isPlace (tabFs_cons ok_vecMinus (tabFs_cons ok_vecSquare (tabFs_cons ok_implBounds (tabFs_cons ok_implHasPoint tabFs_nil)))))) mixed Tryz.func53 (by kernel_rfl) (by kernel_rfl) (by
    intro args LL p r HH h hp
    unfold fs_implShapeHas at h
    dsimp only at h
    split at h
    case h_2 => cases h
    rename_i sK sW sH pX pY qX qY
    simp only [Option.some.injEq, Prod.mk.injEq] at h
    obtain ⟨rfl, rfl, rfl⟩ := h
    refine ⟨by simp [Form, stays], L0, ?_⟩
    rw [vc_implShapeHas]
    try dsimp only
    refine ifB_of (fun c => ?_) (fun c => ifB_of (fun c2 => ?_) (fun c2 => ifB_of (fun c3 => ?_) (fun c3 => ifB_of (fun c4 => ?_) (fun c4 => ?_))))
    · simp [not_true c]
    · simp [not_true c2]
    · simp [not_true c3]
    · have : sK = 1 := by simpa using c4
      subst this
      simp [not_false c, not_false c2, not_false c3, shapeHas, W]
    · have h1 : ¬ sK = 1 := by simpa using c4
      have h2 : sK = 2 := by
        have := not_false c
        simp only [shapeOk, h1, if_false] at this
        by_cases h : sK = 2
        · exact h
        · simp [h] at this
      subst h2
      simp [not_false c, not_false c2, not_false c3, shapeHas])

theorem idsAt_same {t p : Int} {xs : List Body} {ps : List Pair} {q : Vec} (h : worldOk t p xs ps = true) (hq : placeOk q = true) : idsF (pointA q) xs = idsF (pointB q) xs :=
  idsF_congr fun k hk => by
    obtain ⟨h1, h2⟩ := bodyOk_shape (bodiesOk_each (worldOk_bodies h) hk)
    simp [pointA, pointB, h1, h2, hq]
noncomputable def fs_holdsAt : Fs := ⟨[], fun args H => match args, H with
  | [.agg [.int .i64 aI, .int .i64 aK, .int .i64 aW, .int .i64 aH, .int .i64 aX, .int .i64 aY, .int .i64 aU, .int .i64 aV, .int .i64 aM, .int .i64 aB, .int .i64 aR, .int .i64 aQ], .ptr 0 0 0], [(true, .box [.int .i64 qX, .int .i64 qY])] => some (none, .bool (shapeOk ⟨aK, aW, aH⟩ && placeOk ⟨aX, aY⟩ && placeOk ⟨qX, qY⟩ && shapeHas ⟨aK, aW, aH⟩ ⟨aX, aY⟩ ⟨qX, qY⟩), [(true, .box [.int .i64 qX, .int .i64 qY])])
  | _, _ => none⟩

theorem vc_holdsAt (aI : Int) (aK : Int) (aW : Int) (aH : Int) (aX : Int) (aY : Int) (aU : Int) (aV : Int) (aM : Int) (aB : Int) (aR : Int) (aQ : Int) (qX : Int) (qY : Int) (Q : SV → List Ent → Prop) :
    fnVC tt (look [(53, fs_implShapeHas)]) L0 Tryz.f129 [.agg [.int .i64 aI, .int .i64 aK, .int .i64 aW, .int .i64 aH, .int .i64 aX, .int .i64 aY, .int .i64 aU, .int .i64 aV, .int .i64 aM, .int .i64 aB, .int .i64 aR, .int .i64 aQ], .ptr 0 0 0] [(true, .box [.int .i64 qX, .int .i64 qY])] Q =
    (Q (SV.bool (shapeOk (Shape.mk aK aW aH) && placeOk (Vec.mk aX aY) && placeOk (Vec.mk qX qY) && shapeHas (Shape.mk aK aW aH) (Vec.mk aX aY) (Vec.mk qX qY))) [(true, Blk.box [SV.int IntKind.i64 qX, SV.int IntKind.i64 qY])]) := by kernel_rfl

theorem ok_holdsAt : FsOk Tryz.prog 129 fs_holdsAt := fsOk_of tt_ok (tabFs_cons ok_implShapeHas tabFs_nil) mixed Tryz.func129 (by kernel_rfl) (by kernel_rfl) (by
    intro args LL p r HH h hp
    unfold fs_holdsAt at h
    dsimp only at h
    split at h
    case h_2 => cases h
    rename_i aI aK aW aH aX aY aU aV aM aB aR aQ qX qY
    simp only [Option.some.injEq, Prod.mk.injEq] at h
    obtain ⟨rfl, rfl, rfl⟩ := h
    refine ⟨by simp [Form, stays], L0, ?_⟩
    rw [vc_holdsAt]
    try dsimp only
    exact ⟨rfl, rfl⟩)

def LSidsAt  : LS where
  S := List Body × List Pair × Vec × Unit × List Int × Unit × Int × Int
  live := [(1, [none]), (5, [some .int]), (9, [none]), (10, [none]), (11, [none])]
  shape := fun s => ([.fn 129 (some 2), .vec 3, .vec 0, .int .i64 s.2.2.2.2.2.2.1, .int .i64 s.2.2.2.2.2.2.2], [(false, .vec .body s.1), (false, .vec .pair s.2.1), (true, .box [.int .i64 s.2.2.1.X, .int .i64 s.2.2.1.Y]), (true, .vec .int s.2.2.2.2.1)])
  get := fun v h => match v, h with
    | [.fn 129 (some 2), .vec 3, .vec 0, .int .i64 n, .int .i64 i], [(false, .vec .body xs), (false, .vec .pair ps), (true, .box [.int .i64 qX, .int .i64 qY]), (true, .vec .int out)] => some (xs, ps, (Vec.mk qX qY), (), out, (), n, i)
    | _, _ => none
  inv := fun s0 s => Holds (s.1 = s0.1 ∧ s.2.1 = s0.2.1 ∧ s.2.2.1 = s0.2.2.1 ∧ s.2.2.2.2.2.2.1 = s0.1.length ∧ 0 ≤ s.2.2.2.2.2.2.2 ∧ s.2.2.2.2.2.2.2 ≤ s0.1.length ∧ s.2.2.2.2.1 ++ idsF (pointA s0.2.2.1) (s0.1.drop s.2.2.2.2.2.2.2.toNat) = idsF (pointA s0.2.2.1) s0.1)
  mu := fun s => ((s.1.length : Int) - s.2.2.2.2.2.2.2).toNat
  ok := by
    intro v h s hg
    try dsimp only at hg
    split at hg <;> cases hg
    rfl

def L_idsAt : Loops := fun n => match n with
  | 3 => some LSidsAt
  | _ => none
noncomputable def fs_idsAt : Fs := ⟨[], fun args H => match args, H with
  | [.agg [.int .i64 t, .int .i64 p, .vec 0, .vec 1], .fn 129 (some 2)], [(false, .vec .body xs), (false, .vec .pair ps), (true, .box [.int .i64 qX, .int .i64 qY])] => some ((some (xs.length ≤ 1048576)), .vec 3, [(false, .vec .body xs), (false, .vec .pair ps), (true, .box [.int .i64 qX, .int .i64 qY]), (true, .vec .int (idsF (pointA ⟨qX, qY⟩) xs))])
  | _, _ => none⟩

theorem vc_idsAt (t : Int) (p : Int) (xs : List Body) (ps : List Pair) (qX : Int) (qY : Int) (Q : SV → List Ent → Prop) :
    fnVC tt (look [(129, fs_holdsAt)]) (L_idsAt) Tryz.f117 [.agg [.int .i64 t, .int .i64 p, .vec 0, .vec 1], .fn 129 (some 2)] [(false, .vec .body xs), (false, .vec .pair ps), (true, .box [.int .i64 qX, .int .i64 qY])] Q =
    (let w_ := IntKind.wrap IntKind.i64; let n_ := Int.toNat; Holds (xs = xs ∧ ps = ps ∧ Vec.mk qX qY = Vec.mk qX qY ∧ (↑(List.length xs) : Int) = (↑(List.length xs) : Int) ∧ (0 : Int) ≤ (0 : Int) ∧ (0 : Int) ≤ (↑(List.length xs) : Int) ∧ [] ++ idsF (pointA (Vec.mk qX qY)) (List.drop (n_ (0 : Int)) xs) = idsF (pointA (Vec.mk qX qY)) xs) ∧ ∀ (y1 : List Body × List Pair × Vec × Unit × List Int × Unit × Int × Int), let y1f0_ := Prod.fst y1; let y1s1_ := Prod.snd y1; let y1f1_ := Prod.fst (Prod.snd y1); let y1f2_ := Prod.fst (Prod.snd (Prod.snd y1)); let y1f4_ := Prod.fst (Prod.snd (Prod.snd (Prod.snd (Prod.snd y1)))); let y1s6_ := Prod.snd (Prod.snd (Prod.snd (Prod.snd (Prod.snd (Prod.snd y1))))); let y1f6_ := Prod.fst (Prod.snd (Prod.snd (Prod.snd (Prod.snd (Prod.snd (Prod.snd y1)))))); let y1s7_ := Prod.snd (Prod.snd (Prod.snd (Prod.snd (Prod.snd (Prod.snd (Prod.snd y1)))))); let A5_ := (↑(List.length y1f0_) : Int); let A4_ := (↑(List.length xs) : Int); let A3_ := (Prod.snd y1s6_ + (1 : Int)); let A2_ := (Ty.ix Ty.body y1f0_ (n_ y1s7_)); Holds (Prod.fst y1 = xs ∧ y1f1_ = ps ∧ y1f2_ = Vec.mk qX qY ∧ y1f6_ = A4_ ∧ (0 : Int) ≤ y1s7_ ∧ y1s7_ ≤ A4_ ∧ y1f4_ ++ idsF (pointA (Vec.mk qX qY)) (List.drop (n_ y1s7_) xs) = idsF (pointA (Vec.mk qX qY)) xs) → ifB (decide (Prod.snd y1s6_ < y1f6_)) (((0 : Int) ≤ y1s7_ ∧ y1s7_ < A5_) ∧ ifB (shapeOk (Body.Shape A2_) && placeOk (Body.At A2_) && placeOk y1f2_ && shapeHas (Body.Shape A2_) (Body.At A2_) y1f2_) ((List.length y1f4_ + List.length [Body.Id A2_]) * (8 : Nat) ≤ room ∧ Holds (Prod.fst y1 = xs ∧ y1f1_ = ps ∧ y1f2_ = Vec.mk qX qY ∧ y1f6_ = A4_ ∧ (0 : Int) ≤ w_ A3_ ∧ w_ A3_ ≤ A4_ ∧ y1f4_ ++ [Body.Id A2_] ++ idsF (pointA (Vec.mk qX qY)) (List.drop (n_ (w_ A3_)) xs) = idsF (pointA (Vec.mk qX qY)) xs) ∧ n_ (A5_ - w_ A3_) < n_ (A5_ - y1s7_)) (Holds (Prod.fst y1 = xs ∧ y1f1_ = ps ∧ y1f2_ = Vec.mk qX qY ∧ y1f6_ = A4_ ∧ (0 : Int) ≤ w_ A3_ ∧ w_ A3_ ≤ A4_ ∧ y1f4_ ++ idsF (pointA (Vec.mk qX qY)) (List.drop (n_ (w_ A3_)) xs) = idsF (pointA (Vec.mk qX qY)) xs) ∧ n_ (A5_ - w_ A3_) < n_ (A5_ - y1s7_))) (Q (SV.vec (3 : Nat)) [(false, Blk.vec Ty.body y1f0_), (false, Blk.vec Ty.pair y1f1_), (true, Blk.box [SV.int IntKind.i64 (Vec.X y1f2_), SV.int IntKind.i64 (Vec.Y y1f2_)]), (true, Blk.vec Ty.int y1f4_)])) := by kernel_rfl

theorem ok_idsAt : FsOk Tryz.prog 117 fs_idsAt := fsOk_of tt_ok (tabFs_cons ok_holdsAt tabFs_nil) mixed Tryz.func117 (by kernel_rfl) (by kernel_rfl) (by
    intro args LL p r HH h hp
    unfold fs_idsAt at h
    dsimp only at h
    split at h
    case h_2 => cases h
    rename_i t p xs ps qX qY
    simp only [Option.some.injEq, Prod.mk.injEq] at h
    obtain ⟨rfl, rfl, rfl⟩ := h
    refine ⟨by simp [Form, stays], (L_idsAt), ?_⟩
    rw [vc_idsAt]
    try dsimp only
    have hb := hp _ rfl
    refine ⟨⟨(by trivial), (by trivial), (by trivial), (by trivial), by omega, by omega, (by trivial)⟩, ?_⟩
    rintro ⟨xs', ps', q, f, out, u, n, i⟩ ⟨h⟩
    dsimp only at h ⊢
    obtain ⟨rfl, rfl, rfl, rfl, i0, i1, i2⟩ := h
    have hs := length_idsF (pointA ⟨qX, qY⟩) xs'
    have hs2 := congrArg List.length i2
    rw [List.length_append] at hs2
    refine ifB_of (fun c => ?_) (fun c => ?_)
    · have c := of_decide_eq_true c
      have e1 : (i + 1).toNat = i.toNat + 1 := by omega
      have w : IntKind.i64.wrap (i + 1) = i + 1 := wrap_small (by omega) (by omega)
      rw [idsF_drop (show i.toNat < xs'.length by omega)] at i2
      rw [w, e1]
      refine ⟨⟨i0, c⟩, ifB_of (fun c2 => ?_) (fun c2 => ?_)⟩
      · rw [show pointA ⟨qX, qY⟩ (Ty.ix .body xs' i.toNat) = true from c2] at i2
        refine ⟨by simp only [room, List.length_singleton]; omega, ⟨(by trivial), (by trivial), (by trivial), (by trivial), by omega, by omega, ?_⟩, by omega⟩
        rw [← i2, List.append_assoc]
        rfl
      · rw [show pointA ⟨qX, qY⟩ (Ty.ix .body xs' i.toNat) = false from c2] at i2
        exact ⟨⟨(by trivial), (by trivial), (by trivial), (by trivial), by omega, by omega, i2⟩, by omega⟩
    · have c := of_decide_eq_false c
      rw [drop_end (by omega)] at i2
      rw [← i2]
      simp [idsF])

def worldAt (t p : Int) (xs : List Body) (ps : List Pair) (q : Vec) : List Int := bif worldOk t p xs ps && placeOk q then idsF (pointB q) xs else []
theorem length_worldAt (t p : Int) (xs : List Body) (ps : List Pair) (q : Vec) : (worldAt t p xs ps q).length ≤ xs.length := by
  unfold worldAt
  have := length_idsF (pointB q) xs
  cases worldOk t p xs ps && placeOk q with
  | true => exact this
  | false => simp
noncomputable def fs_implWorldAt : Fs := ⟨[], fun args H => match args, H with
  | [.agg [.int .i64 t, .int .i64 p, .vec 0, .vec 1], .agg [.int .i64 qX, .int .i64 qY]], [(false, .vec .body xs), (false, .vec .pair ps)] => some ((some (xs.length ≤ 1048576 ∧ ps.length ≤ 1048576)), .vec 2, [(false, .vec .body xs), (false, .vec .pair ps), (true, .vec .int (worldAt t p xs ps ⟨qX, qY⟩))])
  | _, _ => none⟩

theorem vc_implWorldAt (t : Int) (p : Int) (xs : List Body) (ps : List Pair) (qX : Int) (qY : Int) (Q : SV → List Ent → Prop) :
    fnVC tt (look [(73, fs_implWorldOk), (127, fs_isPlace), (117, fs_idsAt)]) L0 Tryz.f51 [.agg [.int .i64 t, .int .i64 p, .vec 0, .vec 1], .agg [.int .i64 qX, .int .i64 qY]] [(false, .vec .body xs), (false, .vec .pair ps)] Q =
    ((List.length xs ≤ (1048576 : Nat) ∧ List.length ps ≤ (1048576 : Nat)) ∧ ifB (!worldOk t p xs ps) (Q (SV.vec (2 : Nat)) [(false, Blk.vec Ty.body xs), (false, Blk.vec Ty.pair ps), (true, Blk.vec Ty.int [])]) (ifB (!placeOk (Vec.mk qX qY)) (Q (SV.vec (2 : Nat)) [(false, Blk.vec Ty.body xs), (false, Blk.vec Ty.pair ps), (true, Blk.vec Ty.int [])]) (List.length xs ≤ (1048576 : Nat) ∧ Q (SV.vec (2 : Nat)) [(false, Blk.vec Ty.body xs), (false, Blk.vec Ty.pair ps), (true, Blk.vec Ty.int (idsF (pointA (Vec.mk qX qY)) xs))]))) := by kernel_rfl

theorem ok_implWorldAt : FsOk Tryz.prog 51 fs_implWorldAt := fsOk_of tt_ok (tabFs_cons ok_implWorldOk (tabFs_cons ok_isPlace (tabFs_cons ok_idsAt tabFs_nil))) mixed Tryz.func51 (by kernel_rfl) (by kernel_rfl) (by
    intro args LL p r HH h hp
    unfold fs_implWorldAt at h
    dsimp only at h
    split at h
    case h_2 => cases h
    rename_i t p qX qY xs ps
    simp only [Option.some.injEq, Prod.mk.injEq] at h
    obtain ⟨rfl, rfl, rfl⟩ := h
    refine ⟨by simp [Form, stays], L0, ?_⟩
    rw [vc_implWorldAt]
    try dsimp only
    obtain ⟨hb, hb2⟩ := hp _ rfl
    refine ⟨⟨hb, hb2⟩, ifB_of (fun c => ?_) (fun c => ifB_of (fun c2 => ?_) (fun c2 => ⟨hb, ?_⟩))⟩
    · simp [worldAt, not_true c]
    · simp [worldAt, not_true c2]
    · rw [idsAt_same (not_false c) (not_false c2)]
      simp [worldAt, not_false c, not_false c2])

def LSspecAt  : LS where
  S := List Body × List Pair × (Int × Int) × Vec × List Int × Int
  live := [(2, [none]), (3, [none]), (5, [some .int]), (6, [none])]
  shape := fun s => ([.ptr 2 0 0, .ptr 3 0 0, .vec 4, .int .i64 s.2.2.2.2.2], [(false, .vec .body s.1), (false, .vec .pair s.2.1), (true, .box [.int .i64 s.2.2.1.1, .int .i64 s.2.2.1.2, .vec 0, .vec 1]), (true, .box [.int .i64 s.2.2.2.1.X, .int .i64 s.2.2.2.1.Y]), (true, .vec .int s.2.2.2.2.1)])
  get := fun v h => match v, h with
    | [.ptr 2 0 0, .ptr 3 0 0, .vec 4, .int .i64 i], [(false, .vec .body xs), (false, .vec .pair ps), (true, .box [.int .i64 w_0, .int .i64 w_1, .vec 0, .vec 1]), (true, .box [.int .i64 qX, .int .i64 qY]), (true, .vec .int out)] => some (xs, ps, (w_0, w_1), (Vec.mk qX qY), out, i)
    | _, _ => none
  inv := fun s0 s => Holds (s.1 = s0.1 ∧ s.2.1 = s0.2.1 ∧ s.2.2.1 = s0.2.2.1 ∧ s.2.2.2.1 = s0.2.2.2.1 ∧ 0 ≤ s.2.2.2.2.2 ∧ s.2.2.2.2.2 ≤ s0.1.length ∧ s.2.2.2.2.1 ++ idsF (pointB s0.2.2.2.1) (s0.1.drop s.2.2.2.2.2.toNat) = idsF (pointB s0.2.2.2.1) s0.1)
  mu := fun s => ((s.1.length : Int) - s.2.2.2.2.2).toNat
  ok := by
    intro v h s hg
    try dsimp only at hg
    split at hg <;> cases hg
    rfl

def L_specAt : Loops := fun n => match n with
  | 5 => some LSspecAt
  | _ => none
noncomputable def fs_specWorldAt : Fs := ⟨[], fun args H => match args, H with
  | [.agg [.int .i64 t, .int .i64 p, .vec 0, .vec 1], .agg [.int .i64 qX, .int .i64 qY]], [(false, .vec .body xs), (false, .vec .pair ps)] => some ((some (xs.length ≤ 1048576 ∧ ps.length ≤ 1048576)), .vec 2, [(false, .vec .body xs), (false, .vec .pair ps), (true, .vec .int (worldAt t p xs ps ⟨qX, qY⟩))])
  | _, _ => none⟩

theorem vc_specWorldAt (t : Int) (p : Int) (xs : List Body) (ps : List Pair) (qX : Int) (qY : Int) (Q : SV → List Ent → Prop) :
    fnVC tt (look [(46, fs_specWorldOk), (130, fs_l3Place), (131, fs_l3Has)]) (L_specAt) Tryz.f52 [.agg [.int .i64 t, .int .i64 p, .vec 0, .vec 1], .agg [.int .i64 qX, .int .i64 qY]] [(false, .vec .body xs), (false, .vec .pair ps)] Q =
    (let w_ := IntKind.wrap IntKind.i64; let n_ := Int.toNat; (List.length xs ≤ (1048576 : Nat) ∧ List.length ps ≤ (1048576 : Nat)) ∧ ifB (!worldOk t p xs ps) (Q (SV.vec (2 : Nat)) [(false, Blk.vec Ty.body xs), (false, Blk.vec Ty.pair ps), (true, Blk.vec Ty.int [])]) (ifB (!placeOk (Vec.mk qX qY)) (Q (SV.vec (2 : Nat)) [(false, Blk.vec Ty.body xs), (false, Blk.vec Ty.pair ps), (true, Blk.vec Ty.int [])]) (Holds (xs = xs ∧ ps = ps ∧ (t, p) = (t, p) ∧ Vec.mk qX qY = Vec.mk qX qY ∧ (0 : Int) ≤ (0 : Int) ∧ (0 : Int) ≤ (↑(List.length xs) : Int) ∧ [] ++ idsF (pointB (Vec.mk qX qY)) (List.drop (n_ (0 : Int)) xs) = idsF (pointB (Vec.mk qX qY)) xs) ∧ ∀ (y1 : List Body × List Pair × (Int × Int) × Vec × List Int × Int), let y1f0_ := Prod.fst y1; let y1s1_ := Prod.snd y1; let y1f1_ := Prod.fst (Prod.snd y1); let y1f2_ := Prod.fst (Prod.snd (Prod.snd y1)); let y1f3_ := Prod.fst (Prod.snd (Prod.snd (Prod.snd y1))); let y1s4_ := Prod.snd (Prod.snd (Prod.snd (Prod.snd y1))); let y1f4_ := Prod.fst (Prod.snd (Prod.snd (Prod.snd (Prod.snd y1)))); let y1s5_ := Prod.snd (Prod.snd (Prod.snd (Prod.snd (Prod.snd y1)))); let A4_ := (Ty.ix Ty.body y1f0_ (n_ y1s5_)); let A3_ := (Prod.snd y1s4_ + (1 : Int)); let A2_ := (↑(List.length y1f0_) : Int); Holds (Prod.fst y1 = xs ∧ y1f1_ = ps ∧ y1f2_ = (t, p) ∧ y1f3_ = Vec.mk qX qY ∧ (0 : Int) ≤ y1s5_ ∧ y1s5_ ≤ (↑(List.length xs) : Int) ∧ y1f4_ ++ idsF (pointB (Vec.mk qX qY)) (List.drop (n_ y1s5_) xs) = idsF (pointB (Vec.mk qX qY)) xs) → ifB (decide (Prod.snd y1s4_ < A2_)) (((0 : Int) ≤ y1s5_ ∧ y1s5_ < A2_) ∧ ((0 : Int) ≤ y1s5_ ∧ y1s5_ < A2_) ∧ ifB (shapeHas (Body.Shape A4_) (Body.At A4_) y1f3_) (((0 : Int) ≤ y1s5_ ∧ y1s5_ < A2_) ∧ (List.length y1f4_ + List.length [Body.Id A4_]) * (8 : Nat) ≤ room ∧ Holds (Prod.fst y1 = xs ∧ y1f1_ = ps ∧ y1f2_ = (t, p) ∧ y1f3_ = Vec.mk qX qY ∧ (0 : Int) ≤ w_ A3_ ∧ w_ A3_ ≤ (↑(List.length xs) : Int) ∧ y1f4_ ++ [Body.Id A4_] ++ idsF (pointB (Vec.mk qX qY)) (List.drop (n_ (w_ A3_)) xs) = idsF (pointB (Vec.mk qX qY)) xs) ∧ n_ (A2_ - w_ A3_) < n_ (A2_ - y1s5_)) (Holds (Prod.fst y1 = xs ∧ y1f1_ = ps ∧ y1f2_ = (t, p) ∧ y1f3_ = Vec.mk qX qY ∧ (0 : Int) ≤ w_ A3_ ∧ w_ A3_ ≤ (↑(List.length xs) : Int) ∧ y1f4_ ++ idsF (pointB (Vec.mk qX qY)) (List.drop (n_ (w_ A3_)) xs) = idsF (pointB (Vec.mk qX qY)) xs) ∧ n_ (A2_ - w_ A3_) < n_ (A2_ - y1s5_))) (Q (SV.vec (2 : Nat)) [(false, Blk.vec Ty.body y1f0_), (false, Blk.vec Ty.pair y1f1_), (true, Blk.vec Ty.int y1f4_)])))) := by kernel_rfl

theorem ok_specWorldAt : FsOk Tryz.prog 52 fs_specWorldAt := fsOk_of tt_ok (tabFs_cons ok_specWorldOk (tabFs_cons ok_l3Place (tabFs_cons ok_l3Has tabFs_nil))) mixed Tryz.func52 (by kernel_rfl) (by kernel_rfl) (by
    intro args LL p r HH h hp
    unfold fs_specWorldAt at h
    dsimp only at h
    split at h
    case h_2 => cases h
    rename_i t p qX qY xs ps
    simp only [Option.some.injEq, Prod.mk.injEq] at h
    obtain ⟨rfl, rfl, rfl⟩ := h
    refine ⟨by simp [Form, stays], (L_specAt), ?_⟩
    rw [vc_specWorldAt]
    try dsimp only
    obtain ⟨hb, hb2⟩ := hp _ rfl
    refine ⟨⟨hb, hb2⟩, ifB_of (fun c => ?_) (fun c => ifB_of (fun c2 => ?_) (fun c2 => ?_))⟩
    · simp [worldAt, not_true c]
    · simp [worldAt, not_true c2]
    have e : worldAt t p xs ps ⟨qX, qY⟩ = idsF (pointB ⟨qX, qY⟩) xs := by simp [worldAt, not_false c, not_false c2]
    rw [e]
    refine ⟨⟨(by trivial), (by trivial), (by trivial), (by trivial), by omega, by omega, (by trivial)⟩, ?_⟩
    rintro ⟨xs', ps', w, q, out, i⟩ ⟨h⟩
    dsimp only at h ⊢
    obtain ⟨rfl, rfl, rfl, rfl, i0, i1, i2⟩ := h
    have hs := length_idsF (pointB ⟨qX, qY⟩) xs'
    have hs2 := congrArg List.length i2
    rw [List.length_append] at hs2
    refine ifB_of (fun c3 => ?_) (fun c3 => ?_)
    · have c3 := of_decide_eq_true c3
      have e1 : (i + 1).toNat = i.toNat + 1 := by omega
      have w : IntKind.i64.wrap (i + 1) = i + 1 := wrap_small (by omega) (by omega)
      rw [idsF_drop (show i.toNat < xs'.length by omega)] at i2
      rw [w, e1]
      refine ⟨⟨i0, c3⟩, ⟨i0, c3⟩, ifB_of (fun c4 => ?_) (fun c4 => ?_)⟩
      · rw [show pointB ⟨qX, qY⟩ (Ty.ix .body xs' i.toNat) = true from c4] at i2
        refine ⟨⟨i0, c3⟩, by simp only [room, List.length_singleton]; omega, ⟨(by trivial), (by trivial), (by trivial), (by trivial), by omega, by omega, ?_⟩, by omega⟩
        rw [← i2, List.append_assoc]
        rfl
      · rw [show pointB ⟨qX, qY⟩ (Ty.ix .body xs' i.toNat) = false from c4] at i2
        exact ⟨⟨(by trivial), (by trivial), (by trivial), (by trivial), by omega, by omega, i2⟩, by omega⟩
    · have c3 := of_decide_eq_false c3
      rw [drop_end (by omega)] at i2
      rw [← i2]
      simp [idsF])

def inB (b : Box) (y : Body) : Bool := boxMeets (bounds y.Shape y.At) b
theorem idsIn_same {t p : Int} {xs : List Body} {ps : List Pair} {q : Box} (h : worldOk t p xs ps = true) (hq : boxOk q = true) : idsF (inB q) xs = idsF (inB q) xs := rfl
noncomputable def fs_holdsIn : Fs := ⟨[], fun args H => match args, H with
  | [.agg [.int .i64 aI, .int .i64 aK, .int .i64 aW, .int .i64 aH, .int .i64 aX, .int .i64 aY, .int .i64 aU, .int .i64 aV, .int .i64 aM, .int .i64 aB, .int .i64 aR, .int .i64 aQ], .ptr 0 0 0], [(true, .box [.int .i64 qA, .int .i64 qB, .int .i64 qC, .int .i64 qD])] => some (none, .bool (boxMeets (bounds ⟨aK, aW, aH⟩ ⟨aX, aY⟩) ⟨⟨qA, qB⟩, ⟨qC, qD⟩⟩), [(true, .box [.int .i64 qA, .int .i64 qB, .int .i64 qC, .int .i64 qD])])
  | _, _ => none⟩

theorem vc_holdsIn (aI : Int) (aK : Int) (aW : Int) (aH : Int) (aX : Int) (aY : Int) (aU : Int) (aV : Int) (aM : Int) (aB : Int) (aR : Int) (aQ : Int) (qA : Int) (qB : Int) (qC : Int) (qD : Int) (Q : SV → List Ent → Prop) :
    fnVC tt (look [(119, fs_implBounds), (120, fs_implMeets)]) L0 Tryz.f118 [.agg [.int .i64 aI, .int .i64 aK, .int .i64 aW, .int .i64 aH, .int .i64 aX, .int .i64 aY, .int .i64 aU, .int .i64 aV, .int .i64 aM, .int .i64 aB, .int .i64 aR, .int .i64 aQ], .ptr 0 0 0] [(true, .box [.int .i64 qA, .int .i64 qB, .int .i64 qC, .int .i64 qD])] Q =
    (Q (SV.bool (boxMeets (bounds (Shape.mk aK aW aH) (Vec.mk aX aY)) (Box.mk (Vec.mk qA qB) (Vec.mk qC qD)))) [(true, Blk.box [SV.int IntKind.i64 qA, SV.int IntKind.i64 qB, SV.int IntKind.i64 qC, SV.int IntKind.i64 qD])]) := by kernel_rfl

theorem ok_holdsIn : FsOk Tryz.prog 118 fs_holdsIn := fsOk_of tt_ok (tabFs_cons ok_implBounds (tabFs_cons ok_implMeets tabFs_nil)) mixed Tryz.func118 (by kernel_rfl) (by kernel_rfl) (by
    intro args LL p r HH h hp
    unfold fs_holdsIn at h
    dsimp only at h
    split at h
    case h_2 => cases h
    rename_i aI aK aW aH aX aY aU aV aM aB aR aQ qA qB qC qD
    simp only [Option.some.injEq, Prod.mk.injEq] at h
    obtain ⟨rfl, rfl, rfl⟩ := h
    refine ⟨by simp [Form, stays], L0, ?_⟩
    rw [vc_holdsIn]
    try dsimp only
    exact ⟨rfl, rfl⟩)

def LSidsIn  : LS where
  S := List Body × List Pair × Box × Unit × List Int × Unit × Int × Int
  live := [(1, [none]), (5, [some .int]), (9, [none]), (10, [none]), (11, [none])]
  shape := fun s => ([.fn 118 (some 2), .vec 3, .vec 0, .int .i64 s.2.2.2.2.2.2.1, .int .i64 s.2.2.2.2.2.2.2], [(false, .vec .body s.1), (false, .vec .pair s.2.1), (true, .box [.int .i64 s.2.2.1.Low.X, .int .i64 s.2.2.1.Low.Y, .int .i64 s.2.2.1.High.X, .int .i64 s.2.2.1.High.Y]), (true, .vec .int s.2.2.2.2.1)])
  get := fun v h => match v, h with
    | [.fn 118 (some 2), .vec 3, .vec 0, .int .i64 n, .int .i64 i], [(false, .vec .body xs), (false, .vec .pair ps), (true, .box [.int .i64 qLX, .int .i64 qLY, .int .i64 qHX, .int .i64 qHY]), (true, .vec .int out)] => some (xs, ps, (Box.mk (Vec.mk qLX qLY) (Vec.mk qHX qHY)), (), out, (), n, i)
    | _, _ => none
  inv := fun s0 s => Holds (s.1 = s0.1 ∧ s.2.1 = s0.2.1 ∧ s.2.2.1 = s0.2.2.1 ∧ s.2.2.2.2.2.2.1 = s0.1.length ∧ 0 ≤ s.2.2.2.2.2.2.2 ∧ s.2.2.2.2.2.2.2 ≤ s0.1.length ∧ s.2.2.2.2.1 ++ idsF (inB s0.2.2.1) (s0.1.drop s.2.2.2.2.2.2.2.toNat) = idsF (inB s0.2.2.1) s0.1)
  mu := fun s => ((s.1.length : Int) - s.2.2.2.2.2.2.2).toNat
  ok := by
    intro v h s hg
    try dsimp only at hg
    split at hg <;> cases hg
    rfl

def L_idsIn : Loops := fun n => match n with
  | 3 => some LSidsIn
  | _ => none
noncomputable def fs_idsIn : Fs := ⟨[], fun args H => match args, H with
  | [.agg [.int .i64 t, .int .i64 p, .vec 0, .vec 1], .fn 118 (some 2)], [(false, .vec .body xs), (false, .vec .pair ps), (true, .box [.int .i64 qA, .int .i64 qB, .int .i64 qC, .int .i64 qD])] => some ((some (xs.length ≤ 1048576)), .vec 3, [(false, .vec .body xs), (false, .vec .pair ps), (true, .box [.int .i64 qA, .int .i64 qB, .int .i64 qC, .int .i64 qD]), (true, .vec .int (idsF (inB ⟨⟨qA, qB⟩, ⟨qC, qD⟩⟩) xs))])
  | _, _ => none⟩

theorem vc_idsIn (t : Int) (p : Int) (xs : List Body) (ps : List Pair) (qA : Int) (qB : Int) (qC : Int) (qD : Int) (Q : SV → List Ent → Prop) :
    fnVC tt (look [(118, fs_holdsIn)]) (L_idsIn) Tryz.f117 [.agg [.int .i64 t, .int .i64 p, .vec 0, .vec 1], .fn 118 (some 2)] [(false, .vec .body xs), (false, .vec .pair ps), (true, .box [.int .i64 qA, .int .i64 qB, .int .i64 qC, .int .i64 qD])] Q =
    (let w_ := IntKind.wrap IntKind.i64; let s_ := SV.int IntKind.i64; let n_ := Int.toNat; Holds (xs = xs ∧ ps = ps ∧ Box.mk (Vec.mk qA qB) (Vec.mk qC qD) = Box.mk (Vec.mk qA qB) (Vec.mk qC qD) ∧ (↑(List.length xs) : Int) = (↑(List.length xs) : Int) ∧ (0 : Int) ≤ (0 : Int) ∧ (0 : Int) ≤ (↑(List.length xs) : Int) ∧ [] ++ idsF (inB (Box.mk (Vec.mk qA qB) (Vec.mk qC qD))) (List.drop (n_ (0 : Int)) xs) = idsF (inB (Box.mk (Vec.mk qA qB) (Vec.mk qC qD))) xs) ∧ ∀ (y1 : List Body × List Pair × Box × Unit × List Int × Unit × Int × Int), let y1f0_ := Prod.fst y1; let y1s1_ := Prod.snd y1; let y1f1_ := Prod.fst (Prod.snd y1); let y1f2_ := Prod.fst (Prod.snd (Prod.snd y1)); let y1f4_ := Prod.fst (Prod.snd (Prod.snd (Prod.snd (Prod.snd y1)))); let y1s6_ := Prod.snd (Prod.snd (Prod.snd (Prod.snd (Prod.snd (Prod.snd y1))))); let y1f6_ := Prod.fst (Prod.snd (Prod.snd (Prod.snd (Prod.snd (Prod.snd (Prod.snd y1)))))); let y1s7_ := Prod.snd (Prod.snd (Prod.snd (Prod.snd (Prod.snd (Prod.snd (Prod.snd y1)))))); let A6_ := (↑(List.length y1f0_) : Int); let A5_ := (Ty.ix Ty.body y1f0_ (n_ y1s7_)); let A4_ := (↑(List.length xs) : Int); let A3_ := (Prod.snd y1s6_ + (1 : Int)); let A2_ := (inB (Box.mk (Vec.mk qA qB) (Vec.mk qC qD))); Holds (Prod.fst y1 = xs ∧ y1f1_ = ps ∧ y1f2_ = Box.mk (Vec.mk qA qB) (Vec.mk qC qD) ∧ y1f6_ = A4_ ∧ (0 : Int) ≤ y1s7_ ∧ y1s7_ ≤ A4_ ∧ y1f4_ ++ idsF A2_ (List.drop (n_ y1s7_) xs) = idsF A2_ xs) → ifB (decide (Prod.snd y1s6_ < y1f6_)) (((0 : Int) ≤ y1s7_ ∧ y1s7_ < A6_) ∧ ifB (boxMeets (bounds (Body.Shape A5_) (Body.At A5_)) y1f2_) ((List.length y1f4_ + List.length [Body.Id A5_]) * (8 : Nat) ≤ room ∧ Holds (Prod.fst y1 = xs ∧ y1f1_ = ps ∧ y1f2_ = Box.mk (Vec.mk qA qB) (Vec.mk qC qD) ∧ y1f6_ = A4_ ∧ (0 : Int) ≤ w_ A3_ ∧ w_ A3_ ≤ A4_ ∧ y1f4_ ++ [Body.Id A5_] ++ idsF A2_ (List.drop (n_ (w_ A3_)) xs) = idsF A2_ xs) ∧ n_ (A6_ - w_ A3_) < n_ (A6_ - y1s7_)) (Holds (Prod.fst y1 = xs ∧ y1f1_ = ps ∧ y1f2_ = Box.mk (Vec.mk qA qB) (Vec.mk qC qD) ∧ y1f6_ = A4_ ∧ (0 : Int) ≤ w_ A3_ ∧ w_ A3_ ≤ A4_ ∧ y1f4_ ++ idsF A2_ (List.drop (n_ (w_ A3_)) xs) = idsF A2_ xs) ∧ n_ (A6_ - w_ A3_) < n_ (A6_ - y1s7_))) (Q (SV.vec (3 : Nat)) [(false, Blk.vec Ty.body y1f0_), (false, Blk.vec Ty.pair y1f1_), (true, Blk.box [s_ (Vec.X (Box.Low y1f2_)), s_ (Vec.Y (Box.Low y1f2_)), s_ (Vec.X (Box.High y1f2_)), s_ (Vec.Y (Box.High y1f2_))]), (true, Blk.vec Ty.int y1f4_)])) := by kernel_rfl

theorem ok_idsIn : FsOk Tryz.prog 117 fs_idsIn := fsOk_of tt_ok (tabFs_cons ok_holdsIn tabFs_nil) mixed Tryz.func117 (by kernel_rfl) (by kernel_rfl) (by
    intro args LL p r HH h hp
    unfold fs_idsIn at h
    dsimp only at h
    split at h
    case h_2 => cases h
    rename_i t p xs ps qA qB qC qD
    simp only [Option.some.injEq, Prod.mk.injEq] at h
    obtain ⟨rfl, rfl, rfl⟩ := h
    refine ⟨by simp [Form, stays], (L_idsIn), ?_⟩
    rw [vc_idsIn]
    try dsimp only
    have hb := hp _ rfl
    refine ⟨⟨(by trivial), (by trivial), (by trivial), (by trivial), by omega, by omega, (by trivial)⟩, ?_⟩
    rintro ⟨xs', ps', q, f, out, u, n, i⟩ ⟨h⟩
    dsimp only at h ⊢
    obtain ⟨rfl, rfl, rfl, rfl, i0, i1, i2⟩ := h
    have hs := length_idsF (inB ⟨⟨qA, qB⟩, ⟨qC, qD⟩⟩) xs'
    have hs2 := congrArg List.length i2
    rw [List.length_append] at hs2
    refine ifB_of (fun c => ?_) (fun c => ?_)
    · have c := of_decide_eq_true c
      have e1 : (i + 1).toNat = i.toNat + 1 := by omega
      have w : IntKind.i64.wrap (i + 1) = i + 1 := wrap_small (by omega) (by omega)
      rw [idsF_drop (show i.toNat < xs'.length by omega)] at i2
      rw [w, e1]
      refine ⟨⟨i0, c⟩, ifB_of (fun c2 => ?_) (fun c2 => ?_)⟩
      · rw [show inB ⟨⟨qA, qB⟩, ⟨qC, qD⟩⟩ (Ty.ix .body xs' i.toNat) = true from c2] at i2
        refine ⟨by simp only [room, List.length_singleton]; omega, ⟨(by trivial), (by trivial), (by trivial), (by trivial), by omega, by omega, ?_⟩, by omega⟩
        rw [← i2, List.append_assoc]
        rfl
      · rw [show inB ⟨⟨qA, qB⟩, ⟨qC, qD⟩⟩ (Ty.ix .body xs' i.toNat) = false from c2] at i2
        exact ⟨⟨(by trivial), (by trivial), (by trivial), (by trivial), by omega, by omega, i2⟩, by omega⟩
    · have c := of_decide_eq_false c
      rw [drop_end (by omega)] at i2
      rw [← i2]
      simp [idsF])

def worldIn (t p : Int) (xs : List Body) (ps : List Pair) (q : Box) : List Int := bif worldOk t p xs ps && boxOk q then idsF (inB q) xs else []
theorem length_worldIn (t p : Int) (xs : List Body) (ps : List Pair) (q : Box) : (worldIn t p xs ps q).length ≤ xs.length := by
  unfold worldIn
  have := length_idsF (inB q) xs
  cases worldOk t p xs ps && boxOk q with
  | true => exact this
  | false => simp
noncomputable def fs_implWorldIn : Fs := ⟨[], fun args H => match args, H with
  | [.agg [.int .i64 t, .int .i64 p, .vec 0, .vec 1], .agg [.int .i64 qA, .int .i64 qB, .int .i64 qC, .int .i64 qD]], [(false, .vec .body xs), (false, .vec .pair ps)] => some ((some (xs.length ≤ 1048576 ∧ ps.length ≤ 1048576)), .vec 2, [(false, .vec .body xs), (false, .vec .pair ps), (true, .vec .int (worldIn t p xs ps ⟨⟨qA, qB⟩, ⟨qC, qD⟩⟩))])
  | _, _ => none⟩

theorem vc_implWorldIn (t : Int) (p : Int) (xs : List Body) (ps : List Pair) (qA : Int) (qB : Int) (qC : Int) (qD : Int) (Q : SV → List Ent → Prop) :
    fnVC tt (look [(73, fs_implWorldOk), (116, fs_implBoxOk), (117, fs_idsIn)]) L0 Tryz.f43 [.agg [.int .i64 t, .int .i64 p, .vec 0, .vec 1], .agg [.int .i64 qA, .int .i64 qB, .int .i64 qC, .int .i64 qD]] [(false, .vec .body xs), (false, .vec .pair ps)] Q =
    ((List.length xs ≤ (1048576 : Nat) ∧ List.length ps ≤ (1048576 : Nat)) ∧ ifB (!worldOk t p xs ps) (Q (SV.vec (2 : Nat)) [(false, Blk.vec Ty.body xs), (false, Blk.vec Ty.pair ps), (true, Blk.vec Ty.int [])]) (ifB (!boxOk (Box.mk (Vec.mk qA qB) (Vec.mk qC qD))) (Q (SV.vec (2 : Nat)) [(false, Blk.vec Ty.body xs), (false, Blk.vec Ty.pair ps), (true, Blk.vec Ty.int [])]) (List.length xs ≤ (1048576 : Nat) ∧ Q (SV.vec (2 : Nat)) [(false, Blk.vec Ty.body xs), (false, Blk.vec Ty.pair ps), (true, Blk.vec Ty.int (idsF (inB (Box.mk (Vec.mk qA qB) (Vec.mk qC qD))) xs))]))) := by kernel_rfl

theorem ok_implWorldIn : FsOk Tryz.prog 43 fs_implWorldIn := fsOk_of tt_ok (tabFs_cons ok_implWorldOk (tabFs_cons ok_implBoxOk (tabFs_cons ok_idsIn tabFs_nil))) mixed Tryz.func43 (by kernel_rfl) (by kernel_rfl) (by
    intro args LL p r HH h hp
    unfold fs_implWorldIn at h
    dsimp only at h
    split at h
    case h_2 => cases h
    rename_i t p qA qB qC qD xs ps
    simp only [Option.some.injEq, Prod.mk.injEq] at h
    obtain ⟨rfl, rfl, rfl⟩ := h
    refine ⟨by simp [Form, stays], L0, ?_⟩
    rw [vc_implWorldIn]
    try dsimp only
    obtain ⟨hb, hb2⟩ := hp _ rfl
    refine ⟨⟨hb, hb2⟩, ifB_of (fun c => ?_) (fun c => ifB_of (fun c2 => ?_) (fun c2 => ⟨hb, ?_⟩))⟩
    · simp [worldIn, not_true c]
    · simp [worldIn, not_true c2]
    · rw [idsIn_same (not_false c) (not_false c2)]
      simp [worldIn, not_false c, not_false c2])

def LSspecIn  : LS where
  S := List Body × List Pair × (Int × Int) × Box × List Int × Int
  live := [(2, [none]), (3, [none]), (5, [some .int]), (6, [none])]
  shape := fun s => ([.ptr 2 0 0, .ptr 3 0 0, .vec 4, .int .i64 s.2.2.2.2.2], [(false, .vec .body s.1), (false, .vec .pair s.2.1), (true, .box [.int .i64 s.2.2.1.1, .int .i64 s.2.2.1.2, .vec 0, .vec 1]), (true, .box [.int .i64 s.2.2.2.1.Low.X, .int .i64 s.2.2.2.1.Low.Y, .int .i64 s.2.2.2.1.High.X, .int .i64 s.2.2.2.1.High.Y]), (true, .vec .int s.2.2.2.2.1)])
  get := fun v h => match v, h with
    | [.ptr 2 0 0, .ptr 3 0 0, .vec 4, .int .i64 i], [(false, .vec .body xs), (false, .vec .pair ps), (true, .box [.int .i64 w_0, .int .i64 w_1, .vec 0, .vec 1]), (true, .box [.int .i64 qLX, .int .i64 qLY, .int .i64 qHX, .int .i64 qHY]), (true, .vec .int out)] => some (xs, ps, (w_0, w_1), (Box.mk (Vec.mk qLX qLY) (Vec.mk qHX qHY)), out, i)
    | _, _ => none
  inv := fun s0 s => Holds (s.1 = s0.1 ∧ s.2.1 = s0.2.1 ∧ s.2.2.1 = s0.2.2.1 ∧ s.2.2.2.1 = s0.2.2.2.1 ∧ 0 ≤ s.2.2.2.2.2 ∧ s.2.2.2.2.2 ≤ s0.1.length ∧ s.2.2.2.2.1 ++ idsF (inB s0.2.2.2.1) (s0.1.drop s.2.2.2.2.2.toNat) = idsF (inB s0.2.2.2.1) s0.1)
  mu := fun s => ((s.1.length : Int) - s.2.2.2.2.2).toNat
  ok := by
    intro v h s hg
    try dsimp only at hg
    split at hg <;> cases hg
    rfl

def L_specIn : Loops := fun n => match n with
  | 5 => some LSspecIn
  | _ => none
noncomputable def fs_specWorldIn : Fs := ⟨[], fun args H => match args, H with
  | [.agg [.int .i64 t, .int .i64 p, .vec 0, .vec 1], .agg [.int .i64 qA, .int .i64 qB, .int .i64 qC, .int .i64 qD]], [(false, .vec .body xs), (false, .vec .pair ps)] => some ((some (xs.length ≤ 1048576 ∧ ps.length ≤ 1048576)), .vec 2, [(false, .vec .body xs), (false, .vec .pair ps), (true, .vec .int (worldIn t p xs ps ⟨⟨qA, qB⟩, ⟨qC, qD⟩⟩))])
  | _, _ => none⟩

theorem vc_specWorldIn (t : Int) (p : Int) (xs : List Body) (ps : List Pair) (qA : Int) (qB : Int) (qC : Int) (qD : Int) (Q : SV → List Ent → Prop) :
    fnVC tt (look [(46, fs_specWorldOk), (47, fs_specBoxOk), (122, fs_l3Bounds), (121, fs_l3Meets)]) (L_specIn) Tryz.f45 [.agg [.int .i64 t, .int .i64 p, .vec 0, .vec 1], .agg [.int .i64 qA, .int .i64 qB, .int .i64 qC, .int .i64 qD]] [(false, .vec .body xs), (false, .vec .pair ps)] Q =
    (let w_ := IntKind.wrap IntKind.i64; let n_ := Int.toNat; (List.length xs ≤ (1048576 : Nat) ∧ List.length ps ≤ (1048576 : Nat)) ∧ ifB (!worldOk t p xs ps) (Q (SV.vec (2 : Nat)) [(false, Blk.vec Ty.body xs), (false, Blk.vec Ty.pair ps), (true, Blk.vec Ty.int [])]) (ifB (!boxOk (Box.mk (Vec.mk qA qB) (Vec.mk qC qD))) (Q (SV.vec (2 : Nat)) [(false, Blk.vec Ty.body xs), (false, Blk.vec Ty.pair ps), (true, Blk.vec Ty.int [])]) (Holds (xs = xs ∧ ps = ps ∧ (t, p) = (t, p) ∧ Box.mk (Vec.mk qA qB) (Vec.mk qC qD) = Box.mk (Vec.mk qA qB) (Vec.mk qC qD) ∧ (0 : Int) ≤ (0 : Int) ∧ (0 : Int) ≤ (↑(List.length xs) : Int) ∧ [] ++ idsF (inB (Box.mk (Vec.mk qA qB) (Vec.mk qC qD))) (List.drop (n_ (0 : Int)) xs) = idsF (inB (Box.mk (Vec.mk qA qB) (Vec.mk qC qD))) xs) ∧ ∀ (y1 : List Body × List Pair × (Int × Int) × Box × List Int × Int), let y1f0_ := Prod.fst y1; let y1s1_ := Prod.snd y1; let y1f1_ := Prod.fst (Prod.snd y1); let y1f2_ := Prod.fst (Prod.snd (Prod.snd y1)); let y1f3_ := Prod.fst (Prod.snd (Prod.snd (Prod.snd y1))); let y1s4_ := Prod.snd (Prod.snd (Prod.snd (Prod.snd y1))); let y1f4_ := Prod.fst (Prod.snd (Prod.snd (Prod.snd (Prod.snd y1)))); let y1s5_ := Prod.snd (Prod.snd (Prod.snd (Prod.snd (Prod.snd y1)))); let A5_ := (Ty.ix Ty.body y1f0_ (n_ y1s5_)); let A4_ := (Prod.snd y1s4_ + (1 : Int)); let A3_ := (↑(List.length y1f0_) : Int); let A2_ := (inB (Box.mk (Vec.mk qA qB) (Vec.mk qC qD))); Holds (Prod.fst y1 = xs ∧ y1f1_ = ps ∧ y1f2_ = (t, p) ∧ y1f3_ = Box.mk (Vec.mk qA qB) (Vec.mk qC qD) ∧ (0 : Int) ≤ y1s5_ ∧ y1s5_ ≤ (↑(List.length xs) : Int) ∧ y1f4_ ++ idsF A2_ (List.drop (n_ y1s5_) xs) = idsF A2_ xs) → ifB (decide (Prod.snd y1s4_ < A3_)) (((0 : Int) ≤ y1s5_ ∧ y1s5_ < A3_) ∧ ((0 : Int) ≤ y1s5_ ∧ y1s5_ < A3_) ∧ ifB (boxMeets (bounds (Body.Shape A5_) (Body.At A5_)) y1f3_) (((0 : Int) ≤ y1s5_ ∧ y1s5_ < A3_) ∧ (List.length y1f4_ + List.length [Body.Id A5_]) * (8 : Nat) ≤ room ∧ Holds (Prod.fst y1 = xs ∧ y1f1_ = ps ∧ y1f2_ = (t, p) ∧ y1f3_ = Box.mk (Vec.mk qA qB) (Vec.mk qC qD) ∧ (0 : Int) ≤ w_ A4_ ∧ w_ A4_ ≤ (↑(List.length xs) : Int) ∧ y1f4_ ++ [Body.Id A5_] ++ idsF A2_ (List.drop (n_ (w_ A4_)) xs) = idsF A2_ xs) ∧ n_ (A3_ - w_ A4_) < n_ (A3_ - y1s5_)) (Holds (Prod.fst y1 = xs ∧ y1f1_ = ps ∧ y1f2_ = (t, p) ∧ y1f3_ = Box.mk (Vec.mk qA qB) (Vec.mk qC qD) ∧ (0 : Int) ≤ w_ A4_ ∧ w_ A4_ ≤ (↑(List.length xs) : Int) ∧ y1f4_ ++ idsF A2_ (List.drop (n_ (w_ A4_)) xs) = idsF A2_ xs) ∧ n_ (A3_ - w_ A4_) < n_ (A3_ - y1s5_))) (Q (SV.vec (2 : Nat)) [(false, Blk.vec Ty.body y1f0_), (false, Blk.vec Ty.pair y1f1_), (true, Blk.vec Ty.int y1f4_)])))) := by kernel_rfl

theorem ok_specWorldIn : FsOk Tryz.prog 45 fs_specWorldIn := fsOk_of tt_ok (tabFs_cons ok_specWorldOk (tabFs_cons ok_specBoxOk (tabFs_cons ok_l3Bounds (tabFs_cons ok_l3Meets tabFs_nil)))) mixed Tryz.func45 (by kernel_rfl) (by kernel_rfl) (by
    intro args LL p r HH h hp
    unfold fs_specWorldIn at h
    dsimp only at h
    split at h
    case h_2 => cases h
    rename_i t p qA qB qC qD xs ps
    simp only [Option.some.injEq, Prod.mk.injEq] at h
    obtain ⟨rfl, rfl, rfl⟩ := h
    refine ⟨by simp [Form, stays], (L_specIn), ?_⟩
    rw [vc_specWorldIn]
    try dsimp only
    obtain ⟨hb, hb2⟩ := hp _ rfl
    refine ⟨⟨hb, hb2⟩, ifB_of (fun c => ?_) (fun c => ifB_of (fun c2 => ?_) (fun c2 => ?_))⟩
    · simp [worldIn, not_true c]
    · simp [worldIn, not_true c2]
    have e : worldIn t p xs ps ⟨⟨qA, qB⟩, ⟨qC, qD⟩⟩ = idsF (inB ⟨⟨qA, qB⟩, ⟨qC, qD⟩⟩) xs := by simp [worldIn, not_false c, not_false c2]
    rw [e]
    refine ⟨⟨(by trivial), (by trivial), (by trivial), (by trivial), by omega, by omega, (by trivial)⟩, ?_⟩
    rintro ⟨xs', ps', w, q, out, i⟩ ⟨h⟩
    dsimp only at h ⊢
    obtain ⟨rfl, rfl, rfl, rfl, i0, i1, i2⟩ := h
    have hs := length_idsF (inB ⟨⟨qA, qB⟩, ⟨qC, qD⟩⟩) xs'
    have hs2 := congrArg List.length i2
    rw [List.length_append] at hs2
    refine ifB_of (fun c3 => ?_) (fun c3 => ?_)
    · have c3 := of_decide_eq_true c3
      have e1 : (i + 1).toNat = i.toNat + 1 := by omega
      have w : IntKind.i64.wrap (i + 1) = i + 1 := wrap_small (by omega) (by omega)
      rw [idsF_drop (show i.toNat < xs'.length by omega)] at i2
      rw [w, e1]
      refine ⟨⟨i0, c3⟩, ⟨i0, c3⟩, ifB_of (fun c4 => ?_) (fun c4 => ?_)⟩
      · rw [show inB ⟨⟨qA, qB⟩, ⟨qC, qD⟩⟩ (Ty.ix .body xs' i.toNat) = true from c4] at i2
        refine ⟨⟨i0, c3⟩, by simp only [room, List.length_singleton]; omega, ⟨(by trivial), (by trivial), (by trivial), (by trivial), by omega, by omega, ?_⟩, by omega⟩
        rw [← i2, List.append_assoc]
        rfl
      · rw [show inB ⟨⟨qA, qB⟩, ⟨qC, qD⟩⟩ (Ty.ix .body xs' i.toNat) = false from c4] at i2
        exact ⟨⟨(by trivial), (by trivial), (by trivial), (by trivial), by omega, by omega, i2⟩, by omega⟩
    · have c3 := of_decide_eq_false c3
      rw [drop_end (by omega)] at i2
      rw [← i2]
      simp [idsF])

end Go.Proofs.YtdhbkcaaijgocaaGreat.Sym

namespace Go.Proofs.YtdhbkcaaijgocaaGreat.Sym
open Go
set_option linter.unusedVariables false
set_option linter.unusedSimpArgs false
set_option maxRecDepth 100000

def rayStep (r : Ray) (a : Int × Int) (b : Body) : Int × Int := bif (rayShape r b.Shape b.At).2 && (decide (a.1 < 0) || decide ((rayShape r b.Shape b.At).1 < a.2)) then (b.Id, (rayShape r b.Shape b.At).1) else a
def worldRay (t p : Int) (xs : List Body) (ps : List Pair) (r : Ray) : Int × Int := bif worldOk t p xs ps && rayOk r then xs.foldl (rayStep r) (-1, 0) else (-1, 0)
theorem rayStep_bad {r : Ray} (h : rayOk r = false) : ∀ (xs : List Body) (a : Int × Int), xs.foldl (rayStep r) a = a
  | [], a => rfl
  | b :: xs, a => by
    have e : rayStep r a b = a := by
      have : rayShape r b.Shape b.At = (0, false) := by simp [rayShape, h]
      unfold rayStep
      rw [this]
      rfl
    rw [List.foldl_cons, e]
    exact rayStep_bad h xs a
theorem foldl_drop {xs : List Body} {i : Nat} (h : i < xs.length) (r : Ray) (a : Int × Int) : (xs.drop i).foldl (rayStep r) a = (xs.drop (i + 1)).foldl (rayStep r) (rayStep r a (Ty.ix .body xs i)) := by
  rw [drop_ix (T := .body) h]
  rfl
def LSsray  : LS where
  S := List Body × List Pair × (Int × Int) × Ray × Int × Int × Int
  live := [(2, [none]), (3, [none]), (6, [none]), (7, [none]), (8, [none])]
  shape := fun s => ([.ptr 2 0 0, .ptr 3 0 0, .int .i64 s.2.2.2.2.1, .int .i64 s.2.2.2.2.2.1, .int .i64 s.2.2.2.2.2.2], [(false, .vec .body s.1), (false, .vec .pair s.2.1), (true, .box [.int .i64 s.2.2.1.1, .int .i64 s.2.2.1.2, .vec 0, .vec 1]), (true, .box [.int .i64 s.2.2.2.1.From.X, .int .i64 s.2.2.2.1.From.Y, .int .i64 s.2.2.2.1.Way.X, .int .i64 s.2.2.2.1.Way.Y])])
  get := fun v h => match v, h with
    | [.ptr 2 0 0, .ptr 3 0 0, .int .i64 id, .int .i64 far, .int .i64 i], [(false, .vec .body xs), (false, .vec .pair ps), (true, .box [.int .i64 w_0, .int .i64 w_1, .vec 0, .vec 1]), (true, .box [.int .i64 rFX, .int .i64 rFY, .int .i64 rWX, .int .i64 rWY])] => some (xs, ps, (w_0, w_1), (Ray.mk (Vec.mk rFX rFY) (Vec.mk rWX rWY)), id, far, i)
    | _, _ => none
  inv := fun s0 s => Holds (s.1 = s0.1 ∧ s.2.1 = s0.2.1 ∧ s.2.2.1 = s0.2.2.1 ∧ s.2.2.2.1 = s0.2.2.2.1 ∧ 0 ≤ s.2.2.2.2.2.2 ∧ s.2.2.2.2.2.2 ≤ s0.1.length ∧ (s0.1.drop s.2.2.2.2.2.2.toNat).foldl (rayStep s0.2.2.2.1) (s.2.2.2.2.1, s.2.2.2.2.2.1) = s0.1.foldl (rayStep s0.2.2.2.1) (-1, 0))
  mu := fun s => ((s.1.length : Int) - s.2.2.2.2.2.2).toNat
  ok := by
    intro v h s hg
    try dsimp only at hg
    split at hg <;> cases hg
    rfl

def L_sray : Loops := fun n => match n with
  | 6 => some LSsray
  | _ => none
noncomputable def fs_specWorldRay : Fs := ⟨[], fun args H => match args, H with
  | [.agg [.int .i64 t, .int .i64 p, .vec 0, .vec 1], .agg [.int .i64 rA, .int .i64 rB, .int .i64 rC, .int .i64 rD]], [(false, .vec .body xs), (false, .vec .pair ps)] => some ((some (xs.length ≤ 1048576 ∧ ps.length ≤ 1048576)), .tup [.int .i64 (worldRay t p xs ps ⟨⟨rA, rB⟩, ⟨rC, rD⟩⟩).1, .int .i64 (worldRay t p xs ps ⟨⟨rA, rB⟩, ⟨rC, rD⟩⟩).2], [(false, .vec .body xs), (false, .vec .pair ps)])
  | _, _ => none⟩

theorem vc_specWorldRay (t : Int) (p : Int) (xs : List Body) (ps : List Pair) (rA : Int) (rB : Int) (rC : Int) (rD : Int) (Q : SV → List Ent → Prop) :
    fnVC tt (look [(46, fs_specWorldOk), (147, fs_specRayOk), (148, fs_specRayShape)]) (L_sray) Tryz.f66 [.agg [.int .i64 t, .int .i64 p, .vec 0, .vec 1], .agg [.int .i64 rA, .int .i64 rB, .int .i64 rC, .int .i64 rD]] [(false, .vec .body xs), (false, .vec .pair ps)] Q =
    (let w_ := IntKind.wrap IntKind.i64; let s_ := SV.int IntKind.i64; let n_ := Int.toNat; (List.length xs ≤ (1048576 : Nat) ∧ List.length ps ≤ (1048576 : Nat)) ∧ ifB (!worldOk t p xs ps) (Q (SV.tup [s_ (-1 : Int), s_ (0 : Int)]) [(false, Blk.vec Ty.body xs), (false, Blk.vec Ty.pair ps)]) (ifB (!rayOk (Ray.mk (Vec.mk rA rB) (Vec.mk rC rD))) (Q (SV.tup [s_ (-1 : Int), s_ (0 : Int)]) [(false, Blk.vec Ty.body xs), (false, Blk.vec Ty.pair ps)]) (Holds (xs = xs ∧ ps = ps ∧ (t, p) = (t, p) ∧ Ray.mk (Vec.mk rA rB) (Vec.mk rC rD) = Ray.mk (Vec.mk rA rB) (Vec.mk rC rD) ∧ (0 : Int) ≤ (0 : Int) ∧ (0 : Int) ≤ (↑(List.length xs) : Int) ∧ List.foldl (rayStep (Ray.mk (Vec.mk rA rB) (Vec.mk rC rD))) ((-1 : Int), (0 : Int)) (List.drop (n_ (0 : Int)) xs) = List.foldl (rayStep (Ray.mk (Vec.mk rA rB) (Vec.mk rC rD))) ((-1 : Int), (0 : Int)) xs) ∧ ∀ (y1 : List Body × List Pair × (Int × Int) × Ray × Int × Int × Int), let y1f0_ := Prod.fst y1; let y1s1_ := Prod.snd y1; let y1f1_ := Prod.fst (Prod.snd y1); let y1f2_ := Prod.fst (Prod.snd (Prod.snd y1)); let y1f3_ := Prod.fst (Prod.snd (Prod.snd (Prod.snd y1))); let y1s4_ := Prod.snd (Prod.snd (Prod.snd (Prod.snd y1))); let y1f4_ := Prod.fst (Prod.snd (Prod.snd (Prod.snd (Prod.snd y1)))); let y1s5_ := Prod.snd (Prod.snd (Prod.snd (Prod.snd (Prod.snd y1)))); let y1f5_ := Prod.fst (Prod.snd (Prod.snd (Prod.snd (Prod.snd (Prod.snd y1))))); let y1s6_ := Prod.snd (Prod.snd (Prod.snd (Prod.snd (Prod.snd (Prod.snd y1))))); let A7_ := (Ty.ix Ty.body y1f0_ (n_ y1s6_)); let A5_ := (↑(List.length y1f0_) : Int); let A4_ := (rayShape y1f3_ (Body.Shape A7_) (Body.At A7_)); let A3_ := (Prod.snd y1s5_ + (1 : Int)); let A8_ := (A5_ - w_ A3_); let A6_ := (List.drop (n_ (w_ A3_)) xs); let A2_ := (rayStep (Ray.mk (Vec.mk rA rB) (Vec.mk rC rD))); Holds (Prod.fst y1 = xs ∧ y1f1_ = ps ∧ y1f2_ = (t, p) ∧ y1f3_ = Ray.mk (Vec.mk rA rB) (Vec.mk rC rD) ∧ (0 : Int) ≤ y1s6_ ∧ y1s6_ ≤ (↑(List.length xs) : Int) ∧ List.foldl A2_ (Prod.fst y1s4_, y1f5_) (List.drop (n_ y1s6_) xs) = List.foldl A2_ ((-1 : Int), (0 : Int)) xs) → ifB (decide (Prod.snd y1s5_ < A5_)) (((0 : Int) ≤ y1s6_ ∧ y1s6_ < A5_) ∧ ((0 : Int) ≤ y1s6_ ∧ y1s6_ < A5_) ∧ ifB (Prod.snd A4_) (ifB (decide (Prod.fst y1s4_ < (0 : Int))) (((0 : Int) ≤ y1s6_ ∧ y1s6_ < A5_) ∧ Holds (Prod.fst y1 = xs ∧ y1f1_ = ps ∧ y1f2_ = (t, p) ∧ y1f3_ = Ray.mk (Vec.mk rA rB) (Vec.mk rC rD) ∧ (0 : Int) ≤ w_ A3_ ∧ w_ A3_ ≤ (↑(List.length xs) : Int) ∧ List.foldl A2_ (Body.Id A7_, Prod.fst A4_) A6_ = List.foldl A2_ ((-1 : Int), (0 : Int)) xs) ∧ n_ A8_ < n_ (A5_ - y1s6_)) (ifB (decide (Prod.fst A4_ < y1f5_)) (((0 : Int) ≤ y1s6_ ∧ y1s6_ < A5_) ∧ Holds (Prod.fst y1 = xs ∧ y1f1_ = ps ∧ y1f2_ = (t, p) ∧ y1f3_ = Ray.mk (Vec.mk rA rB) (Vec.mk rC rD) ∧ (0 : Int) ≤ w_ A3_ ∧ w_ A3_ ≤ (↑(List.length xs) : Int) ∧ List.foldl A2_ (Body.Id A7_, Prod.fst A4_) A6_ = List.foldl A2_ ((-1 : Int), (0 : Int)) xs) ∧ n_ A8_ < n_ (A5_ - y1s6_)) (Holds (Prod.fst y1 = xs ∧ y1f1_ = ps ∧ y1f2_ = (t, p) ∧ y1f3_ = Ray.mk (Vec.mk rA rB) (Vec.mk rC rD) ∧ (0 : Int) ≤ w_ A3_ ∧ w_ A3_ ≤ (↑(List.length xs) : Int) ∧ List.foldl A2_ (Prod.fst y1s4_, y1f5_) A6_ = List.foldl A2_ ((-1 : Int), (0 : Int)) xs) ∧ n_ A8_ < n_ (A5_ - y1s6_)))) (Holds (Prod.fst y1 = xs ∧ y1f1_ = ps ∧ y1f2_ = (t, p) ∧ y1f3_ = Ray.mk (Vec.mk rA rB) (Vec.mk rC rD) ∧ (0 : Int) ≤ w_ A3_ ∧ w_ A3_ ≤ (↑(List.length xs) : Int) ∧ List.foldl A2_ (Prod.fst y1s4_, y1f5_) A6_ = List.foldl A2_ ((-1 : Int), (0 : Int)) xs) ∧ n_ A8_ < n_ (A5_ - y1s6_))) (Q (SV.tup [s_ y1f4_, s_ y1f5_]) [(false, Blk.vec Ty.body y1f0_), (false, Blk.vec Ty.pair y1f1_)])))) := by kernel_rfl

theorem ok_specWorldRay : FsOk Tryz.prog 66 fs_specWorldRay := fsOk_of tt_ok (tabFs_cons ok_specWorldOk (tabFs_cons ok_specRayOk (tabFs_cons ok_specRayShape tabFs_nil))) mixed Tryz.func66 (by kernel_rfl) (by kernel_rfl) (by
    intro args LL p r HH h hp
    unfold fs_specWorldRay at h
    dsimp only at h
    split at h
    case h_2 => cases h
    rename_i t p rA rB rC rD xs ps
    simp only [Option.some.injEq, Prod.mk.injEq] at h
    obtain ⟨rfl, rfl, rfl⟩ := h
    refine ⟨by simp [Form, stays], (L_sray), ?_⟩
    rw [vc_specWorldRay]
    try dsimp only
    obtain ⟨hb, hb2⟩ := hp _ rfl
    refine ⟨⟨hb, hb2⟩, ifB_of (fun c => ?_) (fun c => ifB_of (fun c2 => ?_) (fun c2 => ?_))⟩
    · simp [worldRay, not_true c]
    · simp [worldRay, not_true c2]
    have e : worldRay t p xs ps ⟨⟨rA, rB⟩, ⟨rC, rD⟩⟩ = xs.foldl (rayStep ⟨⟨rA, rB⟩, ⟨rC, rD⟩⟩) (-1, 0) := by simp [worldRay, not_false c, not_false c2]
    rw [e]
    refine ⟨⟨(by trivial), (by trivial), (by trivial), (by trivial), by omega, by omega, (by trivial)⟩, ?_⟩
    rintro ⟨xs', ps', w, q, id, far, i⟩ ⟨h⟩
    dsimp only at h ⊢
    obtain ⟨rfl, rfl, rfl, rfl, i0, i1, i2⟩ := h
    refine ifB_of (fun c3 => ?_) (fun c3 => ?_)
    · have c3 := of_decide_eq_true c3
      have e1 : (i + 1).toNat = i.toNat + 1 := by omega
      have w : IntKind.i64.wrap (i + 1) = i + 1 := wrap_small (by omega) (by omega)
      rw [foldl_drop (show i.toNat < xs'.length by omega)] at i2
      rw [w, e1]
      have fin : ∀ {a b : Int}, rayStep ⟨⟨rA, rB⟩, ⟨rC, rD⟩⟩ (id, far) (Ty.ix .body xs' i.toNat) = (a, b) → (xs'.drop (i.toNat + 1)).foldl (rayStep ⟨⟨rA, rB⟩, ⟨rC, rD⟩⟩) (a, b) = xs'.foldl (rayStep ⟨⟨rA, rB⟩, ⟨rC, rD⟩⟩) (-1, 0) := by
        intro a b q
        rw [← q]
        exact i2
      have def0 : rayStep ⟨⟨rA, rB⟩, ⟨rC, rD⟩⟩ (id, far) (Ty.ix .body xs' i.toNat) = bif (rayShape ⟨⟨rA, rB⟩, ⟨rC, rD⟩⟩ (Ty.ix .body xs' i.toNat).Shape (Ty.ix .body xs' i.toNat).At).2 && (decide (id < 0) || decide ((rayShape ⟨⟨rA, rB⟩, ⟨rC, rD⟩⟩ (Ty.ix .body xs' i.toNat).Shape (Ty.ix .body xs' i.toNat).At).1 < far)) then ((Ty.ix .body xs' i.toNat).Id, (rayShape ⟨⟨rA, rB⟩, ⟨rC, rD⟩⟩ (Ty.ix .body xs' i.toNat).Shape (Ty.ix .body xs' i.toNat).At).1) else (id, far) := rfl
      refine ⟨⟨i0, c3⟩, ⟨i0, c3⟩, ifB_of (fun d1 => ifB_of (fun d2 => ⟨⟨i0, c3⟩, ⟨(by trivial), (by trivial), (by trivial), (by trivial), by omega, by omega, fin ?_⟩, by omega⟩) (fun d2 => ifB_of (fun d3 => ⟨⟨i0, c3⟩, ⟨(by trivial), (by trivial), (by trivial), (by trivial), by omega, by omega, fin ?_⟩, by omega⟩) (fun d3 => ⟨⟨(by trivial), (by trivial), (by trivial), (by trivial), by omega, by omega, fin ?_⟩, by omega⟩))) (fun d1 => ⟨⟨(by trivial), (by trivial), (by trivial), (by trivial), by omega, by omega, fin ?_⟩, by omega⟩)⟩
      · rw [def0, d1, d2]; rfl
      · rw [def0, d1, d2, d3]; rfl
      · rw [def0, d1, d2, d3]; rfl
      · rw [def0, d1]; rfl
    · have c3 := of_decide_eq_false c3
      rw [drop_end (by omega)] at i2
      rw [← i2]
      exact ⟨rfl, rfl⟩)

def LSiray  : LS where
  S := List Body × List Pair × Ray × Int × Int × Unit × Int × Int
  live := [(3, [none]), (6, [none]), (7, [none]), (16, [none]), (17, [none]), (18, [none])]
  shape := fun s => ([.ptr 2 0 0, .int .i64 s.2.2.2.1, .int .i64 s.2.2.2.2.1, .vec 0, .int .i64 s.2.2.2.2.2.2.1, .int .i64 s.2.2.2.2.2.2.2], [(false, .vec .body s.1), (false, .vec .pair s.2.1), (true, .box [.int .i64 s.2.2.1.From.X, .int .i64 s.2.2.1.From.Y, .int .i64 s.2.2.1.Way.X, .int .i64 s.2.2.1.Way.Y])])
  get := fun v h => match v, h with
    | [.ptr 2 0 0, .int .i64 id, .int .i64 far, .vec 0, .int .i64 n, .int .i64 i], [(false, .vec .body xs), (false, .vec .pair ps), (true, .box [.int .i64 rFX, .int .i64 rFY, .int .i64 rWX, .int .i64 rWY])] => some (xs, ps, (Ray.mk (Vec.mk rFX rFY) (Vec.mk rWX rWY)), id, far, (), n, i)
    | _, _ => none
  inv := fun s0 s => Holds (s.1 = s0.1 ∧ s.2.1 = s0.2.1 ∧ s.2.2.1 = s0.2.2.1 ∧ s.2.2.2.2.2.2.1 = s0.1.length ∧ 0 ≤ s.2.2.2.2.2.2.2 ∧ s.2.2.2.2.2.2.2 ≤ s0.1.length ∧ (s0.1.drop s.2.2.2.2.2.2.2.toNat).foldl (rayStep s0.2.2.1) (s.2.2.2.1, s.2.2.2.2.1) = s0.1.foldl (rayStep s0.2.2.1) (-1, 0))
  mu := fun s => ((s.1.length : Int) - s.2.2.2.2.2.2.2).toNat
  ok := by
    intro v h s hg
    try dsimp only at hg
    split at hg <;> cases hg
    rfl

def L_iray : Loops := fun n => match n with
  | 5 => some LSiray
  | _ => none
noncomputable def fs_implWorldRay : Fs := ⟨[], fun args H => match args, H with
  | [.agg [.int .i64 t, .int .i64 p, .vec 0, .vec 1], .agg [.int .i64 rA, .int .i64 rB, .int .i64 rC, .int .i64 rD]], [(false, .vec .body xs), (false, .vec .pair ps)] => some ((some (xs.length ≤ 1048576 ∧ ps.length ≤ 1048576)), .tup [.int .i64 (worldRay t p xs ps ⟨⟨rA, rB⟩, ⟨rC, rD⟩⟩).1, .int .i64 (worldRay t p xs ps ⟨⟨rA, rB⟩, ⟨rC, rD⟩⟩).2], [(false, .vec .body xs), (false, .vec .pair ps)])
  | _, _ => none⟩

theorem vc_implWorldRay (t : Int) (p : Int) (xs : List Body) (ps : List Pair) (rA : Int) (rB : Int) (rC : Int) (rD : Int) (Q : SV → List Ent → Prop) :
    fnVC tt (look [(73, fs_implWorldOk), (67, fs_implRayShape)]) (L_iray) Tryz.f65 [.agg [.int .i64 t, .int .i64 p, .vec 0, .vec 1], .agg [.int .i64 rA, .int .i64 rB, .int .i64 rC, .int .i64 rD]] [(false, .vec .body xs), (false, .vec .pair ps)] Q =
    (let w_ := IntKind.wrap IntKind.i64; let s_ := SV.int IntKind.i64; let n_ := Int.toNat; (List.length xs ≤ (1048576 : Nat) ∧ List.length ps ≤ (1048576 : Nat)) ∧ ifB (!worldOk t p xs ps) (Q (SV.tup [s_ (-1 : Int), s_ (0 : Int)]) [(false, Blk.vec Ty.body xs), (false, Blk.vec Ty.pair ps)]) (Holds (xs = xs ∧ ps = ps ∧ Ray.mk (Vec.mk rA rB) (Vec.mk rC rD) = Ray.mk (Vec.mk rA rB) (Vec.mk rC rD) ∧ (↑(List.length xs) : Int) = (↑(List.length xs) : Int) ∧ (0 : Int) ≤ (0 : Int) ∧ (0 : Int) ≤ (↑(List.length xs) : Int) ∧ List.foldl (rayStep (Ray.mk (Vec.mk rA rB) (Vec.mk rC rD))) ((-1 : Int), (0 : Int)) (List.drop (n_ (0 : Int)) xs) = List.foldl (rayStep (Ray.mk (Vec.mk rA rB) (Vec.mk rC rD))) ((-1 : Int), (0 : Int)) xs) ∧ ∀ (y1 : List Body × List Pair × Ray × Int × Int × Unit × Int × Int), let y1f0_ := Prod.fst y1; let y1s1_ := Prod.snd y1; let y1f1_ := Prod.fst (Prod.snd y1); let y1f2_ := Prod.fst (Prod.snd (Prod.snd y1)); let y1s3_ := Prod.snd (Prod.snd (Prod.snd y1)); let y1f3_ := Prod.fst (Prod.snd (Prod.snd (Prod.snd y1))); let y1f4_ := Prod.fst (Prod.snd (Prod.snd (Prod.snd (Prod.snd y1)))); let y1s6_ := Prod.snd (Prod.snd (Prod.snd (Prod.snd (Prod.snd (Prod.snd y1))))); let y1f6_ := Prod.fst (Prod.snd (Prod.snd (Prod.snd (Prod.snd (Prod.snd (Prod.snd y1)))))); let y1s7_ := Prod.snd (Prod.snd (Prod.snd (Prod.snd (Prod.snd (Prod.snd (Prod.snd y1)))))); let A8_ := (Ty.ix Ty.body y1f0_ (n_ y1s7_)); let A6_ := (↑(List.length xs) : Int); let A5_ := (↑(List.length y1f0_) : Int); let A4_ := (rayShape y1f2_ (Body.Shape A8_) (Body.At A8_)); let A3_ := (Prod.snd y1s6_ + (1 : Int)); let A9_ := (A5_ - w_ A3_); let A7_ := (List.drop (n_ (w_ A3_)) xs); let A2_ := (rayStep (Ray.mk (Vec.mk rA rB) (Vec.mk rC rD))); Holds (Prod.fst y1 = xs ∧ y1f1_ = ps ∧ y1f2_ = Ray.mk (Vec.mk rA rB) (Vec.mk rC rD) ∧ y1f6_ = A6_ ∧ (0 : Int) ≤ y1s7_ ∧ y1s7_ ≤ A6_ ∧ List.foldl A2_ (Prod.fst y1s3_, y1f4_) (List.drop (n_ y1s7_) xs) = List.foldl A2_ ((-1 : Int), (0 : Int)) xs) → ifB (decide (Prod.snd y1s6_ < y1f6_)) (((0 : Int) ≤ y1s7_ ∧ y1s7_ < A5_) ∧ ifB (Prod.snd A4_) (ifB (decide (Prod.fst y1s3_ < (0 : Int))) (Holds (Prod.fst y1 = xs ∧ y1f1_ = ps ∧ y1f2_ = Ray.mk (Vec.mk rA rB) (Vec.mk rC rD) ∧ y1f6_ = A6_ ∧ (0 : Int) ≤ w_ A3_ ∧ w_ A3_ ≤ A6_ ∧ List.foldl A2_ (Body.Id A8_, Prod.fst A4_) A7_ = List.foldl A2_ ((-1 : Int), (0 : Int)) xs) ∧ n_ A9_ < n_ (A5_ - y1s7_)) (ifB (decide (Prod.fst A4_ < y1f4_)) (Holds (Prod.fst y1 = xs ∧ y1f1_ = ps ∧ y1f2_ = Ray.mk (Vec.mk rA rB) (Vec.mk rC rD) ∧ y1f6_ = A6_ ∧ (0 : Int) ≤ w_ A3_ ∧ w_ A3_ ≤ A6_ ∧ List.foldl A2_ (Body.Id A8_, Prod.fst A4_) A7_ = List.foldl A2_ ((-1 : Int), (0 : Int)) xs) ∧ n_ A9_ < n_ (A5_ - y1s7_)) (Holds (Prod.fst y1 = xs ∧ y1f1_ = ps ∧ y1f2_ = Ray.mk (Vec.mk rA rB) (Vec.mk rC rD) ∧ y1f6_ = A6_ ∧ (0 : Int) ≤ w_ A3_ ∧ w_ A3_ ≤ A6_ ∧ List.foldl A2_ (Prod.fst y1s3_, y1f4_) A7_ = List.foldl A2_ ((-1 : Int), (0 : Int)) xs) ∧ n_ A9_ < n_ (A5_ - y1s7_)))) (Holds (Prod.fst y1 = xs ∧ y1f1_ = ps ∧ y1f2_ = Ray.mk (Vec.mk rA rB) (Vec.mk rC rD) ∧ y1f6_ = A6_ ∧ (0 : Int) ≤ w_ A3_ ∧ w_ A3_ ≤ A6_ ∧ List.foldl A2_ (Prod.fst y1s3_, y1f4_) A7_ = List.foldl A2_ ((-1 : Int), (0 : Int)) xs) ∧ n_ A9_ < n_ (A5_ - y1s7_))) (Q (SV.tup [s_ y1f3_, s_ y1f4_]) [(false, Blk.vec Ty.body y1f0_), (false, Blk.vec Ty.pair y1f1_)]))) := by kernel_rfl

theorem ok_implWorldRay : FsOk Tryz.prog 65 fs_implWorldRay := fsOk_of tt_ok (tabFs_cons ok_implWorldOk (tabFs_cons ok_implRayShape tabFs_nil)) mixed Tryz.func65 (by kernel_rfl) (by kernel_rfl) (by
    intro args LL p r HH h hp
    unfold fs_implWorldRay at h
    dsimp only at h
    split at h
    case h_2 => cases h
    rename_i t p rA rB rC rD xs ps
    simp only [Option.some.injEq, Prod.mk.injEq] at h
    obtain ⟨rfl, rfl, rfl⟩ := h
    refine ⟨by simp [Form, stays], (L_iray), ?_⟩
    rw [vc_implWorldRay]
    try dsimp only
    obtain ⟨hb, hb2⟩ := hp _ rfl
    refine ⟨⟨hb, hb2⟩, ifB_of (fun c => ?_) (fun c => ?_)⟩
    · simp [worldRay, not_true c]
    have e : worldRay t p xs ps ⟨⟨rA, rB⟩, ⟨rC, rD⟩⟩ = xs.foldl (rayStep ⟨⟨rA, rB⟩, ⟨rC, rD⟩⟩) (-1, 0) := by
      cases q : rayOk ⟨⟨rA, rB⟩, ⟨rC, rD⟩⟩ with
      | true => simp [worldRay, not_false c, q]
      | false => simp [worldRay, q, rayStep_bad q]
    rw [e]
    refine ⟨⟨(by trivial), (by trivial), (by trivial), (by trivial), by omega, by omega, (by trivial)⟩, ?_⟩
    rintro ⟨xs', ps', q, id, far, u, n, i⟩ ⟨h⟩
    dsimp only at h ⊢
    obtain ⟨rfl, rfl, rfl, rfl, i0, i1, i2⟩ := h
    refine ifB_of (fun c3 => ?_) (fun c3 => ?_)
    · have c3 := of_decide_eq_true c3
      have e1 : (i + 1).toNat = i.toNat + 1 := by omega
      have w : IntKind.i64.wrap (i + 1) = i + 1 := wrap_small (by omega) (by omega)
      rw [foldl_drop (show i.toNat < xs'.length by omega)] at i2
      rw [w, e1]
      have fin : ∀ {a b : Int}, rayStep ⟨⟨rA, rB⟩, ⟨rC, rD⟩⟩ (id, far) (Ty.ix .body xs' i.toNat) = (a, b) → (xs'.drop (i.toNat + 1)).foldl (rayStep ⟨⟨rA, rB⟩, ⟨rC, rD⟩⟩) (a, b) = xs'.foldl (rayStep ⟨⟨rA, rB⟩, ⟨rC, rD⟩⟩) (-1, 0) := by
        intro a b q
        rw [← q]
        exact i2
      have def0 : rayStep ⟨⟨rA, rB⟩, ⟨rC, rD⟩⟩ (id, far) (Ty.ix .body xs' i.toNat) = bif (rayShape ⟨⟨rA, rB⟩, ⟨rC, rD⟩⟩ (Ty.ix .body xs' i.toNat).Shape (Ty.ix .body xs' i.toNat).At).2 && (decide (id < 0) || decide ((rayShape ⟨⟨rA, rB⟩, ⟨rC, rD⟩⟩ (Ty.ix .body xs' i.toNat).Shape (Ty.ix .body xs' i.toNat).At).1 < far)) then ((Ty.ix .body xs' i.toNat).Id, (rayShape ⟨⟨rA, rB⟩, ⟨rC, rD⟩⟩ (Ty.ix .body xs' i.toNat).Shape (Ty.ix .body xs' i.toNat).At).1) else (id, far) := rfl
      refine ⟨⟨i0, c3⟩, ifB_of (fun d1 => ifB_of (fun d2 => ⟨⟨(by trivial), (by trivial), (by trivial), (by trivial), by omega, by omega, fin ?_⟩, by omega⟩) (fun d2 => ifB_of (fun d3 => ⟨⟨(by trivial), (by trivial), (by trivial), (by trivial), by omega, by omega, fin ?_⟩, by omega⟩) (fun d3 => ⟨⟨(by trivial), (by trivial), (by trivial), (by trivial), by omega, by omega, fin ?_⟩, by omega⟩))) (fun d1 => ⟨⟨(by trivial), (by trivial), (by trivial), (by trivial), by omega, by omega, fin ?_⟩, by omega⟩)⟩
      · rw [def0, d1, d2]; rfl
      · rw [def0, d1, d2, d3]; rfl
      · rw [def0, d1, d2, d3]; rfl
      · rw [def0, d1]; rfl
    · have c3 := of_decide_eq_false c3
      rw [drop_end (by omega)] at i2
      rw [← i2]
      exact ⟨rfl, rfl⟩)

noncomputable def fs_clonePairs : Fs := ⟨[], fun args H => match args, H with
  | [.vec 0], [(false, .vec .pair xs)] => some ((some (xs.length ≤ 1048576)), .vec 1, [(false, .vec .pair xs), (true, .vec .pair xs)])
  | _, _ => none⟩

theorem vc_clonePairs (xs : List Pair) (Q : SV → List Ent → Prop) :
    fnVC tt (look []) L0 Tryz.f179 [.vec 0] [(false, .vec .pair xs)] Q =
    (∀ (b : Bool), (b = true → List.length xs = (0 : Nat)) → ifB b (Q (SV.vec (1 : Nat)) [(false, Blk.vec Ty.pair xs), (true, Blk.vec Ty.pair [])]) (((0 : Nat) + List.length xs) * (16 : Nat) ≤ room ∧ Q (SV.vec (1 : Nat)) [(false, Blk.vec Ty.pair xs), (true, Blk.vec Ty.pair ([] ++ xs))])) := by kernel_rfl

theorem ok_clonePairs : FsOk Tryz.prog 179 fs_clonePairs := fsOk_of tt_ok tabFs_nil mixed Tryz.func179 (by kernel_rfl) (by kernel_rfl) (by
    intro args LL p r HH h hp
    unfold fs_clonePairs at h
    dsimp only at h
    split at h
    case h_2 => cases h
    rename_i xs
    simp only [Option.some.injEq, Prod.mk.injEq] at h
    obtain ⟨rfl, rfl, rfl⟩ := h
    refine ⟨by simp [Form, stays], L0, ?_⟩
    rw [vc_clonePairs]
    try dsimp only
    have hb := hp _ rfl
    intro z hz
    refine ifB_of (fun c => ?_) (fun c => ⟨by simp only [room]; omega, ?_⟩)
    · have := List.length_eq_zero_iff.1 (hz c)
      subst this
      exact ⟨rfl, rfl⟩
    · simp)

noncomputable def fs_specCopyW : Fs := ⟨[], fun args H => match args, H with
  | [.agg [.int .i64 t, .int .i64 p, .vec 0, .vec 1]], [(false, .vec .body xs), (false, .vec .pair ps)] => some ((some (xs.length ≤ 1048576 ∧ ps.length ≤ 1048576)), .agg [.int .i64 t, .int .i64 p, .vec 2, .vec 3], [(false, .vec .body xs), (false, .vec .pair ps), (true, .vec .body xs), (true, .vec .pair ps)])
  | _, _ => none⟩

theorem vc_specCopyW (t : Int) (p : Int) (xs : List Body) (ps : List Pair) (Q : SV → List Ent → Prop) :
    fnVC tt (look [(90, fs_specCopyB)]) L0 Tryz.f92 [.agg [.int .i64 t, .int .i64 p, .vec 0, .vec 1]] [(false, .vec .body xs), (false, .vec .pair ps)] Q =
    (List.length xs ≤ (1048576 : Nat) ∧ ((0 : Nat) + List.length ps) * (16 : Nat) ≤ room ∧ Q (SV.agg [SV.int IntKind.i64 t, SV.int IntKind.i64 p, SV.vec (2 : Nat), SV.vec (3 : Nat)]) [(false, Blk.vec Ty.body xs), (false, Blk.vec Ty.pair ps), (true, Blk.vec Ty.body xs), (true, Blk.vec Ty.pair ([] ++ ps))]) := by kernel_rfl

theorem ok_specCopyW : FsOk Tryz.prog 92 fs_specCopyW := fsOk_of tt_ok (tabFs_cons ok_specCopyB tabFs_nil) mixed Tryz.func92 (by kernel_rfl) (by kernel_rfl) (by
    intro args LL p r HH h hp
    unfold fs_specCopyW at h
    dsimp only at h
    split at h
    case h_2 => cases h
    rename_i t p xs ps
    simp only [Option.some.injEq, Prod.mk.injEq] at h
    obtain ⟨rfl, rfl, rfl⟩ := h
    refine ⟨by simp [Form, stays], L0, ?_⟩
    rw [vc_specCopyW]
    try dsimp only
    obtain ⟨hb, hb2⟩ := hp _ rfl
    refine ⟨hb, by simp only [room]; omega, ?_⟩
    simp)

noncomputable def fs_implCopyW : Fs := ⟨[], fun args H => match args, H with
  | [.agg [.int .i64 t, .int .i64 p, .vec 0, .vec 1]], [(false, .vec .body xs), (false, .vec .pair ps)] => some ((some (xs.length ≤ 1048576 ∧ ps.length ≤ 1048576)), .agg [.int .i64 t, .int .i64 p, .vec 2, .vec 3], [(false, .vec .body xs), (false, .vec .pair ps), (true, .vec .body xs), (true, .vec .pair ps)])
  | _, _ => none⟩

theorem vc_implCopyW (t : Int) (p : Int) (xs : List Body) (ps : List Pair) (Q : SV → List Ent → Prop) :
    fnVC tt (look [(78, fs_cloneBodies), (179, fs_clonePairs)]) L0 Tryz.f96 [.agg [.int .i64 t, .int .i64 p, .vec 0, .vec 1]] [(false, .vec .body xs), (false, .vec .pair ps)] Q =
    (List.length xs ≤ (1048576 : Nat) ∧ List.length ps ≤ (1048576 : Nat) ∧ Q (SV.agg [SV.int IntKind.i64 t, SV.int IntKind.i64 p, SV.vec (2 : Nat), SV.vec (3 : Nat)]) [(false, Blk.vec Ty.body xs), (false, Blk.vec Ty.pair ps), (true, Blk.vec Ty.body xs), (true, Blk.vec Ty.pair ps)]) := by kernel_rfl

theorem ok_implCopyW : FsOk Tryz.prog 96 fs_implCopyW := fsOk_of tt_ok (tabFs_cons ok_cloneBodies (tabFs_cons ok_clonePairs tabFs_nil)) mixed Tryz.func96 (by kernel_rfl) (by kernel_rfl) (by
    intro args LL p r HH h hp
    unfold fs_implCopyW at h
    dsimp only at h
    split at h
    case h_2 => cases h
    rename_i t p xs ps
    simp only [Option.some.injEq, Prod.mk.injEq] at h
    obtain ⟨rfl, rfl, rfl⟩ := h
    refine ⟨by simp [Form, stays], L0, ?_⟩
    rw [vc_implCopyW]
    try dsimp only
    obtain ⟨hb, hb2⟩ := hp _ rfl
    exact ⟨hb, hb2, (by trivial), (by trivial)⟩)

def orI (ok : Bool) (n : Int) : Int := bif ok then n else 0
def orL {α : Type} (ok : Bool) (xs : List α) : List α := bif ok then xs else []
def pushCode (t p : Int) (xs : List Body) (ps : List Pair) (id : Int) (v : Vec) : Int := bif worldOk t p xs ps && driveOk v then bif hasB xs id then 0 else 4 else 1
def pushBodies (t p : Int) (xs : List Body) (ps : List Pair) (id : Int) (v : Vec) : List Body := bif driveOk v && hasB xs id then xs.set (atB xs id) (pushB (Ty.ix .body xs (atB xs id)) v) else xs
theorem length_orL {α : Type} (ok : Bool) (xs : List α) : (orL ok xs).length ≤ xs.length := by
  unfold orL
  cases ok <;> simp
theorem length_pushW (t p : Int) (xs : List Body) (ps : List Pair) (id : Int) (v : Vec) : (orL (worldOk t p xs ps) (pushBodies t p xs ps id v)).length ≤ xs.length := by
  refine Nat.le_trans (length_orL _ _) ?_
  unfold pushBodies
  cases driveOk v && hasB xs id <;> simp
theorem hasB_lt {xs : List Body} {id : Int} (h : hasB xs id = true) : atB xs id < xs.length := by
  simp only [hasB, Bool.and_eq_true, decide_eq_true_eq] at h
  exact h.1
noncomputable def fs_specWorldPush : Fs := ⟨[], fun args H => match args, H with
  | [.agg [.int .i64 t, .int .i64 p, .vec 0, .vec 1], .int .i64 id, .agg [.int .i64 vX, .int .i64 vY]], [(false, .vec .body xs), (false, .vec .pair ps)] => some ((some (xs.length ≤ 1048576 ∧ ps.length ≤ 1048576)), .tup [.agg [.int .i64 (orI (worldOk t p xs ps) t), .int .i64 (orI (worldOk t p xs ps) p), .vec 2, .vec 3], .int .i64 (pushCode t p xs ps id ⟨vX, vY⟩)], [(false, .vec .body xs), (false, .vec .pair ps), (true, .vec .body (orL (worldOk t p xs ps) (pushBodies t p xs ps id ⟨vX, vY⟩))), (true, .vec .pair (orL (worldOk t p xs ps) ps))])
  | _, _ => none⟩

theorem vc_specWorldPush (t : Int) (p : Int) (xs : List Body) (ps : List Pair) (id : Int) (vX : Int) (vY : Int) (Q : SV → List Ent → Prop) :
    fnVC tt (look [(46, fs_specWorldOk), (123, fs_l10At), (158, fs_l6Drive), (92, fs_specCopyW), (159, fs_specPushB)]) L0 Tryz.f70 [.agg [.int .i64 t, .int .i64 p, .vec 0, .vec 1], .int .i64 id, .agg [.int .i64 vX, .int .i64 vY]] [(false, .vec .body xs), (false, .vec .pair ps)] Q =
    ((List.length xs ≤ (1048576 : Nat) ∧ List.length ps ≤ (1048576 : Nat)) ∧ ifB (!worldOk t p xs ps) (Q (SV.tup [SV.agg [SV.int IntKind.i64 (0 : Int), SV.int IntKind.i64 (0 : Int), SV.vec (2 : Nat), SV.vec (3 : Nat)], SV.int IntKind.i64 (1 : Int)]) [(false, Blk.vec Ty.body xs), (false, Blk.vec Ty.pair ps), (true, Blk.vec Ty.body []), (true, Blk.vec Ty.pair [])]) (List.length xs ≤ (4611686018427387904 : Nat) ∧ ifB (!driveOk (Vec.mk vX vY)) ((List.length xs ≤ (1048576 : Nat) ∧ List.length ps ≤ (1048576 : Nat)) ∧ Q (SV.tup [SV.agg [SV.int IntKind.i64 t, SV.int IntKind.i64 p, SV.vec (2 : Nat), SV.vec (3 : Nat)], SV.int IntKind.i64 (1 : Int)]) [(false, Blk.vec Ty.body xs), (false, Blk.vec Ty.pair ps), (true, Blk.vec Ty.body xs), (true, Blk.vec Ty.pair ps)]) (ifB (!hasB xs id) ((List.length xs ≤ (1048576 : Nat) ∧ List.length ps ≤ (1048576 : Nat)) ∧ Q (SV.tup [SV.agg [SV.int IntKind.i64 t, SV.int IntKind.i64 p, SV.vec (2 : Nat), SV.vec (3 : Nat)], SV.int IntKind.i64 (4 : Int)]) [(false, Blk.vec Ty.body xs), (false, Blk.vec Ty.pair ps), (true, Blk.vec Ty.body xs), (true, Blk.vec Ty.pair ps)]) ((List.length xs ≤ (1048576 : Nat) ∧ List.length ps ≤ (1048576 : Nat)) ∧ ((0 : Int) ≤ (↑(atB xs id) : Int) ∧ (↑(atB xs id) : Int) < (↑(List.length xs) : Int)) ∧ ((0 : Int) ≤ (↑(atB xs id) : Int) ∧ (↑(atB xs id) : Int) < (↑(List.length xs) : Int)) ∧ Q (SV.tup [SV.agg [SV.int IntKind.i64 t, SV.int IntKind.i64 p, SV.vec (2 : Nat), SV.vec (3 : Nat)], SV.int IntKind.i64 (0 : Int)]) [(false, Blk.vec Ty.body xs), (false, Blk.vec Ty.pair ps), (true, Blk.vec Ty.body (List.set xs (Int.toNat (↑(atB xs id) : Int)) (pushB (Ty.ix Ty.body xs (Int.toNat (↑(atB xs id) : Int))) (Vec.mk vX vY)))), (true, Blk.vec Ty.pair ps)])))) := by kernel_rfl

theorem ok_specWorldPush : FsOk Tryz.prog 70 fs_specWorldPush := fsOk_of tt_ok (tabFs_cons ok_specWorldOk (tabFs_cons ok_l10At (tabFs_cons ok_l6Drive (tabFs_cons ok_specCopyW (tabFs_cons ok_specPushB tabFs_nil))))) mixed Tryz.func70 (by kernel_rfl) (by kernel_rfl) (by
    intro args LL p r HH h hp
    unfold fs_specWorldPush at h
    dsimp only at h
    split at h
    case h_2 => cases h
    rename_i t p id vX vY xs ps
    simp only [Option.some.injEq, Prod.mk.injEq] at h
    obtain ⟨rfl, rfl, rfl⟩ := h
    refine ⟨by simp [Form, stays], L0, ?_⟩
    rw [vc_specWorldPush]
    try dsimp only
    obtain ⟨hb, hb2⟩ := hp _ rfl
    refine ⟨⟨hb, hb2⟩, ifB_of (fun c => ?_) (fun c => ⟨by omega, ifB_of (fun c2 => ⟨⟨hb, hb2⟩, ?_⟩) (fun c2 => ifB_of (fun c3 => ⟨⟨hb, hb2⟩, ?_⟩) (fun c3 => ⟨⟨hb, hb2⟩, ⟨by omega, ?_⟩, ⟨by omega, ?_⟩, ?_⟩))⟩)⟩
    · simp [orI, orL, pushCode, pushBodies, not_true c]
    · simp [orI, orL, pushCode, pushBodies, not_false c, not_true c2]
    · simp [orI, orL, pushCode, pushBodies, not_false c, not_false c2, not_true c3]
    · have := hasB_lt (not_false c3); omega
    · have := hasB_lt (not_false c3); omega
    · simp [orI, orL, pushCode, pushBodies, not_false c, not_false c2, not_false c3])

noncomputable def fs_implWorldPush : Fs := ⟨[], fun args H => match args, H with
  | [.agg [.int .i64 t, .int .i64 p, .vec 0, .vec 1], .int .i64 id, .agg [.int .i64 vX, .int .i64 vY]], [(false, .vec .body xs), (false, .vec .pair ps)] => some ((some (xs.length ≤ 1048576 ∧ ps.length ≤ 1048576)), .tup [.agg [.int .i64 (orI (worldOk t p xs ps) t), .int .i64 (orI (worldOk t p xs ps) p), .vec 2, .vec 3], .int .i64 (pushCode t p xs ps id ⟨vX, vY⟩)], [(false, .vec .body xs), (false, .vec .pair ps), (true, .vec .body (orL (worldOk t p xs ps) (pushBodies t p xs ps id ⟨vX, vY⟩))), (true, .vec .pair (orL (worldOk t p xs ps) ps))])
  | _, _ => none⟩

theorem vc_implWorldPush (t : Int) (p : Int) (xs : List Body) (ps : List Pair) (id : Int) (vX : Int) (vY : Int) (Q : SV → List Ent → Prop) :
    fnVC tt (look [(73, fs_implWorldOk), (96, fs_implCopyW), (155, fs_place), (156, fs_isDrive), (157, fs_implPushB)]) L0 Tryz.f69 [.agg [.int .i64 t, .int .i64 p, .vec 0, .vec 1], .int .i64 id, .agg [.int .i64 vX, .int .i64 vY]] [(false, .vec .body xs), (false, .vec .pair ps)] Q =
    ((List.length xs ≤ (1048576 : Nat) ∧ List.length ps ≤ (1048576 : Nat)) ∧ ifB (!worldOk t p xs ps) (Q (SV.tup [SV.agg [SV.int IntKind.i64 (0 : Int), SV.int IntKind.i64 (0 : Int), SV.vec (2 : Nat), SV.vec (3 : Nat)], SV.int IntKind.i64 (1 : Int)]) [(false, Blk.vec Ty.body xs), (false, Blk.vec Ty.pair ps), (true, Blk.vec Ty.body []), (true, Blk.vec Ty.pair [])]) ((List.length xs ≤ (1048576 : Nat) ∧ List.length ps ≤ (1048576 : Nat)) ∧ List.length xs ≤ (4611686018427387904 : Nat) ∧ ifB (!driveOk (Vec.mk vX vY)) (Q (SV.tup [SV.agg [SV.int IntKind.i64 t, SV.int IntKind.i64 p, SV.vec (2 : Nat), SV.vec (3 : Nat)], SV.int IntKind.i64 (1 : Int)]) [(false, Blk.vec Ty.body xs), (false, Blk.vec Ty.pair ps), (true, Blk.vec Ty.body xs), (true, Blk.vec Ty.pair ps)]) (ifB (!hasB xs id) (Q (SV.tup [SV.agg [SV.int IntKind.i64 t, SV.int IntKind.i64 p, SV.vec (2 : Nat), SV.vec (3 : Nat)], SV.int IntKind.i64 (4 : Int)]) [(false, Blk.vec Ty.body xs), (false, Blk.vec Ty.pair ps), (true, Blk.vec Ty.body xs), (true, Blk.vec Ty.pair ps)]) (((0 : Int) ≤ (↑(atB xs id) : Int) ∧ (↑(atB xs id) : Int) < (↑(List.length xs) : Int)) ∧ Int.toNat (↑(atB xs id) : Int) < List.length xs ∧ Q (SV.tup [SV.agg [SV.int IntKind.i64 t, SV.int IntKind.i64 p, SV.vec (2 : Nat), SV.vec (3 : Nat)], SV.int IntKind.i64 (0 : Int)]) [(false, Blk.vec Ty.body xs), (false, Blk.vec Ty.pair ps), (true, Blk.vec Ty.body (List.set xs (Int.toNat (↑(atB xs id) : Int)) (pushB (Ty.ix Ty.body xs (Int.toNat (↑(atB xs id) : Int))) (Vec.mk vX vY)))), (true, Blk.vec Ty.pair ps)])))) := by kernel_rfl

theorem ok_implWorldPush : FsOk Tryz.prog 69 fs_implWorldPush := fsOk_of tt_ok (tabFs_cons ok_implWorldOk (tabFs_cons ok_implCopyW (tabFs_cons ok_place (tabFs_cons ok_isDrive (tabFs_cons ok_implPushB tabFs_nil))))) mixed Tryz.func69 (by kernel_rfl) (by kernel_rfl) (by
    intro args LL p r HH h hp
    unfold fs_implWorldPush at h
    dsimp only at h
    split at h
    case h_2 => cases h
    rename_i t p id vX vY xs ps
    simp only [Option.some.injEq, Prod.mk.injEq] at h
    obtain ⟨rfl, rfl, rfl⟩ := h
    refine ⟨by simp [Form, stays], L0, ?_⟩
    rw [vc_implWorldPush]
    try dsimp only
    obtain ⟨hb, hb2⟩ := hp _ rfl
    refine ⟨⟨hb, hb2⟩, ifB_of (fun c => ?_) (fun c => ⟨⟨hb, hb2⟩, by omega, ifB_of (fun c2 => ?_) (fun c2 => ifB_of (fun c3 => ?_) (fun c3 => ⟨⟨by omega, ?_⟩, ?_, ?_⟩))⟩)⟩
    · simp [orI, orL, pushCode, pushBodies, not_true c]
    · simp [orI, orL, pushCode, pushBodies, not_false c, not_true c2]
    · simp [orI, orL, pushCode, pushBodies, not_false c, not_false c2, not_true c3]
    · have := hasB_lt (not_false c3); omega
    · have := hasB_lt (not_false c3); omega
    · simp [orI, orL, pushCode, pushBodies, not_false c, not_false c2, not_false c3])

end Go.Proofs.YtdhbkcaaijgocaaGreat.Sym

namespace Go.Proofs.YtdhbkcaaijgocaaGreat.Sym
open Go
set_option linter.unusedVariables false
set_option linter.unusedSimpArgs false
set_option maxRecDepth 100000
noncomputable section

def evs (b : Bool) (ps : List Pair) : List Event := ps.map fun q => ⟨b, q⟩
theorem length_evs (b : Bool) (ps : List Pair) : (evs b ps).length = ps.length := by simp [evs]
def stepEvs (was now : List Pair) : List Event := evs false (newF now was) ++ evs true (newF was now)
def stepTick (ok : Bool) (t : Int) : Int := bif ok then bif t == 100000 then t else W (t + 1) else 0
def stepBodies (ok : Bool) (t p : Int) (xs : List Body) : List Body := bif ok then bif t == 100000 then xs else stepOf xs p else []
def stepPs (ok : Bool) (t p : Int) (xs : List Body) (ps : List Pair) : List Pair := bif ok then bif t == 100000 then ps else stepPairs (stepOf xs p) else []
def stepEs (ok : Bool) (t p : Int) (xs : List Body) (ps : List Pair) : List Event := bif ok then bif t == 100000 then [] else stepEvs ps (stepPairs (stepOf xs p)) else []
theorem length_stepOf (xs : List Body) (pull : Int) : (stepOf xs pull).length ≤ 12 := by
  unfold stepOf
  cases q : bodiesOk xs && isIn pull 0 2560 with
  | true =>
    rw [Bool.and_eq_true] at q
    have := bodiesOk_len q.1
    simp only [cond_true, stepF, length_settleF, length_mapX, length_apartF, length_pushAllF]
    exact this
  | false => simp
end
end Go.Proofs.YtdhbkcaaijgocaaGreat.Sym

