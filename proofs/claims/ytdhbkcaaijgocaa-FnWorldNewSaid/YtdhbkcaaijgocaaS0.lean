/-
  The groups of bodies: the plain law.
  No condition.
-/
import Derived.Test.YtdhbkcaaijgocaaT2
import Derived.Test.YtdhbkcaaijgocaaQ1
namespace Go.Proofs.Ytdhbkcaaijgocaa.Sym
open Go
set_option linter.unusedVariables false
set_option linter.unusedSimpArgs false
set_option maxRecDepth 100000

def gi (gs : List Int) (j : Nat) : Int := Ty.ix .int gs j
theorem gi_set {gs : List Int} {a j : Nat} {g : Int} (h : a < gs.length) : gi (gs.set a g) j = if a = j then g else gi gs j := by
  unfold gi
  split
  · rename_i e
    subst e
    exact ix_set_self (T := .int) h
  · rename_i e
    exact ix_set_ne (T := .int) e
def freeB (xs : List Body) (k : Nat) : Bool := !((Ty.ix .body xs k).Mass == 0)
def edgeC (c : Contact) : Grp.Edge := (c.A.toNat, c.B.toNat)
noncomputable def edgesX (xs : List Body) : List Grp.Edge := ((contactsF xs).filter fun c => freeB xs c.A.toNat && freeB xs c.B.toNat).map edgeC
noncomputable def cmX (xs : List Body) (i : Nat) : Nat := Grp.cm (edgesX xs) i
noncomputable def numX (xs : List Body) (i : Nat) : Nat := Grp.num (freeB xs) (cmX xs) i
theorem mem_edges {xs : List Body} {c : Contact} (h : c ∈ contactsF xs) (ha : freeB xs c.A.toNat = true) (hb : freeB xs c.B.toNat = true) : edgeC c ∈ edgesX xs :=
  List.mem_map.2 ⟨c, List.mem_filter.2 ⟨h, by rw [ha, hb]; rfl⟩, rfl⟩
theorem of_edges {xs : List Body} {e : Grp.Edge} (h : e ∈ edgesX xs) : ∃ c, c ∈ contactsF xs ∧ edgeC c = e ∧ freeB xs e.1 = true ∧ freeB xs e.2 = true ∧ e.1 < xs.length ∧ e.2 < xs.length := by
  obtain ⟨c, hc, rfl⟩ := List.mem_map.1 h
  obtain ⟨h1, h2⟩ := List.mem_filter.1 hc
  rw [Bool.and_eq_true] at h2
  obtain ⟨a, b, q1, q2, q3, _⟩ := mem_contactsF h1
  refine ⟨c, h1, rfl, h2.1, h2.2, ?_, ?_⟩
  · rw [q3]; simp only [edgeC]; omega
  · rw [q3]; simp only [edgeC]; omega
theorem free_cm {xs : List Body} {i : Nat} (h : freeB xs i = true) : freeB xs (cmX xs i) = true :=
  Grp.cm_conn (edgesX xs) i (fun k => freeB xs k = true) (fun e he => by
    obtain ⟨c, _, _, h1, h2, _⟩ := of_edges he
    exact ⟨fun _ => h2, fun _ => h1⟩) h
theorem cm_cmX (xs : List Body) (i : Nat) : cmX xs (cmX xs i) = cmX xs i := Grp.cm_cm _ _
theorem cmX_le (xs : List Body) (i : Nat) : cmX xs i ≤ i := Grp.cm_le _ _
theorem lead_cm {xs : List Body} {i : Nat} (h : freeB xs i = true) : Grp.lead (freeB xs) (cmX xs) (cmX xs i) = true := by
  unfold Grp.lead
  rw [free_cm h, cm_cmX]
  simp
theorem lead_iff {xs : List Body} {i : Nat} : Grp.lead (freeB xs) (cmX xs) i = true ↔ freeB xs i = true ∧ cmX xs i = i := by
  simp [Grp.lead]
/-- What is known of j's group when all in front of i have one. -/
noncomputable def gOf (xs : List Body) (i j : Nat) : Int := bif freeB xs j && decide (cmX xs j < i) then (numX xs (cmX xs j) : Int) else -1
theorem gOf_ne (xs : List Body) (i j : Nat) : gOf xs i j ≠ numX xs i := by
  unfold gOf
  cases q : freeB xs j && decide (cmX xs j < i) with
  | true =>
    rw [Bool.and_eq_true, decide_eq_true_eq] at q
    have := Grp.num_lt (lead_cm q.1) q.2
    simp only [cond_true]
    unfold numX
    omega
  | false =>
    simp only [cond_false]
    omega
def GInv (xs : List Body) (i : Nat) (gs : List Int) : Prop := gs.length = xs.length ∧ ∀ j, j < xs.length → gi gs j = gOf xs i j
def FInv (xs : List Body) (i : Nat) (gs : List Int) : Prop := gs.length = xs.length ∧ gi gs i = numX xs i ∧ ∀ j, j < xs.length → gi gs j = gOf xs i j ∨ (gi gs j = numX xs i ∧ freeB xs j = true ∧ cmX xs j = i)
theorem finv_in {xs : List Body} {i j : Nat} {gs : List Int} (h : FInv xs i gs) (hj : j < xs.length) (hg : gi gs j = numX xs i) : freeB xs j = true ∧ cmX xs j = i := by
  rcases h.2.2 j hj with q | q
  · exact absurd (q.symm.trans hg) (gOf_ne xs i j)
  · exact q.2
theorem finv_start {xs : List Body} {i : Nat} {gs : List Int} (h : GInv xs i gs) (hi : i < xs.length) (hf : freeB xs i = true) (hc : cmX xs i = i) : FInv xs i (gs.set i (numX xs i)) := by
  have hl : i < gs.length := by rw [h.1]; exact hi
  refine ⟨by rw [List.length_set]; exact h.1, by rw [gi_set hl, if_pos rfl], fun j hj => ?_⟩
  rw [gi_set hl]
  split
  · rename_i e
    subst e
    exact .inr ⟨rfl, hf, hc⟩
  · exact .inl (h.2 j hj)
noncomputable def cntG (xs : List Body) (i : Nat) (gs : List Int) : Nat := Grp.many (fun j => gi gs j ≠ numX xs i) xs.length
theorem many_le_of {P Q : Nat → Prop} (h : ∀ i, P i → Q i) (n : Nat) : Grp.many P n ≤ Grp.many Q n := Grp.many_mono h n
theorem finv_step {xs : List Body} {i : Nat} {gs : List Int} {e : Grp.Edge} (h : FInv xs i gs) (he : e ∈ edgesX xs) (hx : gi gs e.1 = numX xs i ∨ gi gs e.2 = numX xs i) :
    FInv xs i ((gs.set e.1 (numX xs i)).set e.2 (numX xs i)) := by
  obtain ⟨c, _, _, f1, f2, l1, l2⟩ := of_edges he
  have hcm : cmX xs e.1 = cmX xs e.2 := Grp.cm_eq (Grp.conn_edge he)
  have hci : cmX xs e.1 = i := by
    rcases hx with hx | hx
    · exact (finv_in h l1 hx).2
    · rw [hcm]; exact (finv_in h l2 hx).2
  have k1 : e.1 < gs.length := by rw [h.1]; exact l1
  have k2 : e.2 < (gs.set e.1 (numX xs i : Int)).length := by rw [List.length_set, h.1]; exact l2
  refine ⟨by rw [List.length_set, List.length_set]; exact h.1, ?_, fun j hj => ?_⟩
  · rw [gi_set k2, gi_set k1]
    split
    · rfl
    · split
      · rfl
      · exact h.2.1
  · rw [gi_set k2, gi_set k1]
    split
    · rename_i q
      subst q
      exact .inr ⟨rfl, f2, by rw [← hcm]; exact hci⟩
    · split
      · rename_i q
        subst q
        exact .inr ⟨rfl, f1, hci⟩
      · exact h.2.2 j hj
theorem cnt_step {xs : List Body} {i : Nat} {gs : List Int} {a b : Nat} (ha : a < xs.length) (hb : b < xs.length) (hl : gs.length = xs.length) (hx : gi gs a ≠ numX xs i ∨ gi gs b ≠ numX xs i) :
    cntG xs i ((gs.set a (numX xs i)).set b (numX xs i)) < cntG xs i gs := by
  have k1 : a < gs.length := by rw [hl]; exact ha
  have k2 : b < (gs.set a (numX xs i : Int)).length := by rw [List.length_set, hl]; exact hb
  have hm : ∀ j, gi ((gs.set a (numX xs i)).set b (numX xs i)) j ≠ numX xs i → gi gs j ≠ numX xs i := by
    intro j hj
    rw [gi_set k2, gi_set k1] at hj
    split at hj
    · exact absurd rfl hj
    · split at hj
      · exact absurd rfl hj
      · exact hj
  unfold cntG
  rcases hx with hx | hx
  · refine Grp.many_lt (P := fun j => gi ((gs.set a (numX xs i)).set b (numX xs i)) j ≠ numX xs i) (Q := fun j => gi gs j ≠ numX xs i) hm (k := a) hx (fun q => q ?_) _ ha
    rw [gi_set k2, gi_set k1]
    split
    · rfl
    · rw [if_pos rfl]
  · refine Grp.many_lt (P := fun j => gi ((gs.set a (numX xs i)).set b (numX xs i)) j ≠ numX xs i) (Q := fun j => gi gs j ≠ numX xs i) hm (k := b) hx (fun q => q ?_) _ hb
    rw [gi_set k2, if_pos rfl]
theorem num_succ (xs : List Body) (i : Nat) : numX xs (i + 1) = numX xs i + (bif Grp.lead (freeB xs) (cmX xs) i then 1 else 0) := rfl
/-- Behind the flood. -/
theorem flood_done {xs : List Body} {i : Nat} {gs : List Int} (h : FInv xs i gs) (hi : i < xs.length) (hf : freeB xs i = true) (hc : cmX xs i = i) (hE : ∀ e, e ∈ edgesX xs → (gi gs e.1 = numX xs i ↔ gi gs e.2 = numX xs i)) : GInv xs (i + 1) gs := by
  refine ⟨h.1, fun j hj => ?_⟩
  by_cases q : freeB xs j = true ∧ cmX xs j = i
  · have hcon : Grp.conn (edgesX xs) i j := Grp.conn_iff.2 (by show cmX xs i = cmX xs j; rw [hc, q.2])
    have hg : gi gs j = numX xs i := hcon (fun k => gi gs k = numX xs i) hE h.2.1
    rw [hg]
    unfold gOf
    rw [q.1, q.2, decide_eq_true (Nat.lt_succ_self i)]
    rfl
  · rcases h.2.2 j hj with g | g
    · rw [g]
      unfold gOf
      congr 1
      cases f : freeB xs j with
      | false => rfl
      | true =>
        have : cmX xs j ≠ i := fun e => q ⟨f, e⟩
        rw [Bool.true_and, Bool.true_and, decide_eq_decide]
        omega
    · exact absurd g.2 q
/-- Where i is not the first of a part. -/
theorem ginv_skip {xs : List Body} {i : Nat} {gs : List Int} (h : GInv xs i gs) (hl : Grp.lead (freeB xs) (cmX xs) i = false) : GInv xs (i + 1) gs ∧ numX xs (i + 1) = numX xs i := by
  refine ⟨⟨h.1, fun j hj => ?_⟩, by rw [num_succ, hl]; rfl⟩
  rw [h.2 j hj]
  unfold gOf
  congr 1
  cases f : freeB xs j with
  | false => rfl
  | true =>
    have : cmX xs j ≠ i := fun e => by
      have := lead_cm f
      rw [e, hl] at this
      cases this
    rw [Bool.true_and, Bool.true_and, decide_eq_decide]
    omega
/-- A body without a group is the first of its part; one with a group, or fixed, is not. -/
theorem ginv_lead {xs : List Body} {i : Nat} {gs : List Int} (h : GInv xs i gs) (hi : i < xs.length) : Grp.lead (freeB xs) (cmX xs) i = (freeB xs i && decide (gi gs i < 0)) := by
  rw [h.2 i hi]
  unfold Grp.lead gOf
  cases f : freeB xs i with
  | false => rfl
  | true =>
    rw [Bool.true_and, Bool.true_and]
    have hle := cmX_le xs i
    by_cases e : cmX xs i = i
    · rw [e, decide_eq_false (Nat.lt_irrefl i)]
      simp
    · rw [decide_eq_true (show cmX xs i < i by omega), beq_eq_false_iff_ne.2 e]
      simp
end Go.Proofs.Ytdhbkcaaijgocaa.Sym
