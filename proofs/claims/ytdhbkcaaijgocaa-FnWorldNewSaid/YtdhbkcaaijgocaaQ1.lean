/-
  The parts of a graph: what relaxing finds, and their numbers.
  No condition.
-/
namespace Go.Proofs.Ytdhbkcaaijgocaa.Grp
set_option linter.unusedVariables false
set_option linter.unusedSimpArgs false

abbrev Edge := Nat × Nat
def upd (f : Nat → Int) (a : Nat) (g : Int) : Nat → Int := fun i => if i = a then g else f i
def relax (f : Nat → Int) (e : Edge) : Nat → Int := upd (upd f e.1 (min (f e.1) (f e.2))) e.2 (min (f e.1) (f e.2))
def round (E : List Edge) (f : Nat → Int) : Nat → Int := E.foldl relax f
def rounds (E : List Edge) : Nat → (Nat → Int) → (Nat → Int)
  | 0, f => f
  | n + 1, f => rounds E n (round E f)
theorem rounds_succ (E : List Edge) : ∀ (n : Nat) (f : Nat → Int), rounds E (n + 1) f = round E (rounds E n f)
  | 0, f => rfl
  | n + 1, f => rounds_succ E n (round E f)
def closed (E : List Edge) (C : Nat → Prop) : Prop := ∀ e, e ∈ E → (C e.1 ↔ C e.2)
def conn (E : List Edge) (i j : Nat) : Prop := ∀ C, closed E C → C i → C j
theorem conn_refl {E : List Edge} (i : Nat) : conn E i i := fun _ _ h => h
theorem conn_trans {E : List Edge} {i j k : Nat} (h : conn E i j) (g : conn E j k) : conn E i k := fun C hC hi => g C hC (h C hC hi)
theorem conn_symm {E : List Edge} {i j : Nat} (h : conn E i j) : conn E j i := fun C hC hj => Classical.byContradiction fun hi => h (fun x => ¬ C x) (fun e he => not_congr (hC e he)) hi hj
theorem conn_edge {E : List Edge} {e : Edge} (h : e ∈ E) : conn E e.1 e.2 := fun _ hC h1 => (hC e h).1 h1
theorem cm_ex (E : List Edge) (i : Nat) : ∃ m, conn E i m ∧ ∀ j, conn E i j → m ≤ j := by
  refine Classical.byContradiction fun hn => ?_
  have : ∀ k, ¬ conn E i k := by
    intro k
    induction k using Nat.strongRecOn with
    | ind k ih =>
      intro hk
      exact hn ⟨k, hk, fun j hj => Nat.le_of_not_lt fun hlt => ih j hlt hj⟩
  exact this i (conn_refl i)
noncomputable def cm (E : List Edge) (i : Nat) : Nat := Classical.choose (cm_ex E i)
theorem cm_conn (E : List Edge) (i : Nat) : conn E i (cm E i) := (Classical.choose_spec (cm_ex E i)).1
theorem cm_least {E : List Edge} {i j : Nat} (h : conn E i j) : cm E i ≤ j := (Classical.choose_spec (cm_ex E i)).2 j h
theorem cm_le (E : List Edge) (i : Nat) : cm E i ≤ i := cm_least (conn_refl i)
theorem cm_eq {E : List Edge} {i j : Nat} (h : conn E i j) : cm E i = cm E j :=
  Nat.le_antisymm (cm_least (conn_trans h (cm_conn E j))) (cm_least (conn_trans (conn_symm h) (cm_conn E i)))
theorem conn_iff {E : List Edge} {i j : Nat} : conn E i j ↔ cm E i = cm E j :=
  ⟨cm_eq, fun h => conn_trans (cm_conn E i) (by rw [h]; exact conn_symm (cm_conn E j))⟩
theorem cm_cm (E : List Edge) (i : Nat) : cm E (cm E i) = cm E i := (cm_eq (cm_conn E i)).symm
/-- Labels of one's own part, none behind one. -/
def Lab (E : List Edge) (f : Nat → Int) : Prop := ∀ i, ∃ j : Nat, f i = j ∧ conn E i j ∧ j ≤ i
def set (E : List Edge) (f : Nat → Int) (i : Nat) : Prop := f i = cm E i
theorem lab_ge {E : List Edge} {f : Nat → Int} (h : Lab E f) (i : Nat) : (cm E i : Int) ≤ f i := by
  obtain ⟨j, h1, h2, _⟩ := h i
  have := cm_least h2
  omega
theorem lab_id (E : List Edge) : Lab E (fun i => i) := fun i => ⟨i, rfl, conn_refl i, Nat.le_refl _⟩
theorem relax_at (f : Nat → Int) (e : Edge) (i : Nat) : relax f e i = if i = e.2 ∨ i = e.1 then min (f e.1) (f e.2) else f i := by
  unfold relax upd
  by_cases h : i = e.2 <;> by_cases g : i = e.1 <;> simp [h, g]
theorem relax_lab {E : List Edge} {f : Nat → Int} {e : Edge} (he : e ∈ E) (h : Lab E f) : Lab E (relax f e) := by
  intro i
  rw [relax_at]
  obtain ⟨a, a1, a2, a3⟩ := h e.1
  obtain ⟨b, b1, b2, b3⟩ := h e.2
  split
  · rename_i q
    by_cases hab : a ≤ b
    · refine ⟨a, by rw [a1, b1]; omega, ?_, ?_⟩
      · rcases q with q | q
        · rw [q]; exact conn_trans (conn_symm (conn_edge he)) a2
        · rw [q]; exact a2
      · rcases q with q | q <;> omega
    · refine ⟨b, by rw [a1, b1]; omega, ?_, ?_⟩
      · rcases q with q | q
        · rw [q]; exact b2
        · rw [q]; exact conn_trans (conn_edge he) b2
      · rcases q with q | q <;> omega
  · exact h i
theorem relax_set {E : List Edge} {f : Nat → Int} {e : Edge} (he : e ∈ E) (h : Lab E f) {i : Nat} (hi : set E f i) : set E (relax f e) i := by
  unfold set at hi ⊢
  rw [relax_at]
  split
  · rename_i q
    have c := cm_eq (conn_edge he)
    have g1 := lab_ge h e.1
    have g2 := lab_ge h e.2
    rcases q with q | q <;> rw [q] at hi ⊢ <;> omega
  · exact hi
theorem relax_hit {E : List Edge} {f : Nat → Int} {e : Edge} (he : e ∈ E) (h : Lab E f) (hs : set E f e.1 ∨ set E f e.2) : set E (relax f e) e.1 ∧ set E (relax f e) e.2 := by
  have c := cm_eq (conn_edge he)
  have g1 := lab_ge h e.1
  have g2 := lab_ge h e.2
  unfold set at hs ⊢
  rw [relax_at, relax_at, if_pos (.inr rfl), if_pos (.inl rfl)]
  rcases hs with hs | hs <;> constructor <;> omega
theorem fold_lab {E : List Edge} : ∀ (F : List Edge) (f : Nat → Int), (∀ e, e ∈ F → e ∈ E) → Lab E f → Lab E (F.foldl relax f)
  | [], _, _, h => h
  | e :: F, f, hF, h => fold_lab F (relax f e) (fun d hd => hF d (List.mem_cons_of_mem _ hd)) (relax_lab (hF e List.mem_cons_self) h)
theorem fold_set {E : List Edge} {i : Nat} : ∀ (F : List Edge) (f : Nat → Int), (∀ e, e ∈ F → e ∈ E) → Lab E f → set E f i → set E (F.foldl relax f) i
  | [], _, _, _, hi => hi
  | e :: F, f, hF, h, hi => fold_set F (relax f e) (fun d hd => hF d (List.mem_cons_of_mem _ hd)) (relax_lab (hF e List.mem_cons_self) h) (relax_set (hF e List.mem_cons_self) h hi)
theorem fold_hit {E : List Edge} {e : Edge} : ∀ (F : List Edge) (f : Nat → Int), (∀ e, e ∈ F → e ∈ E) → Lab E f → e ∈ F → (set E f e.1 ∨ set E f e.2) → set E (F.foldl relax f) e.1 ∧ set E (F.foldl relax f) e.2
  | d :: F, f, hF, h, he, hs => by
    have hd := hF d List.mem_cons_self
    have hF' : ∀ c, c ∈ F → c ∈ E := fun c hc => hF c (List.mem_cons_of_mem _ hc)
    rw [List.foldl_cons]
    rcases List.mem_cons.1 he with rfl | he'
    · have := relax_hit hd h hs
      exact ⟨fold_set F _ hF' (relax_lab hd h) this.1, fold_set F _ hF' (relax_lab hd h) this.2⟩
    · exact fold_hit F _ hF' (relax_lab hd h) he' (hs.imp (relax_set hd h) (relax_set hd h))
theorem round_lab {E : List Edge} {f : Nat → Int} (h : Lab E f) : Lab E (round E f) := fold_lab E f (fun _ he => he) h
theorem round_set {E : List Edge} {f : Nat → Int} (h : Lab E f) {i : Nat} (hi : set E f i) : set E (round E f) i := fold_set E f (fun _ he => he) h hi
/-- Where not all are set, a round sets one more. -/
theorem round_new {E : List Edge} {f : Nat → Int} (h : Lab E f) {i : Nat} (hi : ¬ set E f i) : ∃ e, e ∈ E ∧ ((set E f e.1 ∧ ¬ set E f e.2) ∨ (¬ set E f e.1 ∧ set E f e.2)) := by
  refine Classical.byContradiction fun hn => hi ?_
  have hC : closed E fun j => conn E i j ∧ set E f j := by
    intro e he
    have c := conn_edge he
    have hs : set E f e.1 ↔ set E f e.2 := by
      refine ⟨fun h1 => Classical.byContradiction fun h2 => hn ⟨e, he, .inl ⟨h1, h2⟩⟩, fun h2 => Classical.byContradiction fun h1 => hn ⟨e, he, .inr ⟨h1, h2⟩⟩⟩
    exact ⟨fun x => ⟨conn_trans x.1 c, hs.1 x.2⟩, fun x => ⟨conn_trans x.1 (conn_symm c), hs.2 x.2⟩⟩
  have hm : set E f (cm E i) := by
    have g := lab_ge h (cm E i)
    obtain ⟨j, j1, j2, j3⟩ := h (cm E i)
    unfold set
    rw [cm_cm] at g ⊢
    omega
  exact (conn_symm (cm_conn E i) _ hC ⟨cm_conn E i, hm⟩).2
noncomputable def many (P : Nat → Prop) : Nat → Nat
  | 0 => 0
  | n + 1 => many P n + (if (Classical.propDecidable (P n)).decide then 1 else 0)
theorem many_mono {P Q : Nat → Prop} (h : ∀ i, P i → Q i) : ∀ n, many P n ≤ many Q n
  | 0 => Nat.le_refl _
  | n + 1 => by
    have := many_mono h n
    unfold many
    by_cases p : P n
    · have q := h n p
      simp [p, q]
      exact this
    · simp [p]
      omega
theorem many_lt {P Q : Nat → Prop} (h : ∀ i, P i → Q i) {k : Nat} (hk : Q k) (hn : ¬ P k) : ∀ n, k < n → many P n < many Q n
  | n + 1, hlt => by
    have m := many_mono h n
    unfold many
    by_cases e : k = n
    · subst e
      simp [hk, hn]
      omega
    · have := many_lt h hk hn n (by omega)
      by_cases p : P n
      · have q := h n p
        simp [p, q]
        exact this
      · simp [p]
        omega
theorem many_le (P : Nat → Prop) : ∀ n, many P n ≤ n
  | 0 => Nat.le_refl _
  | n + 1 => by
    have := many_le P n
    unfold many
    split <;> omega
theorem many_all {P : Nat → Prop} : ∀ n, many P n = n → ∀ i, i < n → P i
  | n + 1, h, i, hi => by
    have g := many_le P n
    unfold many at h
    by_cases p : P n
    · by_cases e : i = n
      · rw [e]; exact p
      · exact many_all n (by simp [p] at h; exact h) i (by omega)
    · simp [p] at h
      omega
theorem rounds_lab {E : List Edge} {f : Nat → Int} (h : Lab E f) (r : Nat) : Lab E (rounds E r f) := by
  induction r with
  | zero => exact h
  | succ r ih => rw [rounds_succ]; exact round_lab ih
theorem rounds_many {E : List Edge} {f : Nat → Int} {n : Nat} (hE : ∀ e, e ∈ E → e.1 < n ∧ e.2 < n) (h : Lab E f) (r : Nat) : (∀ i, set E (rounds E r f) i) ∨ r ≤ many (set E (rounds E r f)) n := by
  induction r with
  | zero => exact .inr (Nat.zero_le _)
  | succ r ih =>
    rw [rounds_succ]
    have hl := rounds_lab h r
    rcases ih with ih | ih
    · exact .inl fun i => round_set hl (ih i)
    · by_cases hall : ∀ i, set E (rounds E r f) i
      · exact .inl fun i => round_set hl (hall i)
      · right
        obtain ⟨i, hi⟩ := Classical.not_forall.1 hall
        obtain ⟨e, he, hs⟩ := round_new hl hi
        have hit := fold_hit (e := e) E _ (fun _ x => x) hl he (hs.imp (·.1) (·.2))
        have hlt : many (set E (rounds E r f)) n < many (set E (round E (rounds E r f))) n := by
          rcases hs with hs | hs
          · exact many_lt (P := set E (rounds E r f)) (Q := set E (round E (rounds E r f))) (fun i x => round_set hl x) hit.2 hs.2 n (hE e he).2
          · exact many_lt (P := set E (rounds E r f)) (Q := set E (round E (rounds E r f))) (fun i x => round_set hl x) hit.1 hs.1 n (hE e he).1
        omega
/-- Behind n rounds each label is the least of its part. -/
theorem rounds_cm {E : List Edge} {n : Nat} (hE : ∀ e, e ∈ E → e.1 < n ∧ e.2 < n) {i : Nat} (hi : i < n) : rounds E n (fun j => j) i = cm E i := by
  rcases rounds_many hE (lab_id E) n with h | h
  · exact h i
  · exact many_all n (Nat.le_antisymm (many_le _ _) h) i hi

/-- The first of a part. -/
def lead (free : Nat → Bool) (c : Nat → Nat) (k : Nat) : Bool := free k && c k == k
def num (free : Nat → Bool) (c : Nat → Nat) : Nat → Nat
  | 0 => 0
  | m + 1 => num free c m + (bif lead free c m then 1 else 0)
def firsts (free : Nat → Bool) (c : Nat → Nat) : Nat → List Nat
  | 0 => []
  | m + 1 => firsts free c m ++ (bif lead free c m then [m] else [])
theorem length_firsts (free : Nat → Bool) (c : Nat → Nat) : ∀ m, (firsts free c m).length = num free c m
  | 0 => rfl
  | m + 1 => by
    simp only [firsts, num, List.length_append, length_firsts free c m]
    cases lead free c m <;> rfl
theorem firsts_lt (free : Nat → Bool) (c : Nat → Nat) : ∀ m k, k ∈ firsts free c m → k < m
  | m + 1, k, h => by
    simp only [firsts, List.mem_append] at h
    rcases h with h | h
    · exact Nat.lt_succ_of_lt (firsts_lt free c m k h)
    · cases q : lead free c m with
      | true => rw [q] at h; simp at h; omega
      | false => rw [q] at h; simp at h
theorem num_mono (free : Nat → Bool) (c : Nat → Nat) {a b : Nat} (h : a ≤ b) : num free c a ≤ num free c b := by
  induction h with
  | refl => exact Nat.le_refl _
  | step h ih => exact Nat.le_trans ih (Nat.le_add_right _ _)
theorem num_lt {free : Nat → Bool} {c : Nat → Nat} {a b : Nat} (hl : lead free c a = true) (h : a < b) : num free c a < num free c b := by
  have h1 : num free c (a + 1) = num free c a + 1 := by simp [num, hl]
  have := num_mono free c (show a + 1 ≤ b from h)
  omega
theorem num_inj {free : Nat → Bool} {c : Nat → Nat} {a b : Nat} (ha : lead free c a = true) (hb : lead free c b = true) (h : num free c a = num free c b) : a = b := by
  rcases Nat.lt_trichotomy a b with x | x | x
  · have := num_lt ha x; omega
  · exact x
  · have := num_lt hb x; omega
theorem firsts_at {free : Nat → Bool} {c : Nat → Nat} {k : Nat} (hk : lead free c k = true) : ∀ m, k < m → (firsts free c m)[num free c k]? = some k
  | m + 1, h => by
    have hl := length_firsts free c m
    by_cases e : k = m
    · subst e
      simp only [firsts, hk, cond_true]
      rw [List.getElem?_append_right (by omega), hl, Nat.sub_self]
      rfl
    · have hlt := num_lt hk (show k < m by omega)
      simp only [firsts]
      rw [List.getElem?_append_left (by omega)]
      exact firsts_at hk m (by omega)
theorem firsts_lead (free : Nat → Bool) (c : Nat → Nat) : ∀ m k, k ∈ firsts free c m → lead free c k = true
  | m + 1, k, h => by
    simp only [firsts, List.mem_append] at h
    rcases h with h | h
    · exact firsts_lead free c m k h
    · cases q : lead free c m with
      | true => rw [q] at h; simp at h; rw [h]; exact q
      | false => rw [q] at h; simp at h
/-- The place of one of the firsts tells which it is. -/
theorem firsts_pos {free : Nat → Bool} {c : Nat → Nat} {m p k : Nat} (h : (firsts free c m)[p]? = some k) : p = num free c k := by
  have hm := List.mem_of_getElem? h
  have hk := firsts_lead free c m k hm
  have hlt := firsts_lt free c m k hm
  have hp := (List.getElem?_eq_some_iff.1 h).1
  rw [length_firsts] at hp
  -- the leaders below p are as many
  have key : ∀ m p, (firsts free c m)[p]? = some k → p = num free c k := by
    intro m
    induction m with
    | zero => intro p h; simp [firsts] at h
    | succ m ih =>
      intro p h
      simp only [firsts] at h
      by_cases hlt : p < (firsts free c m).length
      · rw [List.getElem?_append_left hlt] at h
        exact ih p h
      · rw [List.getElem?_append_right (by omega)] at h
        cases q : lead free c m with
        | false => rw [q] at h; simp at h
        | true =>
          rw [q] at h
          simp only [cond_true] at h
          have hp := (List.getElem?_eq_some_iff.1 h).1
          simp only [List.length_singleton] at hp
          have e : p - (firsts free c m).length = 0 := by omega
          rw [e] at h
          simp at h
          rw [← h, ← length_firsts free c m]
          omega
  exact key m p h
/-- The group of a body. -/
def groupOf (free : Nat → Bool) (c : Nat → Nat) (i : Nat) : Int := bif free i then (num free c (c i) : Int) else -1
end Go.Proofs.Ytdhbkcaaijgocaa.Grp
