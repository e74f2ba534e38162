/-
  A call does what the table says of the called function: what comes back.
  No condition.
-/
import Derived.Test.YtmflfpedmbfhkaaSymM
namespace Go.Proofs.Ytmflfpedmbfhkaa.Sym
open Go
set_option linter.unusedVariables false
set_option linter.unusedSimpArgs false

/-- What is known behind a call. -/
structure Came (env : Env) (H : Hp) (β : List Src) (d : Nat) (L L' : List Ent) (E : List (Option Addr × Nat)) (hs : List (Nat × Ent)) (envc : Env) : Prop where
  l1 : L.length = β.length
  one : ∀ (k : Nat) e, L[k]? = some e → ∃ s, β[k]? = some s ∧ LentOne env H s e (envOf E k)
  once : allOnce β L = true
  len : L.length ≤ L'.length
  keep : ∀ (k : Nat) b, L[k]? = some (false, b) → L'[k]? = some (false, b)
  wrt : ∀ (k : Nat) b, L[k]? = some (true, b) → ∃ b', L'[k]? = some (true, b') ∧ stays b b'
  new : ∀ (k : Nat) e, L.length ≤ k → L'[k]? = some e → e.1 = true
  free : ∀ i, i < L'.length - L.length → H (nm d + i) = none
  back : backH β d β L L' 0 = some hs
  same : ∀ j, j < L.length → envc j = envOf E j
  cap : ∀ j rw U xs, H j = some (rw, .vec U xs) → xs.length ≤ (env j).2

def envB (env : Env) (d : Nat) (L L' : List Ent) (envc : Env) : Env := fun n => if nm d ≤ n ∧ n < nm d + (L'.length - L.length) then envc (L.length + (n - nm d)) else env n

section
variable {P : Program} {wr : Nat → Prop} {env env' : Env} {H H' : Hp} {a : Act} {w w' : World} {T : Nat → SV} {δ : Delta}
variable {β : List Src} {d : Nat} {L L' : List Ent} {E : List (Option Addr × Nat)} {hs : List (Nat × Ent)} {envc : Env}

theorem LentOne.has {s : Src} {e : Ent} {x : Option Addr × Nat} (h : LentOne env H s e x) {j : Nat} (hj : s.name = some j) : ∃ y, H j = some y := by
  cases s with
  | nil => cases hj
  | whole i =>
    cases hj
    obtain ⟨_, ⟨rw, U, xs, h1, _⟩ | ⟨rw, cs, cs', h1, _⟩⟩ := h
    · exact ⟨_, h1⟩
    · exact ⟨_, h1⟩
  | part i lo n =>
    cases hj
    obtain ⟨rw, U, xs, h1, _⟩ := h
    exact ⟨_, h1⟩

theorem LentOne.whole {s : Src} {b : Blk} {x : Option Addr × Nat} (h : LentOne env H s (true, b) x) : ∃ j, s = .whole j := by
  cases s with
  | nil => obtain ⟨U, h, _⟩ := h; cases h
  | whole i => exact ⟨i, rfl⟩
  | part i lo n => obtain ⟨rw, U, xs, _, h, _⟩ := h; cases h

theorem Came.old (c : Came env H β d L L' E hs envc) {j : Nat} {y : Ent} (hj : H j = some y) : envB env d L L' envc j = env j := by
  unfold envB
  split
  · rename_i h
    have := c.free (j - nm d) (by omega)
    rw [show nm d + (j - nm d) = j by omega, hj] at this
    cases this
  · rfl

theorem Came.named (c : Came env H β d L L' E hs envc) {k j : Nat} {s : Src} {e : Ent} (hs' : β[k]? = some s) (he : L[k]? = some e) (hn : s.name = some j) : ∃ y, H j = some y := by
  obtain ⟨s', h1, h2⟩ := c.one k e he
  rw [hs'] at h1
  cases h1
  exact h2.has hn

theorem Came.stands (c : Came env H β d L L' E hs envc) {n : Nat} {e : Ent} (h : (n, e) ∈ hs) : ∃ (k : Nat) (x x' : Blk), L'[k]? = some (true, x) ∧ envB env d L L' envc n = envc k ∧ backBlk β d x = some x' ∧ e = (true, x') ∧
    ((β[k]? = some (.whole n) ∧ ∃ b, L[k]? = some (true, b)) ∨ (n = nm d + (k - L.length) ∧ L.length ≤ k ∧ k < L'.length)) := by
  rcases backH_mem c.back n e h with ⟨k, b, x, r, x', h1, h2, h3, h4, h5⟩ | ⟨i, x, x', h1, h2, h3, h4⟩
  · obtain ⟨b', h6, _⟩ := c.wrt k b h2
    rw [h3] at h6
    cases h6
    obtain ⟨y, hy⟩ := c.named h1 h2 rfl
    obtain ⟨s, h7, h8⟩ := c.one k _ h2
    rw [h1] at h7
    cases h7
    refine ⟨k, x, x', h3, ?_, h4, h5, .inl ⟨h1, b, h2⟩⟩
    rw [c.old hy, c.same k (List.getElem?_eq_some_iff.1 h2).1]
    exact h8.1.symm
  · have hlt : L.length + i < L'.length := (List.getElem?_eq_some_iff.1 h2).1
    refine ⟨L.length + i, x, x', h2, ?_, h3, h4, .inr ⟨by omega, by omega, hlt⟩⟩
    unfold envB
    rw [if_pos (by omega)]
    congr 1
    omega

theorem Came.lookW (c : Came env H β d L L' E hs envc) {k j : Nat} {b x : Blk} {r : Bool} (h1 : β[k]? = some (.whole j)) (h2 : L[k]? = some (true, b)) (h3 : L'[k]? = some (r, x)) :
    ∃ x', backBlk β d x = some x' ∧ updH H hs j = some (true, x') := by
  obtain ⟨x1, h4, h5⟩ := (backH_has c.back).1 k j b r x h1 h2 h3
  obtain ⟨e', h6, h7⟩ := mem_look h5
  refine ⟨x1, h4, ?_⟩
  simp only [updH, h6]
  rcases backH_mem c.back j e' h7 with ⟨k2, b2, y, r2, x2, q1, q2, q3, q4, q5⟩ | ⟨i, y, x2, q1, q2, q3, q4⟩
  · by_cases hk : k2 = k
    · subst hk
      rw [h3] at q3
      cases q3
      rw [h4] at q4
      cases q4
      rw [q5]
    · rcases Nat.lt_or_gt_of_ne hk with hlt | hlt
      · have := (allOnce_spec c.once c.l1 k2 k _ _ _ _ j hlt q1 q2 h1 h2 rfl rfl).1
        simp at this
      · have := (allOnce_spec c.once c.l1 k k2 _ _ _ _ j hlt h1 h2 q1 q2 rfl rfl).1
        simp at this
  · obtain ⟨y', hy⟩ := c.named h1 h2 rfl
    have hlt : L.length + i < L'.length := (List.getElem?_eq_some_iff.1 q2).1
    have := c.free i (by omega)
    rw [show nm d + i = j by omega, hy] at this
    cases this

theorem Came.lookN (c : Came env H β d L L' E hs envc) {i : Nat} {x : Blk} {r : Bool} (h3 : L'[L.length + i]? = some (r, x)) : ∃ x', backBlk β d x = some x' ∧ updH H hs (nm d + i) = some (true, x') := by
  have hlt : L.length + i < L'.length := (List.getElem?_eq_some_iff.1 h3).1
  obtain ⟨x1, h4, h5⟩ := (backH_has c.back).2 i r x h3
  rw [Nat.zero_add] at h5
  obtain ⟨e', h6, h7⟩ := mem_look h5
  refine ⟨x1, h4, ?_⟩
  simp only [updH, h6]
  rcases backH_mem c.back _ e' h7 with ⟨k2, b2, y, r2, x2, q1, q2, q3, q4, q5⟩ | ⟨i2, y, x2, q1, q2, q3, q4⟩
  · obtain ⟨y', hy⟩ := c.named q1 q2 rfl
    have := c.free i (by omega)
    rw [hy] at this
    cases this
  · have : i2 = i := by omega
    subst this
    rw [h3] at q2
    cases q2
    rw [h4] at q3
    cases q3
    rw [q4]

theorem Came.lookR (c : Came env H β d L L' E hs envc) {k j : Nat} {b : Blk} {s : Src} (h1 : β[k]? = some s) (h2 : L[k]? = some (false, b)) (hn : s.name = some j) : updH H hs j = H j := by
  unfold updH
  split
  · rename_i e he
    obtain ⟨y', hy⟩ := c.named h1 h2 hn
    rcases backH_mem c.back j e (look_mem he) with ⟨k2, b2, y, r2, x2, q1, q2, q3, q4, q5⟩ | ⟨i, y, x2, q1, q2, q3, q4⟩
    · by_cases hk : k2 = k
      · subst hk
        rw [h2] at q2
        cases q2
      · rcases Nat.lt_or_gt_of_ne hk with hlt | hlt
        · have := (allOnce_spec c.once c.l1 k2 k _ _ _ _ j hlt q1 q2 h1 h2 rfl hn).1
          simp at this
        · have := (allOnce_spec c.once c.l1 k k2 _ _ _ _ j hlt h1 h2 q1 q2 hn rfl).2
          simp at this
    · have hlt : L.length + i < L'.length := (List.getElem?_eq_some_iff.1 q2).1
      have := c.free i (by omega)
      rw [show nm d + i = j by omega, hy] at this
      cases this
  · rfl

theorem Came.ext (c : Came env H β d L L' E hs envc) : Ext env H (envB env d L L' envc) (updH H hs) := ⟨fun j r b hj => by
  refine ⟨c.old hj, ?_⟩
  unfold updH
  split
  · rename_i e he
    rcases backH_mem c.back j e (look_mem he) with ⟨k, b0, x, r2, x2, q1, q2, q3, q4, q5⟩ | ⟨i, y, x2, q1, q2, q3, q4⟩
    · refine ⟨true, x2, by rw [q5], ?_⟩
      obtain ⟨b', h6, hst⟩ := c.wrt k b0 q2
      rw [q3] at h6
      cases h6
      obtain ⟨s, h7, h8⟩ := c.one k _ q2
      rw [q1] at h7
      cases h7
      obtain ⟨_, ⟨rw, U, xs, h9, h10, _⟩ | ⟨rw, cs, cs', h9, h10⟩⟩ := h8
      · rw [hj] at h9
        cases h9
        simp only at h10
        subst h10
        cases x with
        | box cs => simp [stays] at hst
        | vec V ys => simp only [backBlk, Option.some.injEq] at q4; subst q4; exact hst
        | dead => simp only [backBlk, Option.some.injEq] at q4; subst q4; exact hst
      · rw [hj] at h9
        cases h9
        cases h10
        cases x with
        | box cs =>
          simp only [backBlk, Option.map_eq_some_iff] at q4
          obtain ⟨q, _, q4⟩ := q4
          subst q4
          simp [stays]
        | vec V ys => simp [stays] at hst
        | dead => simp only [backBlk, Option.some.injEq] at q4; subst q4; exact hst
    · have hlt : L.length + i < L'.length := (List.getElem?_eq_some_iff.1 q2).1
      have := c.free i (by omega)
      rw [show nm d + i = j by omega, hj] at this
      cases this
  · exact ⟨r, b, hj, stays_refl b⟩⟩

/-- Where a canonical name leads. -/
theorem Came.name (c : Came env H β d L L' E hs envc) {k j : Nat} (hb : backN β d k = some j) {r : Bool} {x : Blk} (hx : L'[k]? = some (r, x)) :
    envB env d L L' envc j = envc k ∧ ((∃ x', backBlk β d x = some x' ∧ updH H hs j = some (true, x')) ∨ (∃ rw, updH H hs j = some (rw, x)) ∨ ∃ rw cs cs', x = .box cs' ∧ updH H hs j = some (rw, .box cs)) := by
  unfold backN at hb
  split at hb
  · rename_i hlt
    have hlt : k < β.length := Nat.le_of_ble_eq_true hlt
    split at hb
    · rename_i j' hj'
      cases hb
      obtain ⟨⟨r0, b0⟩, he⟩ : ∃ e, L[k]? = some e := ⟨L[k]'(by rw [c.l1]; exact hlt), List.getElem?_eq_getElem _⟩
      obtain ⟨s, h7, h8⟩ := c.one k _ he
      rw [hj'] at h7
      cases h7
      obtain ⟨y, hy⟩ := h8.has rfl
      refine ⟨by rw [c.old hy, c.same k (by rw [c.l1]; exact hlt)]; exact h8.1.symm, ?_⟩
      cases r0 with
      | true => exact .inl (c.lookW hj' he hx)
      | false =>
        right
        have h1 := c.lookR hj' he rfl
        rw [c.keep k b0 he] at hx
        cases hx
        obtain ⟨_, ⟨rw, U, xs, h9, h10, _⟩ | ⟨rw, cs, cs', h9, h10⟩⟩ := h8
        · left
          simp only at h10
          exact ⟨rw, by rw [h1, h9, h10]⟩
        · right
          cases h10
          exact ⟨_, cs, cs', rfl, by rw [h1, h9]⟩
    · cases hb
  · rename_i hlt
    have hlt : ¬ k < β.length := fun q => by
      have := Nat.ble_eq_true_of_le q
      unfold Nat.blt at hlt
      rw [this] at hlt
      cases hlt
    cases hb
    have hl := c.l1
    have hk : k < L'.length := (List.getElem?_eq_some_iff.1 hx).1
    refine ⟨?_, .inl ?_⟩
    · unfold envB
      rw [if_pos (by omega)]
      congr 1
      omega
    · have := c.lookN (i := k - β.length) (r := r) (x := x) (by rw [show L.length + (k - β.length) = k by omega]; exact hx)
      exact this

theorem Came.conc1 (c : Came env H β d L L' E hs envc) {s s' : SV} {v : Value} (hb : back1 β d s = some s') (h : concC envc (ofL L') s v) : concC (envB env d L L' envc) (updH H hs) s' v := by
  have ptr : ∀ n e o j, backN β d n = some j → concC envc (ofL L') (.ptr n e o) v → concC (envB env d L L' envc) (updH H hs) (.ptr j e o) v := by
    intro n e o j hj h
    simp only [concC, ofL] at h ⊢
    cases hx : L'[n]? with
    | none => simp [hx] at h
    | some y =>
      obtain ⟨r, x⟩ := y
      obtain ⟨h1, h2⟩ := c.name hj hx
      rw [hx] at h
      rw [h1]
      rcases h2 with ⟨x', h2, h3⟩ | ⟨rw, h3⟩ | ⟨rw, cs, cs', h2, h3⟩
      · rw [h3]
        cases x with
        | box cs =>
          simp only [backBlk, Option.map_eq_some_iff] at h2
          obtain ⟨q, _, h2⟩ := h2
          subst h2
          exact h
        | vec U xs => simp only [backBlk, Option.some.injEq] at h2; subst h2; exact h
        | dead => simp only [backBlk, Option.some.injEq] at h2; subst h2; exact h
      · rw [h3]
        cases x <;> exact h
      · rw [h3]
        subst h2
        exact h
  have vec : ∀ n j, backN β d n = some j → concC envc (ofL L') (.vec n) v → concC (envB env d L L' envc) (updH H hs) (.vec j) v := by
    intro n j hj h
    simp only [concC, ofL] at h ⊢
    cases hx : L'[n]? with
    | none => simp [hx] at h
    | some y =>
      obtain ⟨r, x⟩ := y
      obtain ⟨h1, h2⟩ := c.name hj hx
      rw [hx] at h
      rw [h1]
      rcases h2 with ⟨x', h2, h3⟩ | ⟨rw, h3⟩ | ⟨rw, cs, cs', h2, h3⟩
      · rw [h3]
        cases x with
        | box cs => simp at h
        | vec U xs => simp only [backBlk, Option.some.injEq] at h2; subst h2; exact h
        | dead => simp only [backBlk, Option.some.injEq] at h2; subst h2; exact h
      · rw [h3]
        cases x <;> exact h
      · subst h2
        simp at h
  cases s with
  | int k n => cases hb; exact h
  | bool b => cases hb; exact h
  | nilp => cases hb; exact h
  | nilsl => cases hb; exact h
  | ptr n e o =>
    simp only [back1, Option.map_eq_some_iff] at hb
    obtain ⟨j, hj, hb⟩ := hb
    subst hb
    exact ptr n e o j hj h
  | vec n =>
    simp only [back1] at hb
    split at hb
    · rename_i hlt
      have hlt' : n < β.length := Nat.le_of_ble_eq_true hlt
      obtain ⟨⟨r0, b0⟩, he⟩ : ∃ e, L[n]? = some e := ⟨L[n]'(by rw [c.l1]; exact hlt'), List.getElem?_eq_getElem _⟩
      obtain ⟨s, h7, h8⟩ := c.one n _ he
      have hsame := c.same n (by rw [c.l1]; exact hlt')
      rw [h7] at hb
      cases s with
      | whole j =>
        cases hb
        exact vec n j (by simp only [backN, hlt, h7]) h
      | part j lo m =>
        cases hb
        obtain ⟨rw, U, xs, h1, h2, h3, h4, h5⟩ := h8
        have hr := c.lookR h7 (by rw [he, h2]) rfl
        cases h2
        have hk := c.keep n _ he
        simp only [concC, ofL, hk, hr, h1, c.old h1] at h ⊢
        have hlen2 : ((xs.drop lo).take m).length = m := by simp; omega
        rw [hlen2, hsame, h4] at h
        exact ⟨h3, _, h, h5⟩
      | nil =>
        cases hb
        obtain ⟨U, h2, h3⟩ := h8
        cases h2
        have hk := c.keep n _ he
        simp only [concC, ofL, hk, hsame, h3] at h ⊢
        exact ⟨_, h⟩
    · rename_i hlt
      cases hb
      exact vec n _ (by simp only [backN, hlt]) h
  | sl n lo' m' =>
    have sl : ∀ j, backN β d n = some j → concC (envB env d L L' envc) (updH H hs) (.sl j lo' m') v := by
      intro j hj
      simp only [concC, ofL] at h ⊢
      cases hx : L'[n]? with
      | none => simp [hx] at h
      | some y =>
        obtain ⟨r, x⟩ := y
        obtain ⟨h1, h2⟩ := c.name hj hx
        rw [hx] at h
        rw [h1]
        rcases h2 with ⟨x', h2, h3⟩ | ⟨rw, h3⟩ | ⟨rw, cs, cs', h2, h3⟩
        · rw [h3]
          cases x with
          | box cs => simp at h
          | vec U xs => simp only [backBlk, Option.some.injEq] at h2; subst h2; exact h
          | dead => simp only [backBlk, Option.some.injEq] at h2; subst h2; exact h
        · rw [h3]
          cases x <;> exact h
        · subst h2
          simp at h
    simp only [back1] at hb
    split at hb
    · rename_i hlt
      have hlt' : n < β.length := Nat.le_of_ble_eq_true hlt
      obtain ⟨⟨r0, b0⟩, he⟩ : ∃ e, L[n]? = some e := ⟨L[n]'(by rw [c.l1]; exact hlt'), List.getElem?_eq_getElem _⟩
      obtain ⟨s, h7, h8⟩ := c.one n _ he
      have hsame := c.same n (by rw [c.l1]; exact hlt')
      rw [h7] at hb
      cases s with
      | whole j =>
        cases hb
        exact sl j (by simp only [backN, hlt, h7])
      | part j lo m =>
        cases hb
        obtain ⟨rw, U, xs, h1, h2, h3, h4, h5⟩ := h8
        have hr := c.lookR h7 (by rw [he, h2]) rfl
        have hcap := c.cap j rw U xs h1
        cases h2
        have hk := c.keep n _ he
        simp only [concC, ofL, hk, hr, h1, c.old h1, hsame, h4] at h ⊢
        obtain ⟨q1, x, q2, q3⟩ := h
        have hlen2 : ((xs.drop lo).take m).length = m := by simp; omega
        rw [hlen2] at q1
        refine ⟨by omega, x, by rw [q2]; congr 1; omega, ?_⟩
        rcases h5 with h5 | h5
        · left; omega
        · rcases q3 with q3 | q3
          · left; omega
          · right
            rw [q3, h5]
            cases (env j).1 with
            | none => rfl
            | some a => simp only [Option.map_some, Addr.add]; rw [Nat.add_mul]; split <;> split <;> simp_all [Nat.add_assoc] <;> omega
      | nil =>
        cases hb
        obtain ⟨U, h2, h3⟩ := h8
        cases h2
        have hk := c.keep n _ he
        simp only [concC, ofL, hk, hsame, h3, List.length_nil] at h ⊢
        obtain ⟨q1, x, q2, q3⟩ := h
        have : m' = 0 := by omega
        subst this
        exact ⟨x, by rw [q2]; congr 1; omega⟩
    · rename_i hlt
      cases hb
      exact sl _ (by simp only [backN, hlt])
  | fn f cap => cases hb
  | agg cs => cases hb
  | tup cs => cases hb
  | any => cases hb

theorem Came.concs (c : Came env H β d L L' E hs envc) : ∀ {ss ss' : List SV} {vs : List Value}, backs β d ss = some ss' → concCs envc (ofL L') ss vs → concCs (envB env d L L' envc) (updH H hs) ss' vs
  | [], ss', [], hb, h => by cases hb; trivial
  | s :: ss, ss', v :: vs, hb, h => by
    simp only [backs] at hb
    split at hb
    · cases hb
      exact ⟨c.conc1 (by assumption) h.1, c.concs (by assumption) h.2⟩
    · cases hb

theorem Came.conc2 (c : Came env H β d L L' E hs envc) {s s' : SV} {v : Value} (hb : back2 β d s = some s') (h : conc2 envc (ofL L') s v) : conc2 (envB env d L L' envc) (updH H hs) s' v := by
  unfold back2 at hb
  split at hb
  · simp only [Option.map_eq_some_iff] at hb
    obtain ⟨q, hq, hb⟩ := hb
    subst hb
    obtain ⟨vs, e, h⟩ := h
    exact ⟨vs, e, c.concs hq h⟩
  · rename_i hna
    have h : concC envc (ofL L') s v := by cases s <;> first | exact h | exact absurd rfl (hna _)
    exact conc2_of_concC (c.conc1 hb h)

theorem Came.conc2s (c : Came env H β d L L' E hs envc) : ∀ {ss ss' : List SV} {vs : List Value}, back2s β d ss = some ss' → conc2s envc (ofL L') ss vs → conc2s (envB env d L L' envc) (updH H hs) ss' vs
  | [], ss', [], hb, h => by cases hb; trivial
  | s :: ss, ss', v :: vs, hb, h => by
    simp only [back2s] at hb
    split at hb
    · cases hb
      exact ⟨c.conc2 (by assumption) h.1, c.conc2s (by assumption) h.2⟩
    · cases hb

theorem Came.conc3 (c : Came env H β d L L' E hs envc) {s s' : SV} {v : Value} (hb : back3 β d s = some s') (h : conc envc (ofL L') s v) : conc (envB env d L L' envc) (updH H hs) s' v := by
  unfold back3 at hb
  split at hb
  · simp only [Option.map_eq_some_iff] at hb
    obtain ⟨q, hq, hb⟩ := hb
    subst hb
    obtain ⟨vs, e, h⟩ := h
    exact ⟨vs, e, c.conc2s hq h⟩
  · rename_i hna
    have h : Sym.conc2 envc (ofL L') s v := by cases s <;> first | exact h | exact absurd rfl (hna _)
    exact conc_of_conc2 (c.conc2 hb h)

theorem Came.blk (c : Came env H β d L L' E hs envc) {k n : Nat} {r : Bool} {x x' : Blk} (he : envB env d L L' envc n = envc k) (hb : backBlk β d x = some x') (h : blkRel envc (ofL L') k r x w) :
    blkRel (envB env d L L' envc) (updH H hs) n r x' w := by
  cases x with
  | box cs =>
    simp only [backBlk, Option.map_eq_some_iff] at hb
    obtain ⟨q, hq, hb⟩ := hb
    subst hb
    obtain ⟨b, E, vs, fz, h1, h2, h3, h4⟩ := h
    exact ⟨b, E, vs, fz, by rw [he]; exact h1, h2, c.concs hq h3, h4⟩
  | vec U xs =>
    simp only [backBlk, Option.some.injEq] at hb
    subst hb
    simp only [blkRel, he]
    exact h
  | dead =>
    simp only [backBlk, Option.some.injEq] at hb
    subst hb
    trivial

theorem own_back {k n : Nat} {x x' : Blk} (he : env' n = envc k) (hb : backBlk β d x = some x') : own env' n x' = own envc k x := by
  cases x with
  | box cs =>
    simp only [backBlk, Option.map_eq_some_iff] at hb
    obtain ⟨q, hq, hb⟩ := hb
    subst hb
    simp [own, he]
  | vec U xs =>
    simp only [backBlk, Option.some.injEq] at hb
    subst hb
    simp [own, he]
  | dead =>
    simp only [backBlk, Option.some.injEq] at hb
    subst hb
    rfl

/-- What the called function may write is no block of an untouched name. -/
theorem Came.apart (c : Came env H β d L L' E hs envc) (hh : HRel wr env H w) {k : Nat} {r : Bool} {b : Blk} (hk : look hs k = none) (hb : H k = some (r, b)) {y : Nat} (hy : own env k b = some y) (hw : wrC w (envOf E) L y) : False := by
  have hlt := own_lt hh hb hy
  rcases hw with hw | ⟨i, b', h1, h2⟩
  · omega
  · obtain ⟨s, h3, h4⟩ := c.one i _ h1
    obtain ⟨j, r', b'', q1, q2, q3, q4⟩ := own_src h4 rfl h2
    by_cases hjk : j = k
    · subst hjk
      obtain ⟨j', rfl⟩ := h4.whole
      cases q1
      obtain ⟨x, hx, _⟩ := c.wrt i _ h1
      obtain ⟨x', _, hm⟩ := (backH_has c.back).1 i j b' _ _ h3 h1 hx
      obtain ⟨e', h6, _⟩ := mem_look hm
      rw [h6] at hk
      cases hk
    · exact hh.dj j k r' b'' r b hjk q2 hb (.inl (q4 rfl)) y q3 hy

theorem Came.mayWrite (c : Came env H β d L L' E hs envc) (hh : HRel wr env H w) (hnew : ∀ k, w.heap.size ≤ k → wr k) {y : Nat} (hw : wrC w (envOf E) L y) : wr y := by
  rcases hw with hw | ⟨i, b', h1, h2⟩
  · exact hnew y hw
  · obtain ⟨s, h3, h4⟩ := c.one i _ h1
    obtain ⟨j, r', b'', q1, q2, q3, q4⟩ := own_src h4 rfl h2
    have := q4 rfl
    subst this
    exact hh.wrt j b'' q2 y q3

theorem Came.hrel (c : Came env H β d L L' E hs envc) (hh : HRel wr env H w) (hnew : ∀ k, w.heap.size ≤ k → wr k) (hc : HRel (wrC w (envOf E) L) envc (ofL L') w') (hf : Fr (wrC w (envOf E) L) w w') :
    HRel wr (envB env d L L' envc) (updH H hs) w' := by
  refine hh.step (fun k => look hs k ≠ none) c.ext ?_ ?_
  · intro k r b hk hb
    have hk : look hs k = none := by simpa using hk
    simp only [updH, hk] at hb
    exact ⟨hb, c.old hb, fun y hy => hf.blk y (own_lt hh hb hy) fun hw => c.apart hh hk hb hy hw⟩
  · intro k r b hk hb
    have hb' : look hs k = some (r, b) := by
      simp only [updH] at hb
      split at hb
      · rename_i e he; rw [he, hb]
      · rename_i he; exact absurd he hk
    obtain ⟨i, x, x', q1, q2, q3, q4, q5⟩ := c.stands (look_mem hb')
    cases q4
    refine ⟨c.blk q2 q3 (hc.blk i true x q1), ?_⟩
    intro y hy
    rw [own_back q2 q3] at hy
    have hw := hc.wrt i x q1 y hy
    refine ⟨fun _ => c.mayWrite hh hnew hw, ?_⟩
    intro k2 r2 b2 hne hk2 hy2 _
    by_cases hl2 : look hs k2 = none
    · simp only [updH, hl2] at hk2
      have ho : own env k2 b2 = some y := by
        rw [← hy2]
        cases b2 <;> simp [own, c.old hk2]
      exact c.apart hh hl2 hk2 ho hw
    · have hk2' : look hs k2 = some (r2, b2) := by
        simp only [updH] at hk2
        split at hk2
        · rename_i e he; rw [he, hk2]
        · rename_i he; exact absurd he hl2
      obtain ⟨i2, z, z', p1, p2, p3, p4, p5⟩ := c.stands (look_mem hk2')
      cases p4
      rw [own_back p2 p3] at hy2
      have hii : i2 ≠ i := by
        rintro rfl
        rcases q5 with ⟨q5, b0, q6⟩ | ⟨q5, q6, q7⟩ <;> rcases p5 with ⟨p5, b1, p6⟩ | ⟨p5, p6, p7⟩
        · rw [q5] at p5; cases p5; exact hne rfl
        · have := (List.getElem?_eq_some_iff.1 q6).1; omega
        · have := (List.getElem?_eq_some_iff.1 p6).1; omega
        · omega
      exact hc.dj i2 i true z true x hii p1 q1 (.inl rfl) y hy2 hy

theorem callF_ok (hh : HRel wr env H w) (hnew : ∀ k, w.heap.size ≤ k → wr k) {f : Nat} {fs : Fs} {tss : List (List (Option Ty))} {args : List SV} {us : List Value} (hf : FsOk P f fs)
    (h : (callF fs tss d args).run T H = some δ) (hp : ∀ p, δ.ok = some p → p) (hc : concL env H args us) :
    Calls P f us.toArray w fun e w' => ∃ v, e = .returned v ∧ ∃ env', Ext env H env' (updH H δ.hs) ∧ HRel wr env' (updH H δ.hs) w' ∧ Fr wr w w' ∧ conc env' (updH H δ.hs) δ.v v := by
  unfold callF at h
  obtain ⟨ss, β, L, E, h, hl, _, cc⟩ := lendArgs_inv hh h .nil hc
  split at h
  case h_2 => simp [RM.run] at h
  rename_i p r L' hev
  split at h
  case h_2 => simp [RM.run] at h
  rename_i r' hs ho hr hb
  obtain ⟨h, free⟩ := freshes_inv h
  simp only [RM.run, Option.some.injEq] at h
  subst h
  have sem := hf.sem ss L p r L' hev hp
  refine (sem.run (wrC w (envOf E) L) (envOf E) w us (hl.hrel hh ho) (fun k hk => .inl hk) cc).mono ?_
  rintro e w' ⟨v, envc, rfl, hsame, hc', hv, hfr⟩
  have c : Came env H β d L L' E hs envc := ⟨hl.l1, fun k e he => hl.src he, ho, sem.len, sem.keep, sem.wrt, sem.new, free, hb, hsame, fun j rw U xs hj => (hh.blk j rw _ hj).1⟩
  exact ⟨v, rfl, _, c.ext, c.hrel hh hnew hc' hfr, hfr.weaken fun k hk hw => c.mayWrite hh hnew hw, c.conc3 hr hv⟩

end

end Go.Proofs.Ytmflfpedmbfhkaa.Sym
