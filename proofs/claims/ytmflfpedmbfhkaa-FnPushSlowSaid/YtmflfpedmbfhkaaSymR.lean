/-
  Canonical names.
  No condition.
-/
import Derived.Test.YtmflfpedmbfhkaaSymQ
namespace Go.Proofs.Ytmflfpedmbfhkaa.Sym
open Go
set_option linter.unusedVariables false
set_option linter.unusedSimpArgs false

section
variable {P : Program} {wr : Nat → Prop} {env env' : Env} {w : World}

def CanOne (env : Env) (H : Hp) (s : Src) (e : Ent) (x : Option Addr × Nat) : Prop :=
  match s with
  | .nil => ∃ U, e = (true, .vec U []) ∧ x.2 = 0
  | .whole j => x = env j ∧ ((∃ rw U xs, H j = some (rw, .vec U xs) ∧ e = (rw, .vec U xs)) ∨ ∃ rw cs cs', H j = some (rw, .box cs) ∧ e = (rw, .box cs'))
  | .part _ _ _ => False

structure Canned (m : Nat) (env : Env) (H : Hp) (w : World) (β : List Src) (L : List Ent) (E : List (Option Addr × Nat)) : Prop where
  l1 : L.length = β.length
  l2 : E.length = β.length
  base : ∀ k, k < m → β[k]? = some (.whole k) ∧ E[k]? = some (env k) ∧ L[k]? = H k
  one : ∀ (k : Nat) s e x, m ≤ k → β[k]? = some s → L[k]? = some e → E[k]? = some x → CanOne env H s e x
  blk : ∀ (k : Nat) r b, m ≤ k → L[k]? = some (r, b) → blkRel (envOf E) (ofL L) k r b w
  nodup : ∀ (i k : Nat) j, β[i]? = some (.whole j) → β[k]? = some (.whole j) → i = k

section
variable {m : Nat} {σ : St} {L0 : List Ent} {E : List (Option Addr × Nat)} {z : Can} {r : List SV × List Ent}

theorem Canned.push {β : List Src} {L : List Ent} {H : Hp} (h : Canned m env H w β L E) (hm : m ≤ β.length) {s : Src} {rw : Bool} {b : Blk} {x : Option Addr × Nat} (h1 : CanOne env H s (rw, b) x)
    (h2 : blkRel (envOf (E ++ [x])) (ofL (L ++ [(rw, b)])) L.length rw b w) (h3 : ∀ j, s = .whole j → ∀ k : Nat, β[k]? ≠ some (.whole j)) : Canned m env H w (β ++ [s]) (L ++ [(rw, b)]) (E ++ [x]) := by
  have e1 := h.l1
  have e2 := h.l2
  have ex := ext_append E [x] L [(rw, b)] (by omega)
  refine ⟨by simp [e1], by simp [e2], ?_, ?_, ?_, ?_⟩
  · intro k hk
    rw [List.getElem?_append_left (by omega), List.getElem?_append_left (by omega), List.getElem?_append_left (by omega)]
    exact h.base k hk
  · intro k s' e' x' hmk hs he hx
    rcases Nat.lt_trichotomy k β.length with hk | hk | hk
    · rw [List.getElem?_append_left hk] at hs
      rw [List.getElem?_append_left (by omega)] at he hx
      exact h.one k s' e' x' hmk hs he hx
    · subst hk
      rw [List.getElem?_append_right (Nat.le_refl _)] at hs
      rw [List.getElem?_append_right (by omega)] at he hx
      simp only [Nat.sub_self, List.getElem?_cons_zero, Option.some.injEq, e1, e2] at hs he hx
      subst hs; subst he; subst hx
      exact h1
    · rw [List.getElem?_eq_none (by simp; omega)] at hs
      cases hs
  · intro k r' b' hmk hk
    rcases Nat.lt_trichotomy k L.length with hlt | hlt | hlt
    · rw [List.getElem?_append_left hlt] at hk
      exact blkRel_ext ex (by simp [envOf, List.getD, List.getElem?_append_left (show k < E.length by omega)]) (h.blk k r' b' hmk hk)
    · subst hlt
      rw [List.getElem?_append_right (Nat.le_refl _)] at hk
      simp only [Nat.sub_self, List.getElem?_cons_zero, Option.some.injEq, Prod.mk.injEq] at hk
      obtain ⟨rfl, rfl⟩ := hk
      exact h2
    · rw [List.getElem?_eq_none (by simp; omega)] at hk
      cases hk
  · intro i k j hi hk
    rcases Nat.lt_trichotomy i β.length with hi1 | hi1 | hi1
    · rw [List.getElem?_append_left hi1] at hi
      rcases Nat.lt_trichotomy k β.length with hk1 | hk1 | hk1
      · rw [List.getElem?_append_left hk1] at hk
        exact h.nodup i k j hi hk
      · subst hk1
        rw [List.getElem?_append_right (Nat.le_refl _)] at hk
        simp only [Nat.sub_self, List.getElem?_cons_zero, Option.some.injEq] at hk
        exact absurd hi (h3 j hk i)
      · rw [List.getElem?_eq_none (by simp; omega)] at hk
        cases hk
    · subst hi1
      rw [List.getElem?_append_right (Nat.le_refl _)] at hi
      simp only [Nat.sub_self, List.getElem?_cons_zero, Option.some.injEq] at hi
      rcases Nat.lt_trichotomy k β.length with hk1 | hk1 | hk1
      · rw [List.getElem?_append_left hk1] at hk
        exact absurd hk (h3 j hi k)
      · exact hk1.symm
      · rw [List.getElem?_eq_none (by simp; omega)] at hk
        cases hk
    · rw [List.getElem?_eq_none (by simp; omega)] at hi
      cases hi

theorem posOf_none {j : Nat} : ∀ {β : List Src} {k : Nat}, posOf j β k = none → ∀ i : Nat, β[i]? ≠ some (.whole j)
  | [], k, h, i => by simp
  | .whole x :: r, k, h, i => by
    simp only [posOf] at h
    split at h
    · cases h
    · rename_i hb
      cases i with
      | zero =>
        simp only [List.getElem?_cons_zero, ne_eq, Option.some.injEq, Src.whole.injEq]
        rintro rfl
        simp at hb
      | succ i => simpa using posOf_none h i
  | .nil :: r, k, h, i => by
    simp only [posOf] at h
    cases i with
    | zero => simp
    | succ i => simpa using posOf_none h i
  | .part _ _ _ :: r, k, h, i => by
    simp only [posOf] at h
    cases i with
    | zero => simp
    | succ i => simpa using posOf_none h i

/-- A block under its canonical name: as its own. -/
def SameC (env : Env) (H : Hp) (j : Nat) (envc : Env) (Hc : Hp) (i : Nat) : Prop :=
  envc i = env j ∧ ((∃ rw U xs, H j = some (rw, .vec U xs) ∧ Hc i = some (rw, .vec U xs)) ∨ (∃ rw cs cs', H j = some (rw, .box cs) ∧ Hc i = some (rw, .box cs')) ∨ ∃ rw, H j = some (rw, .dead) ∧ Hc i = some (rw, .dead))

theorem SameC.ptr {H Hc : Hp} {envc : Env} {j i e o : Nat} (h : SameC env H j envc Hc i) {v : Value} (hc : concC env H (.ptr j e o) v) : concC envc Hc (.ptr i e o) v := by
  obtain ⟨h1, ⟨rw, U, xs, a, b⟩ | ⟨rw, cs, cs', a, b⟩ | ⟨rw, a, b⟩⟩ := h <;>
    (simp only [concC, a, b, h1] at hc ⊢; exact hc)

theorem SameC.fn {H Hc : Hp} {envc : Env} {j i f : Nat} (h : SameC env H j envc Hc i) {v : Value} (hc : concC env H (.fn f (some j)) v) : concC envc Hc (.fn f (some i)) v := by
  obtain ⟨h1, ⟨rw, U, xs, a, b⟩ | ⟨rw, cs, cs', a, b⟩ | ⟨rw, a, b⟩⟩ := h
  · simp only [concC, a] at hc
  · simp only [concC, a, b, h1] at hc ⊢; exact hc
  · simp only [concC, a, b, h1] at hc ⊢; exact hc

theorem SameC.vec {H Hc : Hp} {envc : Env} {j i : Nat} (h : SameC env H j envc Hc i) {v : Value} (hc : concC env H (.vec j) v) : concC envc Hc (.vec i) v := by
  obtain ⟨h1, ⟨rw, U, xs, a, b⟩ | ⟨rw, cs, cs', a, b⟩ | ⟨rw, a, b⟩⟩ := h
  · simp only [concC, a, b, h1] at hc ⊢; exact hc
  · simp only [concC, a] at hc
  · simp only [concC, a, b, h1] at hc ⊢; exact hc

theorem SameC.sl {H Hc : Hp} {envc : Env} {j i lo n : Nat} (h : SameC env H j envc Hc i) {v : Value} (hc : concC env H (.sl j lo n) v) : concC envc Hc (.sl i lo n) v := by
  obtain ⟨h1, ⟨rw, U, xs, a, b⟩ | ⟨rw, cs, cs', a, b⟩ | ⟨rw, a, b⟩⟩ := h
  · simp only [concC, a, b, h1] at hc ⊢; exact hc
  · simp only [concC, a] at hc
  · simp only [concC, a, b, h1] at hc ⊢; exact hc

theorem Canned.same {β : List Src} {L : List Ent} {H : Hp} (h : Canned m env H w β L E) {i j : Nat} (hi : β[i]? = some (.whole j)) : SameC env H j (envOf E) (ofL L) i := by
  have hlt : i < β.length := (List.getElem?_eq_some_iff.1 hi).1
  have e1 := h.l1
  have e2 := h.l2
  obtain ⟨e, he⟩ : ∃ e, L[i]? = some e := ⟨L[i]'(by omega), List.getElem?_eq_getElem _⟩
  obtain ⟨x, hx⟩ : ∃ x, E[i]? = some x := ⟨E[i]'(by omega), List.getElem?_eq_getElem _⟩
  by_cases hm : i < m
  · obtain ⟨h1, h2, h3⟩ := h.base i hm
    rw [hi] at h1
    cases h1
    refine ⟨by simp [envOf, List.getD, h2], ?_⟩
    rw [he] at h3
    obtain ⟨rw, b⟩ := e
    cases b with
    | vec U xs => exact .inl ⟨rw, U, xs, h3.symm, he⟩
    | box cs => exact .inr (.inl ⟨rw, cs, cs, h3.symm, he⟩)
    | dead => exact .inr (.inr ⟨rw, h3.symm, he⟩)
  · obtain ⟨h1, h2⟩ := h.one i _ e x (by omega) hi he hx
    refine ⟨by simp [envOf, List.getD, hx, h1], ?_⟩
    rcases h2 with ⟨rw, U, xs, a, b⟩ | ⟨rw, cs, cs', a, b⟩
    · exact .inl ⟨rw, U, xs, a, by rw [← b]; exact he⟩
    · exact .inr (.inl ⟨rw, cs, cs', a, by rw [← b]; exact he⟩)

/-- What is known along the way. -/
structure Way (m : Nat) (env : Env) (σ : St) (w : World) (L0 : List Ent) (z : Can) (E : List (Option Addr × Nat)) : Prop where
  can : Canned m env σ.blk w z.β (L0 ++ z.P) E
  len : L0.length = m

theorem Way.le (h : Way m env σ w L0 z E) : m ≤ z.β.length := by
  have := h.can.l1
  have := h.len
  simp at *
  omega

theorem Way.ext {z' : Can} {E' : List (Option Addr × Nat)} (h : Way m env σ w L0 z E) (g : Grow z.β (L0 ++ z.P) E z'.β (L0 ++ z'.P) E') : Ext (envOf E) (ofL (L0 ++ z.P)) (envOf E') (ofL (L0 ++ z'.P)) :=
  g.ext (by have := h.can.l1; have := h.can.l2; omega)

/-- A new name. -/
theorem Way.push (h : Way m env σ w L0 z E) {s : Src} {rw : Bool} {b : Blk} {x : Option Addr × Nat} (h1 : CanOne env σ.blk s (rw, b) x)
    (h2 : blkRel (envOf (E ++ [x])) (ofL ((L0 ++ z.P) ++ [(rw, b)])) z.β.length rw b w) (h3 : ∀ j, s = .whole j → ∀ k : Nat, z.β[k]? ≠ some (.whole j)) :
    Way m env σ w L0 ⟨z.β ++ [s], z.P ++ [(rw, b)]⟩ (E ++ [x]) ∧ Grow z.β (L0 ++ z.P) E (z.β ++ [s]) (L0 ++ (z.P ++ [(rw, b)])) (E ++ [x]) := by
  refine ⟨⟨?_, h.len⟩, ⟨[s], [(rw, b)], [x], rfl, by simp, rfl⟩⟩
  have := h.can.push h.le h1 (by rw [h.can.l1]; exact h2) h3
  simpa using this

theorem Way.last (h : Way m env σ w L0 z E) (x : Option Addr × Nat) (e : Ent) : envOf (E ++ [x]) z.β.length = x ∧ ofL ((L0 ++ z.P) ++ [e]) z.β.length = some e := by
  rw [← h.can.l2]
  refine ⟨envOf_last E x, ?_⟩
  rw [h.can.l2, ← h.can.l1]
  exact ofL_last _ e

theorem Way.newVec (h : Way m env σ w L0 z E) (hh : HRel wr env σ.blk w) {j : Nat} {rw : Bool} {U : Ty} {xs : List U.El} (hj : σ.blk j = some (rw, .vec U xs)) (hn : posOf j z.β 0 = none) :
    Way m env σ w L0 ⟨z.β ++ [.whole j], z.P ++ [(rw, .vec U xs)]⟩ (E ++ [env j]) ∧ Grow z.β (L0 ++ z.P) E (z.β ++ [.whole j]) (L0 ++ (z.P ++ [(rw, .vec U xs)])) (E ++ [env j]) ∧
    SameC env σ.blk j (envOf (E ++ [env j])) (ofL (L0 ++ (z.P ++ [(rw, .vec U xs)]))) z.β.length := by
  obtain ⟨l1, l2⟩ := h.last (env j) (rw, .vec U xs)
  obtain ⟨a, b⟩ := h.push (s := .whole j) (x := env j) (rw := rw) (b := .vec U xs) ⟨rfl, .inl ⟨rw, U, xs, hj, rfl⟩⟩ (by
    have := hh.blk j rw _ hj
    simp only [blkRel, l1] at this ⊢
    exact this) (fun j' e k => by cases e; exact posOf_none hn k)
  refine ⟨a, b, l1, .inl ⟨rw, U, xs, hj, ?_⟩⟩
  rw [← List.append_assoc]
  exact l2

theorem can0_inv (hh : HRel wr env σ.blk w) {ct : Option Ty} {c : SV} {k : SV → Can → Option (List SV × List Ent)} (h : can0 σ ct c z k = some r) (hw : Way m env σ w L0 z E) {v : Value} (hc : concC env σ.blk c v) :
    ∃ s z' E', k s z' = some r ∧ Way m env σ w L0 z' E' ∧ Grow z.β (L0 ++ z.P) E z'.β (L0 ++ z'.P) E' ∧ concC (envOf E') (ofL (L0 ++ z'.P)) s v := by
  unfold can0 at h
  split at h
  · rename_i j
    split at h
    · rename_i i hi
      obtain ⟨q, e, hq⟩ := posOf_inv hi
      rw [Nat.zero_add] at e
      subst e
      exact ⟨_, z, E, h, hw, .refl _ _ _, (hw.can.same hq).vec hc⟩
    · rename_i hn
      split at h
      case h_2 => cases h
      rename_i rw U xs hj
      obtain ⟨a, b, sm⟩ := hw.newVec hh hj hn
      exact ⟨_, _, _, h, a, b, sm.vec hc⟩
  · rename_i j lo n
    split at h
    · rename_i i hi
      obtain ⟨q, e, hq⟩ := posOf_inv hi
      rw [Nat.zero_add] at e
      subst e
      exact ⟨_, z, E, h, hw, .refl _ _ _, (hw.can.same hq).sl hc⟩
    · rename_i hn
      split at h
      case h_2 => cases h
      rename_i rw U xs hj
      obtain ⟨a, b, sm⟩ := hw.newVec hh hj hn
      exact ⟨_, _, _, h, a, b, sm.sl hc⟩
  · split at h
    · rename_i U
      obtain ⟨x, rfl⟩ := hc
      obtain ⟨l1, l2⟩ := hw.last (x, 0) (true, .vec U [])
      obtain ⟨a, b⟩ := hw.push (s := .nil) (x := (x, 0)) (rw := true) (b := .vec U []) ⟨U, rfl, rfl⟩ (by
        simp only [blkRel, l1]
        exact ⟨Nat.le_refl _, .inl trivial⟩) (fun j e => by cases e)
      refine ⟨_, _, _, h, a, b, ?_⟩
      simp only [concC]
      rw [← List.append_assoc, l2]
      simp only [l1]
      rfl
    · exact ⟨_, z, E, h, hw, .refl _ _ _, hc⟩
  · exact ⟨_, z, E, h, hw, .refl _ _ _, hc⟩
  · exact ⟨_, z, E, h, hw, .refl _ _ _, hc⟩
  · exact ⟨_, z, E, h, hw, .refl _ _ _, hc⟩
  · exact ⟨_, z, E, h, hw, .refl _ _ _, hc⟩
  · cases h

theorem can0s_inv (hh : HRel wr env σ.blk w) : ∀ {cs : List SV} {cts : List (Option Ty)} {z : Can} {E : List (Option Addr × Nat)} {k : List SV → Can → Option (List SV × List Ent)} {vs : List Value}, can0s σ cts cs z k = some r → Way m env σ w L0 z E → concCs env σ.blk cs vs →
    ∃ ss z' E', k ss z' = some r ∧ Way m env σ w L0 z' E' ∧ Grow z.β (L0 ++ z.P) E z'.β (L0 ++ z'.P) E' ∧ concCs (envOf E') (ofL (L0 ++ z'.P)) ss vs
  | [], cts, z, E, k, [], h, hw, hc => ⟨[], z, E, h, hw, .refl _ _ _, trivial⟩
  | c :: cs, cts, z, E, k, v :: vs, h, hw, hc => by
    simp only [can0s] at h
    obtain ⟨s, z1, E1, h, hw1, g1, c1⟩ := can0_inv hh h hw hc.1
    obtain ⟨ss, z2, E2, h, hw2, g2, c2⟩ := can0s_inv hh h hw1 hc.2
    exact ⟨s :: ss, z2, E2, h, hw2, g1.trans g2, concC_ext (hw1.ext g2) c1, c2⟩

theorem Way.newBox (h : Way m env σ w L0 z E) {j : Nat} {rw : Bool} {cs ss : List SV} (hj : σ.blk j = some (rw, .box cs)) (hn : ∀ q : Nat, z.β[q]? ≠ some (.whole j))
    (hb : ∃ b E0 vs fz, (env j).1 = some ⟨b, 0, none⟩ ∧ w.heap[b]? = some (.cells vs E0 fz) ∧ concCs (envOf E) (ofL (L0 ++ z.P)) ss vs.toList ∧ (rw = true → fz = (0, 0))) :
    Way m env σ w L0 ⟨z.β ++ [.whole j], z.P ++ [(rw, .box ss)]⟩ (E ++ [env j]) ∧ Grow z.β (L0 ++ z.P) E (z.β ++ [.whole j]) (L0 ++ (z.P ++ [(rw, .box ss)])) (E ++ [env j]) ∧
    SameC env σ.blk j (envOf (E ++ [env j])) (ofL (L0 ++ (z.P ++ [(rw, .box ss)]))) z.β.length := by
  obtain ⟨l1, l2⟩ := h.last (env j) (rw, .box ss)
  obtain ⟨a, b⟩ := h.push (s := .whole j) (x := env j) (rw := rw) (b := .box ss) ⟨rfl, .inr ⟨rw, cs, ss, hj, rfl⟩⟩ (by
    obtain ⟨b, E0, vs, fz, h1, h2, h3, h4⟩ := hb
    refine ⟨b, E0, vs, fz, by rw [l1]; exact h1, h2, concCs_ext (ext_append _ _ _ _ ?_) h3, h4⟩
    have := h.can.l1; have := h.can.l2; omega) (fun j' e k => by cases e; exact hn k)
  refine ⟨a, b, l1, .inr (.inl ⟨rw, cs, ss, hj, ?_⟩)⟩
  rw [← List.append_assoc]
  exact l2

theorem canB_inv (hh : HRel wr env σ.blk w) {cts : List (Option Ty)} {j : Nat} {k : Nat → Can → Option (List SV × List Ent)} (h : canB σ cts j z k = some r) (hw : Way m env σ w L0 z E) :
    ∃ i z' E', k i z' = some r ∧ Way m env σ w L0 z' E' ∧ Grow z.β (L0 ++ z.P) E z'.β (L0 ++ z'.P) E' ∧ SameC env σ.blk j (envOf E') (ofL (L0 ++ z'.P)) i := by
  unfold canB at h
  split at h
  · rename_i i hi
    obtain ⟨q, e, hq⟩ := posOf_inv hi
    rw [Nat.zero_add] at e
    subst e
    exact ⟨_, z, E, h, hw, .refl _ _ _, hw.can.same hq⟩
  · rename_i hn
    split at h
    · rename_i rw cs hj
      obtain ⟨b, E0, vs, fz, h1, h2, h3, h4⟩ := hh.blk j rw _ hj
      obtain ⟨ss, z1, E1, h, hw1, g1, c1⟩ := can0s_inv hh h hw h3
      split at h
      case h_2 => cases h
      rename_i hn1
      obtain ⟨a, b', sm⟩ := hw1.newBox hj (posOf_none hn1) ⟨b, E0, vs, fz, h1, h2, c1, h4⟩
      exact ⟨_, _, _, h, a, g1.trans b', sm⟩
    · rename_i rw U xs hj
      obtain ⟨a, b, sm⟩ := hw.newVec hh hj hn
      exact ⟨_, _, _, h, a, b, sm⟩
    · cases h

theorem can1_inv (hh : HRel wr env σ.blk w) {ct : Option Ty} {c : SV} {k : SV → Can → Option (List SV × List Ent)} (h : can1 σ ct c z k = some r) (hw : Way m env σ w L0 z E) {v : Value} (hc : concC env σ.blk c v) :
    ∃ s z' E', k s z' = some r ∧ Way m env σ w L0 z' E' ∧ Grow z.β (L0 ++ z.P) E z'.β (L0 ++ z'.P) E' ∧ concC (envOf E') (ofL (L0 ++ z'.P)) s v := by
  unfold can1 at h
  split at h
  · obtain ⟨i, z', E', h, hw', g, sm⟩ := canB_inv hh h hw
    exact ⟨_, z', E', h, hw', g, sm.ptr hc⟩
  · obtain ⟨i, z', E', h, hw', g, sm⟩ := canB_inv hh h hw
    exact ⟨_, z', E', h, hw', g, sm.fn hc⟩
  · exact can0_inv hh h hw hc

theorem can1s_inv (hh : HRel wr env σ.blk w) : ∀ {cs : List SV} {cts : List (Option Ty)} {z : Can} {E : List (Option Addr × Nat)} {k : List SV → Can → Option (List SV × List Ent)} {vs : List Value}, can1s σ cts cs z k = some r → Way m env σ w L0 z E → concCs env σ.blk cs vs →
    ∃ ss z' E', k ss z' = some r ∧ Way m env σ w L0 z' E' ∧ Grow z.β (L0 ++ z.P) E z'.β (L0 ++ z'.P) E' ∧ concCs (envOf E') (ofL (L0 ++ z'.P)) ss vs
  | [], cts, z, E, k, [], h, hw, hc => ⟨[], z, E, h, hw, .refl _ _ _, trivial⟩
  | c :: cs, cts, z, E, k, v :: vs, h, hw, hc => by
    simp only [can1s] at h
    obtain ⟨s, z1, E1, h, hw1, g1, c1⟩ := can1_inv hh h hw hc.1
    obtain ⟨ss, z2, E2, h, hw2, g2, c2⟩ := can1s_inv hh h hw1 hc.2
    exact ⟨s :: ss, z2, E2, h, hw2, g1.trans g2, concC_ext (hw1.ext g2) c1, c2⟩

theorem can2_inv (hh : HRel wr env σ.blk w) {cts : List (Option Ty)} {c : SV} {k : SV → Can → Option (List SV × List Ent)} (h : can2 σ cts c z k = some r) (hw : Way m env σ w L0 z E) {v : Value} (hc : conc env σ.blk c v) :
    ∃ s z' E', k s z' = some r ∧ Way m env σ w L0 z' E' ∧ Grow z.β (L0 ++ z.P) E z'.β (L0 ++ z'.P) E' ∧ conc2 (envOf E') (ofL (L0 ++ z'.P)) s v := by
  unfold can2 at h
  split at h
  · obtain ⟨vs, rfl, hc⟩ := hc
    obtain ⟨ss, z1, E1, h, hw1, g1, c1⟩ := can1s_inv hh h hw hc
    exact ⟨_, _, E1, h, hw1, g1, vs, rfl, c1⟩
  · obtain ⟨i, z', E', h, hw', g, sm⟩ := canB_inv hh h hw
    exact ⟨_, z', E', h, hw', g, conc2_of_concC (sm.ptr (concC_of hc (fun cs e => by cases e) (fun cs e => by cases e)))⟩
  · rename_i hna hnp
    by_cases ht : ∃ cs, c = .tup cs
    · obtain ⟨cs, rfl⟩ := ht
      simp [can1, can0] at h
    · have hc := concC_of hc (fun cs e => hna cs e) (fun cs e => ht ⟨cs, e⟩)
      obtain ⟨s, z1, E1, h, hw1, g1, c1⟩ := can1_inv hh h hw hc
      exact ⟨_, _, E1, h, hw1, g1, conc2_of_concC c1⟩

theorem can2s_inv (hh : HRel wr env σ.blk w) : ∀ {vs : List SV} {tss : List (List (Option Ty))} {z : Can} {E : List (Option Addr × Nat)} {k : List SV → Can → Option (List SV × List Ent)} {us : List Value}, can2s σ tss vs z k = some r → Way m env σ w L0 z E → concL env σ.blk vs us →
    ∃ ss z' E', k ss z' = some r ∧ Way m env σ w L0 z' E' ∧ Grow z.β (L0 ++ z.P) E z'.β (L0 ++ z'.P) E' ∧ conc2s (envOf E') (ofL (L0 ++ z'.P)) ss us
  | [], tss, z, E, k, us, h, hw, hc => by
    rw [concL_nil hc]
    exact ⟨[], z, E, h, hw, .refl _ _ _, trivial⟩
  | c :: cs, tss, z, E, k, us, h, hw, hc => by
    obtain ⟨v, vs, rfl, hv, hc⟩ := concL_cons hc
    simp only [can2s] at h
    obtain ⟨s, z1, E1, h, hw1, g1, c1⟩ := can2_inv hh h hw hv
    obtain ⟨ss, z2, E2, h, hw2, g2, c2⟩ := can2s_inv hh h hw1 hc
    exact ⟨s :: ss, z2, E2, h, hw2, g1.trans g2, conc2_ext (hw1.ext g2) c1, c2⟩

/-- The arguments' blocks in canonical names. -/
def ArgsDone (env : Env) (σ : St) (w : World) (E : List (Option Addr × Nat)) (L A : List Ent) : Prop :=
  ∀ i : Nat, i < A.length → ∃ rw b b', σ.blk i = some (rw, b) ∧ A[i]? = some (rw, b') ∧ (b' = b ∨ ∃ cs cs', b = .box cs ∧ b' = .box cs') ∧ blkRel (envOf E) (ofL L) i rw b' w

theorem argsDone_ext {L L' A : List Ent} {E E' : List (Option Addr × Nat)} (h : ArgsDone env σ w E L A) (x : Ext (envOf E) (ofL L) (envOf E') (ofL L')) (he : ∀ i, i < A.length → envOf E' i = envOf E i) : ArgsDone env σ w E' L' A := by
  intro i hi
  obtain ⟨rw, b, b', h1, h2, h3, h4⟩ := h i hi
  exact ⟨rw, b, b', h1, h2, h3, blkRel_ext x (he i hi) h4⟩

theorem argsDone_snoc {L A : List Ent} {E : List (Option Addr × Nat)} (h : ArgsDone env σ w E L A) {rw : Bool} {b b' : Blk} (h1 : σ.blk A.length = some (rw, b)) (h3 : b' = b ∨ ∃ cs cs', b = .box cs ∧ b' = .box cs')
    (h4 : blkRel (envOf E) (ofL L) A.length rw b' w) : ArgsDone env σ w E L (A ++ [(rw, b')]) := by
  intro i hi
  rw [List.length_append, List.length_singleton] at hi
  by_cases e : i = A.length
  · subst e
    exact ⟨rw, b, b', h1, by simp, h3, h4⟩
  · obtain ⟨rw, b, b', h1, h2, h3, h4⟩ := h i (by omega)
    exact ⟨rw, b, b', h1, by rw [List.getElem?_append_left (by omega)]; exact h2, h3, h4⟩

theorem Way.ev (h : Way m env σ w L0 z E) {i : Nat} (hi : i < m) : envOf E i = env i := by
  obtain ⟨_, h2, _⟩ := h.can.base i hi
  simp [envOf, List.getD, h2]

theorem canArgs_inv (hh : HRel wr env σ.blk w) : ∀ {cnt : Nat} {z : Can} {E : List (Option Addr × Nat)} {A : List Ent} {k : Can → List Ent → Option (List SV × List Ent)}, canArgs σ cnt A.length z A k = some r → A.length + cnt = m → Way m env σ w L0 z E → ArgsDone env σ w E (L0 ++ z.P) A →
    ∃ z' E' A', k z' A' = some r ∧ A'.length = m ∧ Way m env σ w L0 z' E' ∧ Grow z.β (L0 ++ z.P) E z'.β (L0 ++ z'.P) E' ∧ ArgsDone env σ w E' (L0 ++ z'.P) A'
  | 0, z, E, A, k, h, hl, hw, hA => ⟨z, E, A, h, hl, hw, .refl _ _ _, hA⟩
  | cnt + 1, z, E, A, k, h, hl, hw, hA => by
    simp only [canArgs] at h
    split at h
    · rename_i rw cs hj
      obtain ⟨b, E0, vs, fz, h1, h2, h3, h4⟩ := hh.blk _ rw _ hj
      obtain ⟨ss, z1, E1, h, hw1, g1, c1⟩ := can0s_inv hh h hw h3
      have hA1 : ArgsDone env σ w E1 (L0 ++ z1.P) (A ++ [((rw, Blk.box ss) : Ent)]) := by
        refine argsDone_snoc (argsDone_ext hA (hw.ext g1) fun i hi => ?_) (b' := .box ss) hj (.inr ⟨cs, ss, rfl, rfl⟩) ?_
        · rw [hw1.ev (by omega), hw.ev (by omega)]
        · exact ⟨b, E0, vs, fz, by rw [hw1.ev (by omega)]; exact h1, h2, c1, h4⟩
      have h' : canArgs σ cnt (A ++ [((rw, Blk.box ss) : Ent)]).length z1 (A ++ [((rw, Blk.box ss) : Ent)]) k = some r := by
        rw [List.length_append, List.length_singleton]
        exact h
      obtain ⟨z2, E2, A2, q1, q2, q3, q4, q5⟩ := canArgs_inv hh h' (by simp; omega) hw1 hA1
      exact ⟨z2, E2, A2, q1, q2, q3, g1.trans q4, q5⟩
    · rename_i rw b hnb hj
      have hA1 : ArgsDone env σ w E (L0 ++ z.P) (A ++ [(rw, b)]) := by
        refine argsDone_snoc hA hj (.inl rfl) ?_
        have := hh.blk _ rw _ hj
        have he := hw.ev (i := A.length) (by omega)
        cases b with
        | box cs => exact absurd rfl (hnb cs)
        | vec U xs => simp only [blkRel, he] at this ⊢; exact this
        | dead => trivial
      have h' : canArgs σ cnt (A ++ [(rw, b)]).length z (A ++ [(rw, b)]) k = some r := by
        rw [List.length_append, List.length_singleton]
        exact h
      exact canArgs_inv hh h' (by simp; omega) hw hA1
    · cases h

theorem canon_ok (hh : HRel wr env σ.blk w) (hk : ∀ j, j < m → ∃ e, σ.blk j = some e) {tss : List (List (Option Ty))} {vs vs' : List SV} {hl : List Ent} {us : List Value} (h : canon σ m tss vs = some (vs', hl)) (hc : concL env σ.blk vs us) :
    ∃ envc, HRel wr envc (ofL hl) w ∧ conc2s envc (ofL hl) vs' us ∧ (∀ j, j < m → envc j = env j ∧ ∃ e, ofL hl j = some e) ∧ m ≤ hl.length := by
  unfold canon at h
  let L0 : List Ent := (List.range m).map fun j => (σ.blk j).getD (true, .dead)
  have hL0 : L0.length = m := by simp [L0]
  have w0 : Way m env σ w L0 ⟨(List.range m).map .whole, []⟩ ((List.range m).map env) := by
    refine ⟨⟨by simp [L0], by simp, ?_, ?_, ?_, ?_⟩, hL0⟩
    · intro k hk'
      obtain ⟨e, he⟩ := hk k hk'
      refine ⟨by simp [hk'], by simp [hk'], ?_⟩
      simp [L0, hk', he]
    · intro k s e x hmk hs
      rw [List.getElem?_eq_none (by simpa using hmk)] at hs
      cases hs
    · intro k r b hmk hb
      rw [List.getElem?_eq_none (by simp [L0]; omega)] at hb
      cases hb
    · intro i k j hi hk'
      simp only [List.getElem?_map, Option.map_eq_some_iff] at hi hk'
      obtain ⟨a, ha, e1⟩ := hi
      obtain ⟨b, hb, e2⟩ := hk'
      cases e1
      cases e2
      rw [List.getElem?_range (by have := (List.getElem?_eq_some_iff.1 ha).1; simpa using this)] at ha
      rw [List.getElem?_range (by have := (List.getElem?_eq_some_iff.1 hb).1; simpa using this)] at hb
      cases ha
      cases hb
      rfl
  obtain ⟨z1, E1, A, h, hA, hw1, g1, hd⟩ := canArgs_inv (A := []) hh h (by simp) w0 (fun i hi => by simp at hi)
  obtain ⟨ss, z2, E2, h, hw2, g2, c2⟩ := can2s_inv hh h hw1 hc
  split at h
  case h_2 => cases h
  simp only [Option.some.injEq, Prod.mk.injEq] at h
  obtain ⟨rfl, rfl⟩ := h
  have hd2 := argsDone_ext hd (hw1.ext g2) (fun i hi => by rw [hw2.ev (by omega), hw1.ev (by omega)])
  have getA : ∀ k : Nat, k < m → (A ++ z2.P)[k]? = A[k]? := fun k hk => List.getElem?_append_left (by omega)
  have getP : ∀ k : Nat, m ≤ k → (A ++ z2.P)[k]? = (L0 ++ z2.P)[k]? := fun k hk => by
    rw [List.getElem?_append_right (by omega), List.getElem?_append_right (by omega), hA, hL0]
  have ex : Ext (envOf E2) (ofL (L0 ++ z2.P)) (envOf E2) (ofL (A ++ z2.P)) := ⟨fun j r b hj => by
    refine ⟨rfl, ?_⟩
    by_cases hm : j < m
    · obtain ⟨rw, b1, b2, h1, h2, h3, _⟩ := hd2 j (by omega)
      obtain ⟨_, _, h6⟩ := hw2.can.base j hm
      simp only [ofL] at hj ⊢
      rw [h6, h1] at hj
      cases hj
      refine ⟨_, b2, by rw [getA j hm]; exact h2, ?_⟩
      rcases h3 with rfl | ⟨cs, cs', rfl, rfl⟩
      · exact stays_refl _
      · trivial
    · simp only [ofL] at hj ⊢
      exact ⟨r, b, by rw [getP j (by omega)]; exact hj, stays_refl b⟩⟩
  have ownS : ∀ (k : Nat) r b y, (A ++ z2.P)[k]? = some (r, b) → own (envOf E2) k b = some y → ∃ j b', z2.β[k]? = some (.whole j) ∧ σ.blk j = some (r, b') ∧ own env j b' = some y := by
    intro k r b y hb hy
    by_cases hm : k < m
    · obtain ⟨rw, b1, b2, h1, h2, h3, _⟩ := hd2 k (by omega)
      rw [getA k hm, h2] at hb
      cases hb
      refine ⟨k, b1, (hw2.can.base k hm).1, h1, ?_⟩
      rw [← hy]
      have he := hw2.ev hm
      rcases h3 with rfl | ⟨cs, cs', rfl, rfl⟩
      · cases b <;> simp [own, he]
      · simp [own, he]
    · rw [getP k (by omega)] at hb
      have hlt : k < z2.β.length := by rw [← hw2.can.l1]; exact (List.getElem?_eq_some_iff.1 hb).1
      obtain ⟨s, hs⟩ : ∃ s, z2.β[k]? = some s := ⟨z2.β[k], List.getElem?_eq_getElem hlt⟩
      obtain ⟨x, hx⟩ : ∃ x, E2[k]? = some x := ⟨E2[k]'(by rw [hw2.can.l2]; exact hlt), List.getElem?_eq_getElem _⟩
      have hone := hw2.can.one k s _ x (by omega) hs hb hx
      have hex : envOf E2 k = x := by simp [envOf, List.getD, hx]
      cases s with
      | nil =>
        obtain ⟨U, e, h0⟩ := hone
        cases e
        simp [own, hex, h0] at hy
      | whole j =>
        obtain ⟨h1, ⟨rw, U, xs, a, e⟩ | ⟨rw, cs, cs', a, e⟩⟩ := hone
        · cases e
          exact ⟨j, _, hs, a, by rw [← hy]; simp [own, hex, h1]⟩
        · cases e
          exact ⟨j, _, hs, a, by rw [← hy]; simp [own, hex, h1]⟩
      | part a b c => exact hone.elim
  refine ⟨envOf E2, ⟨?_, ?_, ?_⟩, ?_, ?_, by simp; omega⟩
  · intro j rw b hj
    by_cases hm : j < m
    · obtain ⟨rw', b1, b2, h1, h2, h3, h4⟩ := hd2 j (by omega)
      simp only [ofL] at hj
      rw [getA j hm, h2] at hj
      cases hj
      exact blkRel_ext ex rfl h4
    · simp only [ofL] at hj
      rw [getP j (by omega)] at hj
      exact blkRel_ext ex rfl (hw2.can.blk j rw b (by omega) hj)
  · intro i j ri bi rj bj hij hi hj hrw x hx hy
    obtain ⟨a, b1, p1, p2, p3⟩ := ownS i ri bi x hi hx
    obtain ⟨c, b2, q1, q2, q3⟩ := ownS j rj bj x hj hy
    by_cases hac : a = c
    · subst hac
      exact hij (hw2.can.nodup i j a p1 q1)
    · exact hh.dj a c ri b1 rj b2 hac p2 q2 hrw x p3 q3
  · intro j b hj x hx
    obtain ⟨a, b1, p1, p2, p3⟩ := ownS j true b x hj hx
    exact hh.wrt a b1 p2 x p3
  · have : ∀ {ss : List SV} {us : List Value}, conc2s (envOf E2) (ofL (L0 ++ z2.P)) ss us → conc2s (envOf E2) (ofL (A ++ z2.P)) ss us := fun h => conc2s_ext ex h
    exact this c2
  · intro j hj
    refine ⟨hw2.ev hj, ?_⟩
    obtain ⟨rw, b1, b2, h1, h2, _⟩ := hd2 j (by omega)
    exact ⟨_, by simp only [ofL]; rw [getA j hj]; exact h2⟩

end

end

end Go.Proofs.Ytmflfpedmbfhkaa.Sym
