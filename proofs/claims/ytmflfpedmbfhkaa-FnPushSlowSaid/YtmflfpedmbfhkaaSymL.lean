/-
  What is lent to a called function, and what comes back.
  No condition.
-/
import Derived.Test.YtmflfpedmbfhkaaSymK
namespace Go.Proofs.Ytmflfpedmbfhkaa.Sym
open Go
set_option linter.unusedVariables false
set_option linter.unusedSimpArgs false

def envOf (E : List (Option Addr × Nat)) : Env := fun k => E.getD k (none, 0)
def ofL (L : List Ent) : Hp := fun k => L[k]?

section
variable {P : Program} {wr : Nat → Prop} {env env' : Env} {H H' : Hp} {a : Act} {w w' : World} {T : Nat → SV} {δ : Delta}

theorem blkRel_ext (x : Ext env H env' H') {j : Nat} {rw : Bool} {b : Blk} (he : env' j = env j) (h : blkRel env H j rw b w) : blkRel env' H' j rw b w := by
  cases b with
  | box cs =>
    obtain ⟨b, E, vs, fz, hb, hheap, hc, hf⟩ := h
    exact ⟨b, E, vs, fz, by rw [he]; exact hb, hheap, concCs_ext x hc, hf⟩
  | vec U xs =>
    simp only [blkRel, he]
    exact h
  | dead => trivial

/-- Of one name that is lent. -/
def LentOne (env : Env) (H : Hp) (s : Src) (e : Ent) (x : Option Addr × Nat) : Prop :=
  match s with
  | .nil => ∃ U, e = (false, .vec U []) ∧ x.2 = 0
  | .whole j => x = env j ∧ ((∃ rw U xs, H j = some (rw, .vec U xs) ∧ e.2 = .vec U xs ∧ (e.1 = true → rw = true)) ∨ ∃ rw cs cs', H j = some (rw, .box cs) ∧ e = (rw, .box cs'))
  | .part j lo n => ∃ rw U xs, H j = some (rw, .vec U xs) ∧ e = (false, .vec U ((xs.drop lo).take n)) ∧ lo + n ≤ xs.length ∧ x.2 = (env j).2 - lo ∧ ((env j).2 = lo ∨ x.1 = (env j).1.map (·.add (lo * U.sz)))

structure Lent (env : Env) (H : Hp) (w : World) (β : List Src) (L : List Ent) (E : List (Option Addr × Nat)) : Prop where
  l1 : L.length = β.length
  l2 : E.length = β.length
  one : ∀ (k : Nat) s e x, β[k]? = some s → L[k]? = some e → E[k]? = some x → LentOne env H s e x
  blk : ∀ (k : Nat) r b, L[k]? = some (r, b) → blkRel (envOf E) (ofL L) k r b w

theorem Lent.nil : Lent env H w [] [] [] := ⟨rfl, rfl, fun k s e x h => by simp at h, fun k r b h => by simp at h⟩

theorem ext_append (E E2 : List (Option Addr × Nat)) (L L2 : List Ent) (h : E.length = L.length) : Ext (envOf E) (ofL L) (envOf (E ++ E2)) (ofL (L ++ L2)) := ⟨fun j r b hj => by
  have hlt : j < L.length := (List.getElem?_eq_some_iff.1 hj).1
  refine ⟨?_, r, b, ?_, stays_refl b⟩
  · simp [envOf, List.getD, List.getElem?_append_left (show j < E.length by omega)]
  · simp only [ofL] at hj ⊢
    rw [List.getElem?_append_left hlt]
    exact hj⟩

theorem Lent.push {β : List Src} {L : List Ent} {E : List (Option Addr × Nat)} (h : Lent env H w β L E) {s : Src} {r : Bool} {b : Blk} {x : Option Addr × Nat} (h1 : LentOne env H s (r, b) x)
    (h2 : blkRel (envOf (E ++ [x])) (ofL (L ++ [(r, b)])) L.length r b w) : Lent env H w (β ++ [s]) (L ++ [(r, b)]) (E ++ [x]) := by
  have e1 := h.l1
  have e2 := h.l2
  have ex := ext_append E [x] L [(r, b)] (by omega)
  refine ⟨by simp [e1], by simp [e2], ?_, ?_⟩
  · intro k s' e' x' hs he hx
    rcases Nat.lt_trichotomy k β.length with hk | hk | hk
    · rw [List.getElem?_append_left hk] at hs
      rw [List.getElem?_append_left (by omega)] at he hx
      exact h.one k s' e' x' hs he hx
    · subst hk
      rw [List.getElem?_append_right (Nat.le_refl _)] at hs
      rw [List.getElem?_append_right (by omega)] at he hx
      simp only [Nat.sub_self, List.getElem?_cons_zero, Option.some.injEq, e1, e2] at hs he hx
      subst hs; subst he; subst hx
      exact h1
    · rw [List.getElem?_eq_none (by simp; omega)] at hs
      cases hs
  · intro k r' b' hk
    rcases Nat.lt_trichotomy k L.length with hlt | hlt | hlt
    · rw [List.getElem?_append_left hlt] at hk
      exact blkRel_ext ex (by simp [envOf, List.getD, List.getElem?_append_left (show k < E.length by omega)]) (h.blk k r' b' hk)
    · subst hlt
      rw [List.getElem?_append_right (Nat.le_refl _)] at hk
      simp only [Nat.sub_self, List.getElem?_cons_zero, Option.some.injEq, Prod.mk.injEq] at hk
      obtain ⟨rfl, rfl⟩ := hk
      exact h2
    · rw [List.getElem?_eq_none (by simp; omega)] at hk
      cases hk

/-- The lists have grown. -/
def Grow (β : List Src) (L : List Ent) (E : List (Option Addr × Nat)) (β' : List Src) (L' : List Ent) (E' : List (Option Addr × Nat)) : Prop :=
  ∃ b l e, β' = β ++ b ∧ L' = L ++ l ∧ E' = E ++ e

theorem Grow.refl (β : List Src) (L : List Ent) (E : List (Option Addr × Nat)) : Grow β L E β L E := ⟨[], [], [], by simp, by simp, by simp⟩
theorem Grow.trans {β β' β'' : List Src} {L L' L'' : List Ent} {E E' E'' : List (Option Addr × Nat)} (h : Grow β L E β' L' E') (k : Grow β' L' E' β'' L'' E'') : Grow β L E β'' L'' E'' := by
  obtain ⟨b, l, e, rfl, rfl, rfl⟩ := h
  obtain ⟨b', l', e', rfl, rfl, rfl⟩ := k
  exact ⟨b ++ b', l ++ l', e ++ e', by simp, by simp, by simp⟩
theorem Grow.ext {β β' : List Src} {L L' : List Ent} {E E' : List (Option Addr × Nat)} (h : Grow β L E β' L' E') (hl : E.length = L.length) : Ext (envOf E) (ofL L) (envOf E') (ofL L') := by
  obtain ⟨b, l, e, rfl, rfl, rfl⟩ := h
  exact ext_append _ _ _ _ hl

theorem envOf_last (E : List (Option Addr × Nat)) (x : Option Addr × Nat) : envOf (E ++ [x]) E.length = x := by simp [envOf, List.getD]
theorem ofL_last (L : List Ent) (e : Ent) : ofL (L ++ [e]) L.length = some e := by simp [ofL]

theorem lend0_inv {α : Type} (hh : HRel wr env H w) {wt : Bool} {ct : Option Ty} {c : SV} {β : List Src} {L : List Ent} {E : List (Option Addr × Nat)} {k : SV → List Src → List Ent → RM α} {r : α}
    (h : (lend0 wt ct c β L k).run T H = some r) (hl : Lent env H w β L E) {v : Value} (hc : concC env H c v) :
    ∃ s β' L' E', (k s β' L').run T H = some r ∧ Lent env H w β' L' E' ∧ Grow β L E β' L' E' ∧ concC (envOf E') (ofL L') s v := by
  have hlen : L.length = E.length := by rw [hl.l1, hl.l2]
  unfold lend0 at h
  split at h
  · exact ⟨_, _, _, E, h, hl, .refl _ _ _, hc⟩
  · exact ⟨_, _, _, E, h, hl, .refl _ _ _, hc⟩
  · exact ⟨_, _, _, E, h, hl, .refl _ _ _, hc⟩
  · exact ⟨_, _, _, E, h, hl, .refl _ _ _, hc⟩
  · rename_i j
    simp only [RM.run] at h
    split at h
    case h_2 => simp [RM.run] at h
    rename_i rw U xs hj
    have key : ∀ rw', (rw' = true → rw = true) → Lent env H w (β ++ [.whole j]) (L ++ [(rw', .vec U xs)]) (E ++ [env j]) ∧ concC (envOf (E ++ [env j])) (ofL (L ++ [(rw', .vec U xs)])) (.vec L.length) v := by
      intro rw' hrw
      refine ⟨hl.push ⟨rfl, .inl ⟨rw, U, xs, hj, rfl, hrw⟩⟩ ?_, ?_⟩
      · have := hh.blk j rw _ hj
        simp only [blkRel] at this ⊢
        rw [hlen, envOf_last]
        obtain ⟨h1, h2⟩ := this
        refine ⟨h1, h2.imp id ?_⟩
        rintro ⟨b, off, E', vs, fz, a1, a2, a3, a4, a5⟩
        exact ⟨b, off, E', vs, fz, a1, a2, a3, a4, fun q => a5 (hrw q)⟩
      · simp only [concC, hj] at hc ⊢
        rw [ofL_last]
        simp only
        rw [hlen, envOf_last]
        exact hc
    split at h
    · obtain ⟨k1, k2⟩ := key true (fun _ => rfl)
      exact ⟨_, _, _, _, h, k1, ⟨_, _, _, rfl, rfl, rfl⟩, k2⟩
    · simp [RM.run] at h
    · obtain ⟨k1, k2⟩ := key false (fun q => by cases q)
      exact ⟨_, _, _, _, h, k1, ⟨_, _, _, rfl, rfl, rfl⟩, k2⟩
  · rename_i j lo n
    simp only [RM.run] at h
    split at h
    case h_2 => simp [RM.run] at h
    rename_i rw U xs hj
    split at h
    · simp [RM.run] at h
    · simp only [concC, hj] at hc
      obtain ⟨hlo, y, rfl, hy⟩ := hc
      have hlen2 : ((xs.drop lo).take n).length = n := by simp; omega
      refine ⟨_, _, _, E ++ [(y, (env j).2 - lo)], h, hl.push ⟨rw, U, xs, hj, rfl, hlo, rfl, hy⟩ ?_, ⟨_, _, _, rfl, rfl, rfl⟩, ?_⟩
      · simp only [blkRel]
        rw [hlen, envOf_last, hlen2]
        obtain ⟨h1, h2⟩ := hh.blk j rw _ hj
        refine ⟨by simp only; omega, ?_⟩
        rcases h2 with h2 | ⟨b, off, E', vs, fz, a1, a2, a3, a4, a5⟩
        · left; simp only; omega
        · rcases hy with hy | hy
          · left; simp only; omega
          · right
            rw [a1] at hy
            simp only [Option.map_some, add_addr] at hy
            refine ⟨b, off + lo * U.sz, E', vs, fz, hy, a2, ?_, ?_, fun q => by cases q⟩
            · have : (env j).2 * U.sz = lo * U.sz + ((env j).2 - lo) * U.sz := by rw [← Nat.add_mul]; congr 1; omega
              simp only
              omega
            · intro e he o ho
              rw [hlen2] at he
              have h1 := a4 (lo + e) (by omega) o ho
              have hix : U.ix ((xs.drop lo).take n) e = U.ix xs (lo + e) := by simp [Ty.ix, List.getD, List.getElem?_take, he]
              rw [hix, ← h1]
              congr 1
              rw [Nat.add_mul]
              omega
      · simp only [concC]
        rw [ofL_last]
        simp only
        rw [hlen, envOf_last, hlen2]
  · split at h
    case h_2 => simp [RM.run] at h
    rename_i U
    obtain ⟨y, rfl⟩ := hc
    refine ⟨_, _, _, E ++ [(y, 0)], h, hl.push ⟨U, rfl, rfl⟩ ?_, ⟨_, _, _, rfl, rfl, rfl⟩, ?_⟩
    · simp only [blkRel]
      rw [hlen, envOf_last]
      exact ⟨Nat.le_refl _, .inl rfl⟩
    · simp only [concC]
      rw [ofL_last]
      simp only
      rw [hlen, envOf_last]
      rfl
  · simp [RM.run] at h

theorem lend0s_inv {α : Type} (hh : HRel wr env H w) : ∀ {cs : List SV} {β : List Src} {L : List Ent} {E : List (Option Addr × Nat)} {k : List SV → List Src → List Ent → RM α} {r : α} {vs : List Value},
    (lend0s cs β L k).run T H = some r → Lent env H w β L E → concCs env H cs vs →
    ∃ ss β' L' E', (k ss β' L').run T H = some r ∧ Lent env H w β' L' E' ∧ Grow β L E β' L' E' ∧ concCs (envOf E') (ofL L') ss vs
  | [], β, L, E, k, r, [], h, hl, _ => ⟨[], β, L, E, h, hl, .refl _ _ _, trivial⟩
  | c :: cs, β, L, E, k, r, v :: vs, h, hl, hc => by
    simp only [lend0s] at h
    obtain ⟨s, β1, L1, E1, h, hl1, g1, c1⟩ := lend0_inv hh h hl hc.1
    obtain ⟨ss, β2, L2, E2, h, hl2, g2, c2⟩ := lend0s_inv hh h hl1 hc.2
    exact ⟨s :: ss, β2, L2, E2, h, hl2, g1.trans g2, concC_ext (g2.ext (by rw [hl1.l1, hl1.l2])) c1, c2⟩

theorem posOf_inv {j : Nat} : ∀ {β : List Src} {k i : Nat}, posOf j β k = some i → ∃ m, i = k + m ∧ β[m]? = some (.whole j)
  | [], k, i, h => by simp [posOf] at h
  | .whole x :: r, k, i, h => by
    simp only [posOf] at h
    split at h
    · rename_i hb
      have := Nat.eq_of_beq_eq_true hb
      subst this
      cases h
      exact ⟨0, rfl, rfl⟩
    · obtain ⟨m, h1, h2⟩ := posOf_inv h
      exact ⟨m + 1, by omega, by simpa using h2⟩
  | .nil :: r, k, i, h => by
    simp only [posOf] at h
    obtain ⟨m, h1, h2⟩ := posOf_inv h
    exact ⟨m + 1, by omega, by simpa using h2⟩
  | .part _ _ _ :: r, k, i, h => by
    simp only [posOf] at h
    obtain ⟨m, h1, h2⟩ := posOf_inv h
    exact ⟨m + 1, by omega, by simpa using h2⟩

/-- A lent block under its canonical name: as its own. -/
def SameBlk (env : Env) (H : Hp) (j : Nat) (envc : Env) (Hc : Hp) (i : Nat) : Prop :=
  envc i = env j ∧ ((∃ rw U xs rw', H j = some (rw, .vec U xs) ∧ Hc i = some (rw', .vec U xs)) ∨ ∃ rw cs rw' cs', H j = some (rw, .box cs) ∧ Hc i = some (rw', .box cs'))

theorem lendB_inv {α : Type} (hh : HRel wr env H w) {j : Nat} {β : List Src} {L : List Ent} {E : List (Option Addr × Nat)} {k : Nat → List Src → List Ent → RM α} {r : α}
    (h : (lendB j β L k).run T H = some r) (hl : Lent env H w β L E) :
    ∃ i β' L' E', (k i β' L').run T H = some r ∧ Lent env H w β' L' E' ∧ Grow β L E β' L' E' ∧ SameBlk env H j (envOf E') (ofL L') i := by
  have hlen : L.length = E.length := by rw [hl.l1, hl.l2]
  unfold lendB at h
  split at h
  · rename_i i hi
    obtain ⟨m, rfl, hm⟩ := posOf_inv hi
    rw [Nat.zero_add] at h
    have hlt : m < β.length := (List.getElem?_eq_some_iff.1 hm).1
    obtain ⟨e, he⟩ : ∃ e, L[m]? = some e := ⟨L[m]'(by rw [hl.l1]; exact hlt), List.getElem?_eq_getElem _⟩
    obtain ⟨x, hx⟩ : ∃ x, E[m]? = some x := ⟨E[m]'(by rw [hl.l2]; exact hlt), List.getElem?_eq_getElem _⟩
    have ho := hl.one m _ e x hm he hx
    refine ⟨_, β, L, E, h, hl, .refl _ _ _, ?_, ?_⟩
    · simp only [envOf, List.getD, hx, Option.getD_some]
      exact ho.1
    · obtain ⟨_, ho⟩ := ho
      obtain ⟨e1, e2⟩ := e
      rcases ho with ⟨rw, U, xs, h1, h2, _⟩ | ⟨rw, cs, cs', h1, h2⟩
      · simp only at h2
        exact .inl ⟨rw, U, xs, e1, h1, by simp [ofL, he, h2]⟩
      · cases h2
        exact .inr ⟨e1, cs, e1, cs', h1, by simp [ofL, he]⟩
  · simp only [RM.run] at h
    split at h
    · rename_i rw cs hj
      obtain ⟨b, E0, vs, fz, hb, hheap, hcs, hf⟩ := hh.blk j rw _ hj
      obtain ⟨ss, β1, L1, E1, h, hl1, g1, c1⟩ := lend0s_inv hh h hl hcs
      have hlen1 : L1.length = E1.length := by rw [hl1.l1, hl1.l2]
      refine ⟨_, _, _, E1 ++ [env j], h, hl1.push ⟨rfl, .inr ⟨rw, cs, ss, hj, rfl⟩⟩ ?_, g1.trans ⟨_, _, _, rfl, rfl, rfl⟩, ?_, ?_⟩
      · refine ⟨b, E0, vs, fz, by rw [hlen1, envOf_last]; exact hb, hheap, concCs_ext (ext_append _ _ _ _ hlen1.symm) c1, hf⟩
      · rw [hlen1, envOf_last]
      · exact .inr ⟨rw, cs, rw, ss, hj, by rw [ofL_last]⟩
    · rename_i rw U xs hj
      refine ⟨_, _, _, E ++ [env j], h, hl.push ⟨rfl, .inl ⟨rw, U, xs, hj, rfl, id⟩⟩ ?_, ⟨_, _, _, rfl, rfl, rfl⟩, ?_, ?_⟩
      · have := hh.blk j rw _ hj
        simp only [blkRel] at this ⊢
        rw [hlen, envOf_last]
        exact this
      · rw [hlen, envOf_last]
      · exact .inl ⟨rw, U, xs, rw, hj, by rw [ofL_last]⟩
    · simp [RM.run] at h

theorem SameBlk.ext {j i : Nat} {envc envc' : Env} {Hc Hc' : Hp} (x : Ext envc Hc envc' Hc') (hs : ∀ k e, Hc k = some e → Hc' k = some e) (h : SameBlk env H j envc Hc i) : SameBlk env H j envc' Hc' i := by
  obtain ⟨h1, h2⟩ := h
  rcases h2 with ⟨rw, U, xs, rw', a, b⟩ | ⟨rw, cs, rw', cs', a, b⟩
  · exact ⟨((x.same i _ _ b).1).trans h1, .inl ⟨rw, U, xs, rw', a, hs _ _ b⟩⟩
  · exact ⟨((x.same i _ _ b).1).trans h1, .inr ⟨rw, cs, rw', cs', a, hs _ _ b⟩⟩

theorem conc_same_ptr {j i e o : Nat} {envc : Env} {Hc : Hp} (h : SameBlk env H j envc Hc i) {v : Value} (hc : concC env H (.ptr j e o) v) : concC envc Hc (.ptr i e o) v := by
  obtain ⟨h1, ⟨rw, U, xs, rw', a, b⟩ | ⟨rw, cs, rw', cs', a, b⟩⟩ := h
  · simp only [concC, a, b, h1] at hc ⊢
    exact hc
  · simp only [concC, a, b, h1] at hc ⊢
    exact hc

theorem conc_same_fn {j i f : Nat} {envc : Env} {Hc : Hp} (h : SameBlk env H j envc Hc i) {v : Value} (hc : concC env H (.fn f (some j)) v) : concC envc Hc (.fn f (some i)) v := by
  obtain ⟨h1, ⟨rw, U, xs, rw', a, b⟩ | ⟨rw, cs, rw', cs', a, b⟩⟩ := h
  · simp only [concC, a] at hc
  · simp only [concC, a, b, h1] at hc ⊢
    exact hc

theorem lend1_inv {α : Type} (hh : HRel wr env H w) {wt : Bool} {ct : Option Ty} {c : SV} {β : List Src} {L : List Ent} {E : List (Option Addr × Nat)} {k : SV → List Src → List Ent → RM α} {r : α}
    (h : (lend1 wt ct c β L k).run T H = some r) (hl : Lent env H w β L E) {v : Value} (hc : concC env H c v) :
    ∃ s β' L' E', (k s β' L').run T H = some r ∧ Lent env H w β' L' E' ∧ Grow β L E β' L' E' ∧ concC (envOf E') (ofL L') s v := by
  unfold lend1 at h
  split at h
  · obtain ⟨i, β', L', E', h, hl', g, hs⟩ := lendB_inv hh h hl
    exact ⟨_, _, _, E', h, hl', g, conc_same_ptr hs hc⟩
  · obtain ⟨i, β', L', E', h, hl', g, hs⟩ := lendB_inv hh h hl
    exact ⟨_, _, _, E', h, hl', g, conc_same_fn hs hc⟩
  · exact lend0_inv hh h hl hc

theorem lendCells_inv {α : Type} (hh : HRel wr env H w) {wt : Bool} : ∀ {cs : List SV} {cts : List (Option Ty)} {β : List Src} {L : List Ent} {E : List (Option Addr × Nat)} {k : List SV → List Src → List Ent → RM α} {r : α} {vs : List Value},
    (lendCells wt cts cs β L k).run T H = some r → Lent env H w β L E → concCs env H cs vs →
    ∃ ss β' L' E', (k ss β' L').run T H = some r ∧ Lent env H w β' L' E' ∧ Grow β L E β' L' E' ∧ concCs (envOf E') (ofL L') ss vs
  | [], cts, β, L, E, k, r, [], h, hl, _ => ⟨[], β, L, E, h, hl, .refl _ _ _, trivial⟩
  | c :: cs, cts, β, L, E, k, r, v :: vs, h, hl, hc => by
    simp only [lendCells] at h
    obtain ⟨s, β1, L1, E1, h, hl1, g1, c1⟩ := lend1_inv hh h hl hc.1
    obtain ⟨ss, β2, L2, E2, h, hl2, g2, c2⟩ := lendCells_inv hh h hl1 hc.2
    exact ⟨s :: ss, β2, L2, E2, h, hl2, g1.trans g2, concC_ext (g2.ext (by rw [hl1.l1, hl1.l2])) c1, c2⟩

theorem lendArg_inv {α : Type} (hh : HRel wr env H w) {wt : Bool} {cts : List (Option Ty)} {c : SV} {β : List Src} {L : List Ent} {E : List (Option Addr × Nat)} {k : SV → List Src → List Ent → RM α} {r : α}
    (h : (lendArg wt cts c β L k).run T H = some r) (hl : Lent env H w β L E) {v : Value} (hc : conc env H c v) :
    ∃ s β' L' E', (k s β' L').run T H = some r ∧ Lent env H w β' L' E' ∧ Grow β L E β' L' E' ∧ conc2 (envOf E') (ofL L') s v := by
  unfold lendArg at h
  split at h
  · obtain ⟨vs, rfl, hc⟩ := hc
    obtain ⟨ss, β1, L1, E1, h, hl1, g1, c1⟩ := lendCells_inv hh h hl hc
    exact ⟨_, _, _, E1, h, hl1, g1, vs, rfl, c1⟩
  · rename_i hna
    by_cases ht : ∃ cs, c = .tup cs
    · obtain ⟨cs, rfl⟩ := ht
      simp [lend1, lend0, RM.run] at h
    · have hc := concC_of hc (fun cs e => hna cs e) (fun cs e => ht ⟨cs, e⟩)
      obtain ⟨s, β1, L1, E1, h, hl1, g1, c1⟩ := lend1_inv hh h hl hc
      exact ⟨_, _, _, E1, h, hl1, g1, conc2_of_concC c1⟩

theorem lendArgs_inv {α : Type} (hh : HRel wr env H w) : ∀ {vs : List SV} {ws : List Bool} {tss : List (List (Option Ty))} {β : List Src} {L : List Ent} {E : List (Option Addr × Nat)} {k : List SV → List Src → List Ent → RM α} {r : α} {us : List Value},
    (lendArgs ws tss vs β L k).run T H = some r → Lent env H w β L E → concL env H vs us →
    ∃ ss β' L' E', (k ss β' L').run T H = some r ∧ Lent env H w β' L' E' ∧ Grow β L E β' L' E' ∧ conc2s (envOf E') (ofL L') ss us
  | [], ws, tss, β, L, E, k, r, us, h, hl, hc => by
    rw [concL_nil hc]
    exact ⟨[], β, L, E, h, hl, .refl _ _ _, trivial⟩
  | c :: cs, ws, tss, β, L, E, k, r, us, h, hl, hc => by
    obtain ⟨v, vs, rfl, hv, hc⟩ := concL_cons hc
    simp only [lendArgs] at h
    obtain ⟨s, β1, L1, E1, h, hl1, g1, c1⟩ := lendArg_inv hh h hl hv
    obtain ⟨ss, β2, L2, E2, h, hl2, g2, c2⟩ := lendArgs_inv hh h hl1 hc
    exact ⟨s :: ss, β2, L2, E2, h, hl2, g1.trans g2, conc2_ext (g2.ext (by rw [hl1.l1, hl1.l2])) c1, c2⟩

end

end Go.Proofs.Ytmflfpedmbfhkaa.Sym
