/-
  A call does what the table says of the called function.
  No condition.
-/
import Derived.Test.YtmflfpedmbfhkaaSymL
namespace Go.Proofs.Ytmflfpedmbfhkaa.Sym
open Go
set_option linter.unusedVariables false
set_option linter.unusedSimpArgs false

/-- What a called function does, at given arguments and blocks. -/
structure FSem (P : Program) (f : Nat) (args : List SV) (L : List Ent) (r : SV) (L' : List Ent) : Prop where
  len : L.length ≤ L'.length
  keep : ∀ (k : Nat) b, L[k]? = some (false, b) → L'[k]? = some (false, b)
  wrt : ∀ (k : Nat) b, L[k]? = some (true, b) → ∃ b', L'[k]? = some (true, b') ∧ stays b b'
  new : ∀ (k : Nat) e, L.length ≤ k → L'[k]? = some e → e.1 = true
  run : ∀ (wr : Nat → Prop) (env : Env) (w : World) (us : List Value), HRel wr env (ofL L) w → (∀ k, w.heap.size ≤ k → wr k) → conc2s env (ofL L) args us →
    Calls P f us.toArray w fun e w' => ∃ v env', e = .returned v ∧ (∀ j, j < L.length → env' j = env j) ∧ HRel wr env' (ofL L') w' ∧ conc env' (ofL L') r v ∧ Fr wr w w'

structure FsOk (P : Program) (f : Nat) (fs : Fs) : Prop where
  enter : ∀ (w : World) (args : Array Value), (callFunc f args).run P w = .ok (.enter f args) w
  sem : ∀ args L p r L', fs.ev args L = some (p, r, L') → (∀ q, p = some q → q) → FSem P f args L r L'

def TabFs (P : Program) (S : Tab) : Prop := ∀ f fs, S f = some fs → FsOk P f fs

section
variable {P : Program} {wr : Nat → Prop} {env env' : Env} {H H' : Hp} {a : Act} {w w' : World} {T : Nat → SV} {δ : Delta}

theorem own_src {s : Src} {r : Bool} {b : Blk} {x : Option Addr × Nat} {envc : Env} {k y : Nat} (h : LentOne env H s (r, b) x) (he : envc k = x) (hy : own envc k b = some y) :
    ∃ j r' b', s.name = some j ∧ H j = some (r', b') ∧ own env j b' = some y ∧ (r = true → r' = true) := by
  cases s with
  | nil =>
    obtain ⟨U, hb, hx⟩ := h
    cases hb
    simp [own, he, hx] at hy
  | whole j =>
    obtain ⟨hx, h⟩ := h
    rcases h with ⟨rw, U, xs, h1, h2, h3⟩ | ⟨rw, cs, cs', h1, h2⟩
    · simp only at h2
      subst h2
      refine ⟨j, rw, _, rfl, h1, ?_, h3⟩
      simpa [own, he, hx] using hy
    · cases h2
      refine ⟨j, _, _, rfl, h1, ?_, id⟩
      simpa [own, he, hx] using hy
  | part j lo n =>
    obtain ⟨rw, U, xs, h1, h2, h3, h4, h5⟩ := h
    cases h2
    simp only [own, he] at hy
    split at hy
    · cases hy
    · rename_i hz
      refine ⟨j, rw, _, rfl, h1, ?_, fun q => by cases q⟩
      have hne : (env j).2 ≠ 0 := by omega
      simp only [own, hne, if_false]
      rcases h5 with h5 | h5
      · omega
      · rw [h5] at hy
        cases hb : (env j).1 with
        | none => simp [hb] at hy
        | some q =>
          simp only [hb, Option.map_some, Option.some.injEq] at hy ⊢
          rw [← hy]
          unfold Addr.add
          split <;> rfl

theorem lentOnce_spec {j : Nat} {rw : Bool} : ∀ {β : List Src} {L : List Ent}, lentOnce j rw β L = true → L.length = β.length → ∀ (k : Nat) s e, β[k]? = some s → L[k]? = some e → s.name = some j → rw = false ∧ e.1 = false
  | [], L, h, hl, k, s, e, hs, he, hn => by simp at hs
  | s0 :: β, [], h, hl, k, s, e, hs, he, hn => by simp at hl
  | s0 :: β, (r0, b0) :: L, h, hl, k, s, e, hs, he, hn => by
    have hl' : L.length = β.length := by simpa using hl
    cases k with
    | zero =>
      simp only [List.getElem?_cons_zero, Option.some.injEq] at hs he
      subst hs
      subst he
      simp only [lentOnce, hn] at h
      simp only [Nat.beq_refl] at h
      cases rw <;> cases r0 <;> simp_all
    | succ k =>
      simp only [List.getElem?_cons_succ] at hs he
      have h' : lentOnce j rw β L = true := by
        simp only [lentOnce] at h
        split at h
        · split at h
          · cases h
          · exact h
        · exact h
      exact lentOnce_spec h' hl' k s e hs he hn

theorem allOnce_spec : ∀ {β : List Src} {L : List Ent}, allOnce β L = true → L.length = β.length → ∀ (i k : Nat) s t e f j, i < k → β[i]? = some s → L[i]? = some e → β[k]? = some t → L[k]? = some f → s.name = some j → t.name = some j → e.1 = false ∧ f.1 = false
  | [], L, h, hl, i, k, s, t, e, f, j, hik, hs, he, ht, hf, h1, h2 => by simp at hs
  | s0 :: β, [], h, hl, i, k, s, t, e, f, j, hik, hs, he, ht, hf, h1, h2 => by simp at hl
  | s0 :: β, (r0, b0) :: L, h, hl, i, k, s, t, e, f, j, hik, hs, he, ht, hf, h1, h2 => by
    have hl' : L.length = β.length := by simpa using hl
    cases k with
    | zero => omega
    | succ k =>
      simp only [List.getElem?_cons_succ] at ht hf
      cases i with
      | zero =>
        simp only [List.getElem?_cons_zero, Option.some.injEq] at hs he
        subst hs
        subst he
        simp only [allOnce, h1, Bool.and_eq_true] at h
        exact lentOnce_spec h.1 hl' k t f ht hf h2
      | succ i =>
        simp only [List.getElem?_cons_succ] at hs he
        have h' : allOnce β L = true := by
          simp only [allOnce] at h
          split at h
          · simp only [Bool.and_eq_true] at h; exact h.2
          · exact h
        exact allOnce_spec h' hl' i k s t e f j (by omega) hs he ht hf h1 h2

/-- What the called function may write. -/
def wrC (w : World) (envc : Env) (L : List Ent) : Nat → Prop := fun k => w.heap.size ≤ k ∨ ∃ (i : Nat) (b : Blk), L[i]? = some (true, b) ∧ own envc i b = some k

theorem Lent.src {β : List Src} {L : List Ent} {E : List (Option Addr × Nat)} (hl : Lent env H w β L E) {k : Nat} {e : Ent} (he : L[k]? = some e) : ∃ s, β[k]? = some s ∧ LentOne env H s e (envOf E k) := by
  have hlt : k < L.length := (List.getElem?_eq_some_iff.1 he).1
  have h1 : k < β.length := by rw [← hl.l1]; exact hlt
  have h2 : k < E.length := by rw [hl.l2]; exact h1
  refine ⟨β[k], List.getElem?_eq_getElem h1, ?_⟩
  have := hl.one k β[k] e E[k] (List.getElem?_eq_getElem h1) he (List.getElem?_eq_getElem h2)
  simpa [envOf, List.getD, h2] using this

theorem Lent.hrel (hh : HRel wr env H w) {β : List Src} {L : List Ent} {E : List (Option Addr × Nat)} (hl : Lent env H w β L E) (ho : allOnce β L = true) : HRel (wrC w (envOf E) L) (envOf E) (ofL L) w := by
  refine ⟨fun j r b hj => hl.blk j r b hj, ?_, fun j b hj y hy => .inr ⟨j, b, hj, hy⟩⟩
  have key : ∀ (i j : Nat) ri bi rj bj, i < j → L[i]? = some (ri, bi) → L[j]? = some (rj, bj) → (ri = true ∨ rj = true) → ∀ x, own (envOf E) i bi = some x → own (envOf E) j bj = some x → False := by
    intro i j ri bi rj bj hij hi hj hrw x hx hy
    obtain ⟨si, hsi, oi⟩ := hl.src hi
    obtain ⟨sj, hsj, oj⟩ := hl.src hj
    obtain ⟨a, ra, ba, na, ha, ha2, ha3⟩ := own_src oi rfl hx
    obtain ⟨c, rc, bc, nc, hc, hc2, hc3⟩ := own_src oj rfl hy
    by_cases hac : a = c
    · subst hac
      obtain ⟨q1, q2⟩ := allOnce_spec ho hl.l1 i j si sj (ri, bi) (rj, bj) a hij hsi hi hsj hj na nc
      simp only at q1 q2
      subst q1; subst q2
      rcases hrw with h | h <;> cases h
    · exact hh.dj a c ra ba rc bc hac ha hc (hrw.imp ha3 hc3) x ha2 hc2
  intro i j ri bi rj bj hij hi hj hrw x hx hy
  rcases Nat.lt_or_gt_of_ne hij with h | h
  · exact key i j ri bi rj bj h hi hj hrw x hx hy
  · exact key j i rj bj ri bi h hj hi hrw.symm x hy hx

theorem freshes_inv {α : Type} {d : Nat} : ∀ {n : Nat} {k : RM α} {r : α}, (freshes d n k).run T H = some r → k.run T H = some r ∧ ∀ i, i < n → H (nm d + i) = none
  | 0, k, r, h => ⟨h, fun i hi => by omega⟩
  | n + 1, k, r, h => by
    simp only [freshes] at h
    obtain ⟨h, h2⟩ := freshes_inv h
    obtain ⟨h3, h⟩ := fresh_inv h
    refine ⟨h, fun i hi => ?_⟩
    by_cases e : i = n
    · subst e; exact h3
    · exact h2 i (by omega)

/-- An entry behind a call, for whom it stands. -/
def Stands (β : List Src) (d : Nat) (L L' : List Ent) (n : Nat) (e : Ent) : Prop :=
  (∃ (k : Nat) (b x : Blk) (r : Bool) (x' : Blk), β[k]? = some (.whole n) ∧ L[k]? = some (true, b) ∧ L'[k]? = some (r, x) ∧ backBlk β d x = some x' ∧ e = (true, x')) ∨
  (∃ (i : Nat) (x x' : Blk), n = nm d + i ∧ L'[L.length + i]? = some (true, x) ∧ backBlk β d x = some x' ∧ e = (true, x'))

theorem backH_mem {β0 : List Src} {d : Nat} : ∀ {β : List Src} {L L' : List Ent} {m : Nat} {hs : List (Nat × Ent)}, backH β0 d β L L' m = some hs → ∀ n e, (n, e) ∈ hs →
    (∃ (k : Nat) (b x : Blk) (r : Bool) (x' : Blk), β[k]? = some (.whole n) ∧ L[k]? = some (true, b) ∧ L'[k]? = some (r, x) ∧ backBlk β0 d x = some x' ∧ e = (true, x')) ∨
    (∃ (i : Nat) (x x' : Blk), n = nm d + (m + i) ∧ L'[L.length + i]? = some (true, x) ∧ backBlk β0 d x = some x' ∧ e = (true, x'))
  | [], [], [], m, hs, h, n, e, hm => by simp only [backH, Option.some.injEq] at h; subst h; simp at hm
  | [], [], (r, x) :: L', m, hs, h, n, e, hm => by
    cases r with
    | false => simp [backH] at h
    | true =>
      simp only [backH] at h
      split at h
      case h_2 => cases h
      rename_i x' q h1 h2
      cases h
      rcases List.mem_cons.1 hm with h3 | h3
      · cases h3
        exact .inr ⟨0, x, x', by simp, by simp, h1, rfl⟩
      · rcases backH_mem h2 n e h3 with ⟨k, b, y, r, y', h4, _⟩ | ⟨i, y, y', h4, h5, h6, h7⟩
        · simp at h4
        · exact .inr ⟨i + 1, y, y', by omega, by simpa using h5, h6, h7⟩
  | s :: β, [], L', m, hs, h, n, e, hm => by cases s <;> cases L' <;> simp [backH] at h
  | [], _ :: _, L', m, hs, h, n, e, hm => by cases L' <;> simp [backH] at h
  | s :: β, (r0, b0) :: L, [], m, hs, h, n, e, hm => by cases s <;> cases r0 <;> simp [backH] at h
  | s :: β, (r0, b0) :: L, (r1, x) :: L', m, hs, h, n, e, hm => by
    have lift : ∀ {hs : List (Nat × Ent)}, backH β0 d β L L' m = some hs → (n, e) ∈ hs →
        (∃ (k : Nat) (b y : Blk) (r : Bool) (x' : Blk), (s :: β)[k]? = some (.whole n) ∧ ((r0, b0) :: L)[k]? = some (true, b) ∧ ((r1, x) :: L')[k]? = some (r, y) ∧ backBlk β0 d y = some x' ∧ e = (true, x')) ∨
        (∃ (i : Nat) (y x' : Blk), n = nm d + (m + i) ∧ ((r1, x) :: L')[((r0, b0) :: L).length + i]? = some (true, y) ∧ backBlk β0 d y = some x' ∧ e = (true, x')) := by
      intro hs h2 hm
      rcases backH_mem h2 n e hm with ⟨k, b, y, r, y', h4, h5, h6, h7, h8⟩ | ⟨i, y, y', h4, h5, h6, h7⟩
      · exact .inl ⟨k + 1, b, y, r, y', by simpa using h4, by simpa using h5, by simpa using h6, h7, h8⟩
      · refine .inr ⟨i, y, y', h4, ?_, h6, h7⟩
        rw [List.length_cons, show L.length + 1 + i = L.length + i + 1 by omega, List.getElem?_cons_succ]
        exact h5
    cases s with
    | whole j =>
      cases r0 with
      | true =>
        simp only [backH] at h
        split at h
        case h_2 => cases h
        rename_i x' q h1 h2
        cases h
        rcases List.mem_cons.1 hm with h3 | h3
        · cases h3
          exact .inl ⟨0, b0, x, r1, x', rfl, rfl, rfl, h1, rfl⟩
        · exact lift h2 h3
      | false => exact lift (by simpa only [backH] using h) hm
    | nil => exact lift (by cases r0 <;> simpa only [backH] using h) hm
    | part a b c => exact lift (by cases r0 <;> simpa only [backH] using h) hm

theorem backH_has {β0 : List Src} {d : Nat} : ∀ {β : List Src} {L L' : List Ent} {m : Nat} {hs : List (Nat × Ent)}, backH β0 d β L L' m = some hs →
    (∀ (k : Nat) j b r x, β[k]? = some (.whole j) → L[k]? = some (true, b) → L'[k]? = some (r, x) → ∃ x', backBlk β0 d x = some x' ∧ (j, (true, x')) ∈ hs) ∧
    (∀ (i : Nat) r x, L'[L.length + i]? = some (r, x) → ∃ x', backBlk β0 d x = some x' ∧ (nm d + (m + i), (true, x')) ∈ hs)
  | [], [], [], m, hs, h => ⟨fun k j b r x h1 => by simp at h1, fun i r x h1 => by simp at h1⟩
  | [], [], (r, x) :: L', m, hs, h => by
    cases r with
    | false => simp [backH] at h
    | true =>
      simp only [backH] at h
      split at h
      case h_2 => cases h
      rename_i x' q h1 h2
      cases h
      refine ⟨fun k j b r x h1 => by simp at h1, fun i r y h3 => ?_⟩
      cases i with
      | zero =>
        simp only [List.length_nil, Nat.add_zero, List.getElem?_cons_zero, Option.some.injEq, Prod.mk.injEq] at h3
        obtain ⟨_, rfl⟩ := h3
        exact ⟨x', h1, by simp⟩
      | succ i =>
        obtain ⟨y', h4, h5⟩ := (backH_has h2).2 i r y (by simpa using h3)
        exact ⟨y', h4, List.mem_cons_of_mem _ (by rw [show m + (i + 1) = m + 1 + i by omega]; exact h5)⟩
  | s :: β, [], L', m, hs, h => by cases s <;> cases L' <;> simp [backH] at h
  | [], _ :: _, L', m, hs, h => by cases L' <;> simp [backH] at h
  | s :: β, (r0, b0) :: L, [], m, hs, h => by cases s <;> cases r0 <;> simp [backH] at h
  | s :: β, (r0, b0) :: L, (r1, x) :: L', m, hs, h => by
    have lift : ∀ {q : List (Nat × Ent)}, backH β0 d β L L' m = some q → (∀ z ∈ q, z ∈ hs) → (∀ j b r y, s = .whole j → (r0, b0) = (true, b) → (r1, x) = (r, y) → ∃ x', backBlk β0 d y = some x' ∧ (j, (true, x')) ∈ hs) →
        (∀ (k : Nat) j b r y, (s :: β)[k]? = some (.whole j) → ((r0, b0) :: L)[k]? = some (true, b) → ((r1, x) :: L')[k]? = some (r, y) → ∃ x', backBlk β0 d y = some x' ∧ (j, (true, x')) ∈ hs) ∧
        (∀ (i : Nat) r y, ((r1, x) :: L')[((r0, b0) :: L).length + i]? = some (r, y) → ∃ x', backBlk β0 d y = some x' ∧ (nm d + (m + i), (true, x')) ∈ hs) := by
      intro q hq hsub h0
      obtain ⟨i1, i2⟩ := backH_has hq
      refine ⟨fun k j b r y h1 h2 h3 => ?_, fun i r y h1 => ?_⟩
      · cases k with
        | zero =>
          simp only [List.getElem?_cons_zero, Option.some.injEq] at h1 h2 h3
          exact h0 j b r y h1 h2 h3
        | succ k =>
          simp only [List.getElem?_cons_succ] at h1 h2 h3
          obtain ⟨x', a, c⟩ := i1 k j b r y h1 h2 h3
          exact ⟨x', a, hsub _ c⟩
      · rw [List.length_cons, show L.length + 1 + i = L.length + i + 1 by omega, List.getElem?_cons_succ] at h1
        obtain ⟨x', a, c⟩ := i2 i r y h1
        exact ⟨x', a, hsub _ c⟩
    cases s with
    | whole j =>
      cases r0 with
      | true =>
        simp only [backH] at h
        split at h
        case h_2 => cases h
        rename_i x' q h1 h2
        cases h
        refine lift h2 (fun z hz => List.mem_cons_of_mem _ hz) ?_
        intro j' b r y e1 e2 e3
        cases e1; cases e2; cases e3
        exact ⟨x', h1, by simp⟩
      | false => exact lift (by simpa only [backH] using h) (fun z hz => hz) (fun j b r y _ e => by cases e)
    | nil => exact lift (by cases r0 <;> simpa only [backH] using h) (fun z hz => hz) (fun j b r y e => by cases e)
    | part a b c => exact lift (by cases r0 <;> simpa only [backH] using h) (fun z hz => hz) (fun j b r y e => by cases e)

theorem mem_look {α : Type} : ∀ {l : List (Nat × α)} {n : Nat} {e : α}, (n, e) ∈ l → ∃ e', look l n = some e' ∧ (n, e') ∈ l
  | (m, x) :: r, n, e, h => by
    unfold look
    cases q : Nat.beq m n with
    | true =>
      have := Nat.eq_of_beq_eq_true q
      subst this
      exact ⟨x, rfl, by simp⟩
    | false =>
      rcases List.mem_cons.1 h with h1 | h1
      · cases h1; simp at q
      · obtain ⟨e', h2, h3⟩ := mem_look h1
        exact ⟨e', h2, List.mem_cons_of_mem _ h3⟩

end

end Go.Proofs.Ytmflfpedmbfhkaa.Sym
