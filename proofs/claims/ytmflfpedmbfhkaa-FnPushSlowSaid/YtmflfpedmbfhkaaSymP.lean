/-
  Regions: one step, and operations in the order of the text.
  No condition.
-/
import Derived.Test.YtmflfpedmbfhkaaSymO
namespace Go.Proofs.Ytmflfpedmbfhkaa.Sym
open Go
set_option linter.unusedVariables false
set_option linter.unusedSimpArgs false

theorem force2_eq {β : Sort 1} (v : SV) (K : SV → β) : force2 v K = K v := by
  cases v <;> simp [force2, force1_eq, forceL_eq]
theorem force2s_eq {β : Sort 1} : ∀ (cs : List SV) (K : List SV → β), force2s cs K = K cs
  | [], K => rfl
  | c :: r, K => by rw [force2s, force2_eq, force2s_eq r]
theorem force3_eq {β : Sort 1} (v : SV) (K : SV → β) : force3 v K = K v := by
  cases v <;> simp [force3, force2_eq, force2s_eq]
theorem forceB_eq {β : Sort 1} (b : Blk) (K : Blk → β) : forceB b K = K b := by
  cases b <;> simp [forceB, forceL_eq]
theorem pushH_eq {β : Sort 1} : ∀ (hs H : List (Nat × Ent)) (K : List (Nat × Ent) → β), pushH hs H K = K (hs ++ H)
  | [], H, K => rfl
  | (n, rw, b) :: r, H, K => by rw [pushH, forceB_eq, pushH_eq r]; rfl

theorem look_append {α : Type} : ∀ (l m : List (Nat × α)) (d : Nat), look (l ++ m) d = match look l d with
    | some x => some x
    | none => look m d
  | [], m, d => by simp [look]
  | (n, x) :: r, m, d => by
    simp only [List.cons_append, look]
    cases Nat.beq n d with
    | true => rfl
    | false => exact look_append r m d

theorem slot_cons (d : Nat) (v : SV) (T : List (Nat × SV)) (H : List (Nat × Ent)) : St.slot ⟨(d, v) :: T, H⟩ = updT (St.slot ⟨T, H⟩) (some d) v := by
  funext x
  simp only [St.slot, look, updT]
  cases Nat.beq d x <;> rfl

theorem blk_append (T : List (Nat × SV)) (hs H : List (Nat × Ent)) : St.blk ⟨T, hs ++ H⟩ = updH (St.blk ⟨T, H⟩) hs := by
  funext x
  simp only [St.blk, look_append, updH]
  cases look hs x <;> rfl

theorem appK_spec {σ : St} {dst : Option Nat} {δ : Delta} {K : St → Prop} (h : appK σ dst δ K) : ∃ s, K s ∧ s.slot = updT σ.slot dst δ.v ∧ s.blk = updH σ.blk δ.hs := by
  obtain ⟨T, H⟩ := σ
  simp only [appK, force3_eq, pushH_eq] at h
  cases dst with
  | none => exact ⟨_, h, rfl, blk_append T δ.hs H⟩
  | some d => exact ⟨_, h, slot_cons d δ.v T _, blk_append _ δ.hs H⟩

theorem putK_spec {σ : St} {dst : Option Nat} {v : SV} {K : St → Prop} (h : putK σ dst v K) : ∃ s, K s ∧ s.slot = updT σ.slot dst v ∧ s.blk = σ.blk := by
  obtain ⟨T, H⟩ := σ
  simp only [putK] at h
  cases dst with
  | none => exact ⟨_, h, rfl, rfl⟩
  | some d => exact ⟨_, h, slot_cons d v T _, rfl⟩

theorem updT_self {T : Nat → SV} {t : Nat} {v : SV} (h : T t = v) : updT T (some t) v = T := by
  funext x
  simp only [updT]
  cases e : Nat.beq t x with
  | true => have := Nat.eq_of_beq_eq_true e; subst this; exact h.symm
  | false => rfl

/-- What one operation does at given slots and names: its slot's value, the names that it writes, its foot. -/
structure Eff where
  v : SV
  hs : List (Nat × Ent)
  f : Foot

def OneStep (tt : Types) (S : Tab) (all : List Oper) (o : Oper) (T : Nat → SV) (H : Hp) (e : Eff) : Prop :=
  (∃ gs δ, (gs = [] ∧ o.guard = none ∨ ∃ g want t, gs = [t] ∧ o.guard = some (g, want) ∧ dstOf all g = some t ∧ T t = .bool want) ∧
    (evOp tt S o).run T H = some δ ∧ (∀ p, δ.ok = some p → p) ∧ e = ⟨δ.v, δ.hs, ⟨gs ++ ((evOp tt S o).reads T H).1, ((evOp tt S o).reads T H).2, o.dst.toList, δ.hs.map (·.1)⟩⟩) ∨
  (∃ g want t, o.guard = some (g, want) ∧ dstOf all g = some t ∧ (T t = .bool (!want) ∨ T t = noSlot) ∧ e = ⟨noSlot, [], ⟨[t], [], o.dst.toList, []⟩⟩)

def Kept (m : Nat) (env0 env : Env) (H : Hp) : Prop := ∀ j, j < m → env j = env0 j ∧ ∃ e, H j = some e

/-- The symbolic state stands for the real one. -/
def At (n : Nat) (wr : Nat → Prop) (w0 : World) (m : Nat) (env0 : Env) (T : Nat → SV) (H : Hp) (a : Act) (w : World) : Prop := ∃ env, Rel n wr w0 env T H a w ∧ Kept m env0 env H

section
variable {P : Program} {n : Nat} {wr : Nat → Prop} {w0 : World} {m : Nat} {env0 : Env} {T : Nat → SV} {H : Hp} {a : Act} {w : World}

theorem Kept.ext {env env' : Env} {H' : Hp} (h : Kept m env0 env H) (x : Ext env H env' H') : Kept m env0 env' H' := fun j hj => by
  obtain ⟨h1, ⟨r, b⟩, h2⟩ := h j hj
  obtain ⟨h3, r', b', h4, _⟩ := x.same j r b h2
  exact ⟨h3.trans h1, _, h4⟩

theorem yielded_of {all : List Oper} {ops : Array Oper} (ho : ops.toList = all) {g t : Nat} (hg : dstOf all g = some t) {b : Bool} (hv : a.tmps.getD t undef = .bool b) : yielded ops a.tmps g = some b := by
  subst ho
  unfold dstOf at hg
  split at hg
  case h_2 => cases hg
  rename_i o hog
  have h1 : ops[g]? = some o := by simpa using hog
  unfold yielded
  have h2 : a.tmps[t]? = some (.bool b) := by
    rw [Array.getD_eq_getD_getElem?] at hv
    cases h : a.tmps[t]? with
    | none => rw [h] at hv; cases hv
    | some x => rw [h] at hv; exact congrArg some hv
  simp [h1, hg, h2]

theorem yielded_no {env : Env} {all : List Oper} {ops : Array Oper} (ho : ops.toList = all) {g t : Nat} (hg : dstOf all g = some t) (hv : conc env H noSlot (a.tmps.getD t undef)) : yielded ops a.tmps g = none := by
  subst ho
  unfold dstOf at hg
  split at hg
  case h_2 => cases hg
  rename_i o hog
  have h1 : ops[g]? = some o := by simpa using hog
  obtain ⟨vs, hvs, _⟩ := hv
  unfold yielded
  simp only [h1, Option.bind_some, hg]
  rw [Array.getD_eq_getD_getElem?] at hvs
  cases h : a.tmps[t]? with
  | none => rfl
  | some x =>
    rw [h] at hvs
    have hx : x = .tuple vs := hvs
    subst hx
    rfl

theorem step_ok {tt : Types} (ht : TabOk P tt) {S : Tab} (hS : TabFs P S) {ops : Array Oper} {all : List Oper} (ha : ops.toList = all) {o : Oper} (hd : ∀ d, o.dst = some d → d < n) {e : Eff}
    (h : At n wr w0 m env0 T H a w) (he : OneStep tt S all o T H e) {K : Act → World → Prop} {Q : Exit → Act → World → Prop}
    (hk : ∀ a' w', At n wr w0 m env0 (updT T o.dst e.v) (updH H e.hs) a' w' → K a' w') :
    if Region.wanted o (yielded ops a.tmps) then o.wp P a w K Q ∨ (o.asks P a w ∧ LetsOut Q) else K (a.put o.dst undef) w := by
  obtain ⟨env, hr, kept⟩ := h
  rcases he with ⟨gs, δ, hg, hrun, hp, rfl⟩ | ⟨g, want, t, hg, hdst, hT, rfl⟩
  · have hw : Region.wanted o (yielded ops a.tmps) = true := by
      rcases hg with ⟨_, hg⟩ | ⟨g, want, t, _, hg, hdst, hT⟩
      · simp [Region.wanted, hg]
      · have hv := hr.slots t
        rw [hT] at hv
        have := yielded_of ha hdst (conc_bool hv)
        simp [Region.wanted, hg, this]
    rw [if_pos hw]
    left
    have hgood := evOp_ok hr.heap (fun k hk => hr.new k (Nat.le_trans hr.fr.size hk)) hr.slots ht hS hrun hp
    refine Does.wp hgood ?_
    rintro v w' ⟨env', h1, h2, h3, h4⟩
    exact hk _ _ ⟨env', hr.put h1 h2 h3 hd h4, kept.ext h1⟩
  · have hw : ¬ Region.wanted o (yielded ops a.tmps) = true := by
      have hv := hr.slots t
      rcases hT with hT | hT
      · rw [hT] at hv
        have := yielded_of ha hdst (conc_bool hv)
        simp [Region.wanted, hg, this]
      · rw [hT] at hv
        have := yielded_no ha hdst hv
        simp [Region.wanted, hg, this]
    rw [if_neg hw]
    refine hk _ _ ⟨env, ?_, ?_⟩
    · refine hr.put ?_ ?_ (.refl _ _) hd ?_
      · simp only [updH_nil]; exact .refl _ _
      · simp only [updH_nil]; exact hr.heap
      · exact ⟨#[], rfl, trivial⟩
    · simp only [updH_nil]; exact kept

theorem under_inv {p : Option Prop} {q : Prop} (h : under p q) : (∀ r, p = some r → r) ∧ q := by
  cases p with
  | none => exact ⟨fun r e => (by cases e), h⟩
  | some p => exact ⟨fun r e => (by cases e; exact h.1), h.2⟩

theorem not_bool {b : Bool} : (SV.bool b) = .bool (!!b) := by simp

theorem nd_ok {tt : Types} (ht : TabOk P tt) {env : Env} {σ : St} (hh : HRel wr env σ.blk w) (hs : ∀ d, conc env σ.blk (σ.slot d) (a.tmps.getD d undef)) {o : Oper} {k : Nat} (h : ndOp tt σ o = some k) :
    ∃ b : Bool, (b = true → k = 0) ∧ (execOp a.eval o).run P w = .ok (.value (.bool b)) w := by
  unfold ndOp at h
  split at h
  case h_2 => cases h
  rename_i t x u ho
  split at h
  case h_2 => cases h
  rename_i j i hj hi
  split at h
  case h_2 => cases h
  rename_i U rw V xs hU hb
  cases h
  obtain ⟨hu, _⟩ := typeOk_slice (ht _ _ hi) hU
  have hv := hs x
  rw [hj] at hv
  have hv : a.tmps.getD x undef = .slice (env j).1 xs.length (env j).2 := by simpa [conc, conc2, concC, hb] using hv
  obtain ⟨h1, h2⟩ := hh.blk j rw _ hb
  refine ⟨(env j).1.isNone, ?_, ?_⟩
  · intro hn
    rcases h2 with h2 | ⟨b, off, E, vs, fz, h3, _⟩
    · omega
    · rw [h3] at hn
      cases hn
  · have e1 : a.eval (.tmp x) = .slice (env j).1 xs.length (env j).2 := hv
    have e2 : a.eval (.const (.slice none 0 0)) = .slice none 0 0 := rfl
    have h5 : (Op.equal t (.slice (env j).1 xs.length (env j).2) (.slice none 0 0)).run P w = .ok (env j).1.isNone w := by
      show (Op.equalIn (9999 + 1) t (.slice (env j).1 xs.length (env j).2) (.slice none 0 0)).run P w = _
      rw [Op.equalIn]
      cases hc : (env j).1 <;> simp [run_underlying hu]
    have h6 : (binOp .eql t (.slice (env j).1 xs.length (env j).2) (.slice none 0 0)).run P w = .ok (.bool (env j).1.isNone) w := by
      simp only [binOp, Sem.run_bind, h5, Result.andThen_ok, Sem.run_pure]
    have h7 : (eqGuard .eql t (.tmp x) (.const (.slice none 0 0)) (.slice (env j).1 xs.length (env j).2) (.slice none 0 0)).run P w = .ok () w := rfl
    simp [execOp, ho, e1, e2, h6, h7]

theorem goOps_ok {tt : Types} (ht : TabOk P tt) {S : Tab} (hS : TabFs P S) {ops : Array Oper} {all : List Oper} (ha : ops.toList = all) {Q : Exit → Act → World → Prop} {K : St → Prop}
    (hk : ∀ σ a w, K σ → At n wr w0 m env0 σ.slot σ.blk a w → Q .normal a w) :
    ∀ {l : List Oper} {σ : St} {a : Act} {w : World}, (∀ o ∈ l, ∀ d, o.dst = some d → d < n) → goOps tt S all l σ K → At n wr w0 m env0 σ.slot σ.blk a w → wpList P ops Q l a w
  | [], σ, a, w, hd, h, hat => hk σ a w h hat
  | o :: r, σ, a, w, hd, h, hat => by
    have goOn := fun {σ : St} {a : Act} {w : World} => goOps_ok (σ := σ) (a := a) (w := w) ht hS ha hk (fun o' ho' => hd o' (List.mem_cons_of_mem _ ho'))
    have hdo := hd o List.mem_cons_self
    have stp : ∀ {s : St} (gs : List Nat), (gs = [] ∧ o.guard = none ∨ ∃ g want t, gs = [t] ∧ o.guard = some (g, want) ∧ dstOf all g = some t ∧ s.slot t = .bool want) → At n wr w0 m env0 s.slot s.blk a w →
        stepOp tt S o s (fun s => goOps tt S all r s K) → wpList P ops Q (o :: r) a w := by
      intro s gs hg hat h
      unfold stepOp at h
      split at h
      case h_2 => exact h.elim
      rename_i δ hrun
      obtain ⟨hp, h⟩ := under_inv h
      obtain ⟨s', h, e1, e2⟩ := appK_spec h
      simp only [wpList]
      refine step_ok ht hS ha hdo hat (.inl ⟨gs, δ, hg, hrun, hp, rfl⟩) ?_
      intro a' w' hat'
      refine goOn h ?_
      rw [e1, e2]
      exact hat'
    have skp : ∀ {s : St} {g want t}, o.guard = some (g, want) → dstOf all g = some t → (s.slot t = .bool (!want) ∨ s.slot t = noSlot) → At n wr w0 m env0 s.slot s.blk a w →
        putK s o.dst noSlot (fun s => goOps tt S all r s K) → wpList P ops Q (o :: r) a w := by
      intro s g want t hg hdst hT hat h
      obtain ⟨s', h, e1, e2⟩ := putK_spec h
      simp only [wpList]
      refine step_ok ht hS ha hdo hat (.inr ⟨g, want, t, hg, hdst, hT, rfl⟩) ?_
      intro a' w' hat'
      refine goOn h ?_
      rw [e1, e2]
      simpa only [updH_nil] using hat'
    simp only [goOps] at h
    split at h
    · rename_i hg
      split at h
      · rename_i k d hk hd'
        obtain ⟨env, hr, kept⟩ := id hat
        obtain ⟨b, hb, hrun⟩ := nd_ok (P := P) ht hr.heap hr.slots hk
        obtain ⟨s', h, e1, e2⟩ := putK_spec (h b hb)
        have hw : Region.wanted o (yielded ops a.tmps) = true := by simp [Region.wanted, hg]
        simp only [wpList]
        rw [if_pos hw]
        left
        refine Does.wp (R := fun v w' => v = .bool b ∧ w' = w) (.inl ⟨_, _, hrun, rfl, rfl⟩) ?_
        rintro v w' ⟨rfl, rfl⟩
        refine goOn h ?_
        rw [e1, e2, ← hd']
        exact ⟨env, hr.put (.refl _ _) hr.heap (.refl _ _) hdo (v := .bool b) (u := .bool b) rfl, kept⟩
      · exact stp [] (.inl ⟨rfl, hg⟩) hat h
    · rename_i g want hg
      split at h
      case h_2 => exact h.elim
      rename_i t hdst
      split at h
      case h_3 => exact h.elim
      case h_2 hT => exact skp hg hdst (.inr hT) hat h
      rename_i c hT
      cases c with
      | true =>
        simp only [ifB] at h
        cases want with
        | true =>
          obtain ⟨s1, h, e1, e2⟩ := putK_spec h
          rw [updT_self hT] at e1
          exact stp [t] (.inr ⟨g, true, t, rfl, hg, hdst, by rw [e1, hT]⟩) (by rw [e1, e2]; exact hat) h
        | false =>
          obtain ⟨s1, h, e1, e2⟩ := putK_spec h
          rw [updT_self hT] at e1
          exact skp hg hdst (.inl (by rw [e1, hT]; rfl)) (by rw [e1, e2]; exact hat) h
      | false =>
        simp only [ifB] at h
        cases want with
        | true =>
          obtain ⟨s1, h, e1, e2⟩ := putK_spec h
          rw [updT_self hT] at e1
          exact skp hg hdst (.inl (by rw [e1, hT]; rfl)) (by rw [e1, e2]; exact hat) h
        | false =>
          obtain ⟨s1, h, e1, e2⟩ := putK_spec h
          rw [updT_self hT] at e1
          exact stp [t] (.inr ⟨g, false, t, rfl, hg, hdst, by rw [e1, hT]⟩) (by rw [e1, e2]; exact hat) h

end

end Go.Proofs.Ytmflfpedmbfhkaa.Sym
