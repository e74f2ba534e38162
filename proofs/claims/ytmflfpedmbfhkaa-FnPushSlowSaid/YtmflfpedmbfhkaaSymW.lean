/-
  Functions without loops of which only some answer is said: an answer that depends on what comes in alone.
  No condition.
-/
import Derived.Test.YtmflfpedmbfhkaaSymU
namespace Go.Proofs.Ytmflfpedmbfhkaa.Sym
open Go
set_option linter.unusedVariables false
set_option linter.unusedSimpArgs false

section
variable {tt : Types} {S : Tab} {X : Type}

theorem appK_eq (σ : St) (dst : Option Nat) (δ : Delta) (K : St → Prop) : appK σ dst δ K = K (σ.app dst δ) := by
  obtain ⟨T, H⟩ := σ
  simp only [appK, force3_eq, pushH_eq, St.app, putT]
  cases dst <;> rfl
theorem putK_eq (σ : St) (dst : Option Nat) (v : SV) (K : St → Prop) : putK σ dst v K = K (putT σ dst v) := by
  obtain ⟨T, H⟩ := σ
  cases dst <;> rfl

theorem under_ex {p : Option Prop} {q0 : Prop} {q : X → Prop} (hq : q0 → ∃ x, q x) (h : under p q0) : ∃ x, under p (q x) := by
  cases p with
  | none => exact hq h
  | some p => obtain ⟨x, hx⟩ := hq h.2; exact ⟨x, h.1, hx⟩

theorem ifB_ex {c : Bool} {a0 b0 : Prop} {a b : X → Prop} (ha : a0 → ∃ x, a x) (hb : b0 → ∃ x, b x) (h : ifB c a0 b0) : ∃ x, ifB c (a x) (b x) := by
  cases c with
  | true => exact ha h
  | false => exact hb h

/-- No operation asks whether a list is nil. -/
def noNd (ops : List Oper) : Bool := ops.all fun o => match o.op with
  | .binOp .eql _ _ (.const (.slice _ _ _)) _ => false
  | _ => true

theorem ndOp_none {σ : St} {o : Oper} (h : (match o.op with
  | .binOp .eql _ _ (.const (.slice _ _ _)) _ => false
  | _ => true) = true) : ndOp tt σ o = none := by
  unfold ndOp
  split
  · rename_i ho
    rw [ho] at h
    cases h
  · rfl

theorem stepOp_ex {o : Oper} {σ : St} {K0 : St → Prop} {K : X → St → Prop} (hk : ∀ s, K0 s → ∃ x, K x s) (h : stepOp tt S o σ K0) : ∃ x, stepOp tt S o σ (K x) := by
  unfold stepOp at h ⊢
  split at h
  case h_2 => exact h.elim
  exact under_ex (fun h => by rw [appK_eq] at h; obtain ⟨x, hx⟩ := hk _ h; exact ⟨x, by rw [appK_eq]; exact hx⟩) h

theorem putK_ex {σ : St} {dst : Option Nat} {v : SV} {K0 : St → Prop} {K : X → St → Prop} (hk : ∀ s, K0 s → ∃ x, K x s) (h : putK σ dst v K0) : ∃ x, putK σ dst v (K x) := by
  simp only [putK_eq] at h ⊢
  exact hk _ h

theorem goOps_ex {all : List Oper} {K0 : St → Prop} {K : X → St → Prop} (hk : ∀ s, K0 s → ∃ x, K x s) : ∀ {ops : List Oper} {σ : St}, noNd ops = true → goOps tt S all ops σ K0 → ∃ x, goOps tt S all ops σ (K x)
  | [], σ, hn, h => hk _ h
  | o :: r, σ, hn, h => by
    simp only [noNd, List.all_cons, Bool.and_eq_true] at hn
    have goOn := fun s => goOps_ex (all := all) (σ := s) hk (ops := r) hn.2
    have hnd : ndOp tt σ o = none := ndOp_none hn.1
    unfold goOps at h ⊢
    split at h
    · rename_i hg
      simp only [hnd] at h
      try simp only [hg, hnd]
      exact stepOp_ex goOn h
    · rename_i g want hg
      try simp only [hg]
      split at h
      case h_2 => exact h.elim
      rename_i t hdst
      split at h
      case h_3 => exact h.elim
      · rename_i c hT
        try simp only [hT]
        cases want
        · exact ifB_ex (fun h => putK_ex (fun s h => putK_ex goOn h) h) (fun h => putK_ex (fun s h => stepOp_ex goOn h) h) h
        · exact ifB_ex (fun h => putK_ex (fun s h => stepOp_ex goOn h) h) (fun h => putK_ex (fun s h => putK_ex goOn h) h) h
      · rename_i hT
        try simp only [hT]
        exact putK_ex goOn h

theorem stepD_ex {o : Oper} {gs : List Nat} {σ : St} {K0 : St → Foot → Prop} {K : X → St → Foot → Prop} (hk : ∀ s f, K0 s f → ∃ x, K x s f) (h : stepD tt S o gs σ K0) : ∃ x, stepD tt S o gs σ (K x) := by
  unfold stepD at h ⊢
  split at h
  case h_2 => exact h.elim
  exact under_ex (fun h => by rw [appK_eq] at h; obtain ⟨x, hx⟩ := hk _ _ h; exact ⟨x, by rw [appK_eq]; exact hx⟩) h

theorem goDraw_ex {all : List Oper} {K0 : St → Prop} {K : X → St → Prop} (hk : ∀ s, K0 s → ∃ x, K x s) : ∀ {ops : List Oper} {σ : St} {fs : List Foot}, goDraw tt S all ops σ fs K0 → ∃ x, goDraw tt S all ops σ fs (K x)
  | [], σ, fs, h => by
    unfold goDraw at h ⊢
    split at h
    · exact hk _ h
    · exact h.elim
  | o :: r, σ, fs, h => by
    have goOn := fun s fs => goDraw_ex (all := all) (σ := s) (fs := fs) hk (ops := r)
    unfold goDraw at h ⊢
    split at h
    · rename_i hg
      try simp only [hg]
      exact stepD_ex (fun s f h => goOn _ _ h) h
    · rename_i g want hg
      try simp only [hg]
      split at h
      case h_2 => exact h.elim
      rename_i t hdst
      split at h
      case h_3 => exact h.elim
      · rename_i c hT
        try simp only [hT]
        cases want
        · exact ifB_ex (fun h => putK_ex (fun s h => putK_ex (fun s h => goOn _ _ h) h) h) (fun h => putK_ex (fun s h => stepD_ex (fun s f h => goOn _ _ h) h) h) h
        · exact ifB_ex (fun h => putK_ex (fun s h => stepD_ex (fun s f h => goOn _ _ h) h) h) (fun h => putK_ex (fun s h => putK_ex (fun s h => goOn _ _ h) h) h) h
      · rename_i hT
        try simp only [hT]
        exact putK_ex (fun s h => goOn _ _ h) h

def noNdC : Code → Bool
  | .region _ ops draw => draw || noNd ops.toList
  | .seq a b => noNdC a && noNdC b
  | .cond _ a b => noNdC a && noNdC b
  | .block _ b => noNdC b
  | _ => true

theorem evP_ex {m : Nat} : ∀ {c : Code} {σ : St} {K0 : Ex → St → Prop} {K : X → Ex → St → Prop}, (∀ e s, K0 e s → ∃ x, K x e s) → noNdC c = true → evP tt S L0 m c σ K0 → ∃ x, evP tt S L0 m c σ (K x)
  | .skip, σ, K0, K, hk, hn, h => hk _ _ h
  | .region id ops draw, σ, K0, K, hk, hn, h => by
    cases draw with
    | true =>
      simp only [evP] at h ⊢
      exact goDraw_ex (K := fun x s => K x .normal s) (fun s h => hk _ _ h) h
    | false =>
      simp only [evP] at h ⊢
      exact goOps_ex (K := fun x s => K x .normal s) (fun s h => hk _ _ h) (by simpa [noNdC] using hn) h
  | .seq a b, σ, K0, K, hk, hn, h => by
    simp only [noNdC, Bool.and_eq_true] at hn
    simp only [evP] at h ⊢
    refine evP_ex ?_ hn.1 h
    intro e s h
    cases e with
    | normal => exact evP_ex hk hn.2 h
    | exit i => exact hk _ _ h
    | ret => exact hk _ _ h
  | .cond c a b, σ, K0, K, hk, hn, h => by
    simp only [noNdC, Bool.and_eq_true] at hn
    simp only [evP] at h ⊢
    split at h
    · exact ifB_ex (fun h => evP_ex hk hn.1 h) (fun h => evP_ex hk hn.2 h) h
    · exact h.elim
  | .block id b, σ, K0, K, hk, hn, h => by
    simp only [noNdC] at hn
    simp only [evP] at h ⊢
    refine evP_ex ?_ hn h
    intro e s h
    cases e with
    | normal => exact hk _ _ h
    | exit i =>
      simp only at h ⊢
      split at h <;> exact hk _ _ h
    | ret => exact hk _ _ h
  | .loop b, σ, K0, K, hk, hn, h => by simp only [evP, L0] at h; exact h.elim
  | .exit id, σ, K0, K, hk, hn, h => hk _ _ h
  | .ret, σ, K0, K, hk, hn, h => hk _ _ h
  | .rangeFunc .., σ, K0, K, hk, hn, h => by simp [evP] at h
  | .scope b, σ, K0, K, hk, hn, h => by simp [evP] at h
  | .label l, σ, K0, K, hk, hn, h => by simp [evP] at h
  | .goto l, σ, K0, K, hk, hn, h => by simp [evP] at h
  | .refuse s, σ, K0, K, hk, hn, h => by simp [evP] at h

theorem finish_ex {fn : Func} {m : Nat} {σ : St} {Q0 : SV → List Ent → Prop} {Q : X → SV → List Ent → Prop} (hk : ∀ r h, Q0 r h → ∃ x, Q x r h) (h : finish tt fn m σ Q0) : ∃ x, finish tt fn m σ (Q x) := by
  unfold finish at h ⊢
  split at h
  case h_2 => exact h.elim
  split at h
  case h_2 => exact h.elim
  exact hk _ _ h

theorem fnVC_ex {fn : Func} {args : List SV} {H : List Ent} {Q0 : SV → List Ent → Prop} {Q : X → SV → List Ent → Prop} (hn : fn.body.all noNdC = true) (hk : ∀ r h, Q0 r h → ∃ x, Q x r h)
    (h : fnVC tt S L0 fn args H Q0) : ∃ x, fnVC tt S L0 fn args H (Q x) := by
  unfold fnVC at h ⊢
  split at h
  case h_2 => exact h.elim
  rename_i c hc
  rw [hc] at hn
  split at h
  case h_2 => exact h.elim
  refine evP_ex ?_ hn h
  intro e s h
  cases e with
  | normal => exact finish_ex hk h
  | exit i => exact h.elim
  | ret => exact finish_ex hk h

/-- Some answer that a function may be said to give. -/
noncomputable def someAns [Nonempty X] (tt : Types) (S : Tab) (fn : Func) (args : List SV) (H : List Ent) (R : X → SV) (HH : X → List Ent) : X :=
  Classical.epsilon fun x => fnVC tt S L0 fn args H fun r' h => r' = R x ∧ h = HH x

theorem someAns_ok [Nonempty X] {fn : Func} {args : List SV} {H : List Ent} {R : X → SV} {HH : X → List Ent} (hn : fn.body.all noNdC = true)
    (h : fnVC tt S L0 fn args H fun r h => ∃ x, r = R x ∧ h = HH x) :
    fnVC tt S L0 fn args H fun r' h => r' = R (someAns tt S fn args H R HH) ∧ h = HH (someAns tt S fn args H R HH) :=
  Classical.epsilon_spec (p := fun x => fnVC tt S L0 fn args H fun r' h => r' = R x ∧ h = HH x) (fnVC_ex hn (fun _ _ h => h) h)

end

end Go.Proofs.Ytmflfpedmbfhkaa.Sym
