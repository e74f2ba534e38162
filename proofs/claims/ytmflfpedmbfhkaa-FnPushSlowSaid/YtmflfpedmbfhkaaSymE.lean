/-
  Each operation does what the symbolic machine says of it, first part: operations that touch no memory.
  No condition.
-/
import Derived.Test.YtmflfpedmbfhkaaSymD
namespace Go.Proofs.Ytmflfpedmbfhkaa.Sym
open Go
set_option linter.unusedVariables false
set_option linter.unusedSimpArgs false

def Does (P : Program) (o : Oper) (a : Act) (w : World) (R : Value → World → Prop) : Prop :=
  (∃ v w', (execOp a.eval o).run P w = .ok (.value v) w' ∧ R v w') ∨
  (∃ w', (execOp a.eval o).run P w = .ok .skip w' ∧ R undef w') ∨
  (∃ f args, (execOp a.eval o).run P w = .ok (.enter f args) w ∧ Calls P f args w fun e w' => ∃ v, e = .returned v ∧ R v w')

theorem Does.wp {P : Program} {o : Oper} {a : Act} {w : World} {R : Value → World → Prop} (h : Does P o a w R) {K : Act → World → Prop} {Q : Exit → Act → World → Prop}
    (hk : ∀ v w', R v w' → K (a.put o.dst v) w') : o.wp P a w K Q := by
  unfold Oper.wp
  rcases h with ⟨v, w', hr, hR⟩ | ⟨w', hr, hR⟩ | ⟨f, args, hr, hc⟩
  · rw [hr]; exact hk _ _ hR
  · rw [hr]; exact hk _ _ hR
  · rw [hr]
    refine hc.mono ?_
    rintro e w'' ⟨v, rfl, hR⟩
    exact hk _ _ hR

/-- What is shown of an operation. -/
def Good (P : Program) (wr : Nat → Prop) (env : Env) (H : Hp) (a : Act) (w : World) (o : Oper) (δ : Delta) : Prop :=
  Does P o a w fun v w' => ∃ env', Ext env H env' (updH H δ.hs) ∧ HRel wr env' (updH H δ.hs) w' ∧ Fr wr w w' ∧ conc env' (updH H δ.hs) δ.v v

theorem updH_nil (H : Hp) : updH H [] = H := by funext n; simp [updH, look]

theorem good_pure {P : Program} {wr : Nat → Prop} {env : Env} {H : Hp} {a : Act} {w : World} {o : Oper} {p : Option Prop} {s : SV} {v : Value}
    (hh : HRel wr env H w) (hr : (execOp a.eval o).run P w = .ok (.value v) w) (hc : conc env H s v) : Good P wr env H a w o ⟨p, s, []⟩ :=
  .inl ⟨v, w, hr, env, by rw [updH_nil]; exact ⟨.refl _ _, hh, .refl _ _, hc⟩⟩

theorem cst1_ok (env : Env) (H : Hp) (v : Value) : concC env H (cst1 v) v := by
  unfold cst1
  split <;> simp [concC]

theorem csts_ok (env : Env) (H : Hp) : ∀ vs : List Value, concCs env H (vs.map cst1) vs
  | [] => trivial
  | v :: r => ⟨cst1_ok env H v, csts_ok env H r⟩

theorem conc_of_conc2 {env : Env} {H : Hp} {s : SV} {v : Value} (h : conc2 env H s v) : conc env H s v := by
  cases s <;> first | exact h | (simp [conc2, concC] at h)

theorem conc2_of_concC {env : Env} {H : Hp} {s : SV} {v : Value} (h : concC env H s v) : conc2 env H s v := by
  cases s <;> first | exact h | (simp [concC] at h)

theorem conc_of_concC {env : Env} {H : Hp} {s : SV} {v : Value} (h : concC env H s v) : conc env H s v := conc_of_conc2 (conc2_of_concC h)

theorem cst_ok (env : Env) (H : Hp) (v : Value) : conc env H (cst v) v := by
  unfold cst
  split
  · rename_i cs
    exact ⟨cs, rfl, csts_ok env H cs.toList⟩
  · exact conc_of_concC (cst1_ok env H v)

section
variable {α : Type} {T : Nat → SV} {H : Hp} {env : Env} {a : Act}

theorem opv_inv (hs : ∀ d, conc env H (T d) (a.tmps.getD d undef)) {x : Operand} {k : SV → RM α} {r : α} (h : (opv x k).run T H = some r) :
    ∃ s, (k s).run T H = some r ∧ conc env H s (a.eval x) := by
  cases x with
  | tmp t => exact ⟨T t, h, hs t⟩
  | const v => exact ⟨_, h, cst_ok env H v⟩
  | func f => exact ⟨_, h, rfl⟩
  | global g => simp [opv, RM.run] at h

def concL (env : Env) (H : Hp) : List SV → List Value → Prop
  | [], [] => True
  | c :: cs, v :: vs => conc env H c v ∧ concL env H cs vs
  | _, _ => False

theorem opvs_inv (hs : ∀ d, conc env H (T d) (a.tmps.getD d undef)) : ∀ {xs : List Operand} {k : List SV → RM α} {r : α}, (opvs xs k).run T H = some r →
    ∃ ss, (k ss).run T H = some r ∧ concL env H ss (xs.map a.eval)
  | [], k, r, h => ⟨[], h, trivial⟩
  | x :: xs, k, r, h => by
    obtain ⟨s, h, hc⟩ := opv_inv hs h
    obtain ⟨ss, h, hcs⟩ := opvs_inv hs h
    exact ⟨s :: ss, h, hc, hcs⟩

theorem tiOf_inv {tt : Types} {t : Nat} {k : TI → RM α} {r : α} (h : (tiOf tt t k).run T H = some r) : ∃ i, tt t = some i ∧ (k i).run T H = some r := by
  unfold tiOf at h
  split at h
  · exact ⟨_, by assumption, h⟩
  · simp [RM.run] at h
end

theorem conc_int {env : Env} {H : Hp} {k : IntKind} {n : Int} {v : Value} (h : conc env H (.int k n) v) : v = .int k n := h
theorem conc_bool {env : Env} {H : Hp} {b : Bool} {v : Value} (h : conc env H (.bool b) v) : v = .bool b := h

section
variable {P : Program} {wr : Nat → Prop} {env : Env} {H : Hp} {a : Act} {w : World} {T : Nat → SV} {δ : Delta}

theorem move_ok (hh : HRel wr env H w) (hs : ∀ d, conc env H (T d) (a.tmps.getD d undef)) {dst : Option Nat} {x : Operand} {t : Nat} {pos : String} {af : Array Edge} {g : Option (Nat × Bool)}
    (h : (opv x ret1).run T H = some δ) : Good P wr env H a w ⟨dst, .move x, t, pos, af, g⟩ δ ∧ Good P wr env H a w ⟨dst, .assign x, t, pos, af, g⟩ δ := by
  obtain ⟨s, h, hc⟩ := opv_inv hs h
  simp only [ret1, RM.run, Option.some.injEq] at h
  subst h
  exact ⟨good_pure hh rfl hc, good_pure hh rfl hc⟩

theorem pick_ok (hh : HRel wr env H w) (hs : ∀ d, conc env H (T d) (a.tmps.getD d undef)) {S : Tab} {tt : Types} {d : Nat} {c x y : Operand} {t : Nat} {pos : String} {af : Array Edge} {g : Option (Nat × Bool)}
    (h : (evOp tt S ⟨some d, .pick c x y, t, pos, af, g⟩).run T H = some δ) : Good P wr env H a w ⟨some d, .pick c x y, t, pos, af, g⟩ δ := by
  simp only [evOp] at h
  obtain ⟨s, h, hc⟩ := opv_inv hs h
  cases s <;> simp only [RM.run, reduceCtorEq] at h
  rename_i b
  have hb := conc_bool hc
  cases b <;> simp only at h <;> obtain ⟨s, h, hx⟩ := opv_inv hs h <;> simp only [ret1, RM.run, Option.some.injEq] at h <;> subst h <;>
    exact good_pure hh (by simp [execOp, hb, asBool, bind, Sem.bind, pure]) hx

end

end Go.Proofs.Ytmflfpedmbfhkaa.Sym
