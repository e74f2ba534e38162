/-
  How a function's answer enters the table.
  No condition.
-/
import Derived.Test.YtmflfpedmbfhkaaSymS
namespace Go.Proofs.Ytmflfpedmbfhkaa.Sym
open Go
set_option linter.unusedVariables false
set_option linter.unusedSimpArgs false

theorem run_callFunc {P : Program} {f : Nat} {fn : Func} (hf : P.funcs[f]? = some fn) (hn : (fn.name == "runtime.NumGoroutine") = false) (hb : fn.body.isNone = false) (w : World) (args : Array Value) :
    (callFunc f args).run P w = .ok (.enter f args) w := by
  have hn' : ¬ fn.name = "runtime.NumGoroutine" := by simpa using hn
  have hb' : ¬ fn.body = none := fun e => by rw [e] at hb; cases hb
  simp [callFunc, hf, hn', hb']

theorem fsOk_of {P : Program} {tt : Types} (ht : TabOk P tt) {S : Tab} (hS : TabFs P S) (hm : P.follows .mixedOrders = true) {f : Nat} {fn : Func} (hf : P.funcs[f]? = some fn) (hn : (fn.name == "runtime.NumGoroutine") = false) (hb : fn.body.isNone = false)
    {fs : Fs} (h : ∀ args LL p r HH, fs.ev args LL = some (p, r, HH) → (∀ q, p = some q → q) → Form LL HH ∧ ∃ L, fnVC tt S L fn args LL fun r' h => r' = r ∧ h = HH) : FsOk P f fs :=
  ⟨fun w args => run_callFunc hf hn hb w args, fun args L p r L' he hp => let ⟨h1, _, h2⟩ := h args L p r L' he hp; fn_ok ht hS hm hf h1 h2⟩

theorem tabFs_nil {P : Program} : TabFs P (look []) := fun f fs h => by simp [look] at h

theorem tabFs_cons {P : Program} {f : Nat} {fs : Fs} {l : List (Nat × Fs)} (h : FsOk P f fs) (hl : TabFs P (look l)) : TabFs P (look ((f, fs) :: l)) := fun g gs hg => by
  simp only [look] at hg
  split at hg
  · rename_i hb
    have := Nat.eq_of_beq_eq_true hb
    subst this
    cases hg
    exact h
  · exact hl g gs hg

theorem ifB_of {c : Bool} {a b : Prop} (h1 : c = true → a) (h2 : c = false → b) : ifB c a b := by
  cases c with
  | true => exact h1 rfl
  | false => exact h2 rfl

theorem ifB_true {c : Bool} {a b : Prop} (h : c = true) : ifB c a b = a := by subst h; rfl
theorem ifB_false {c : Bool} {a b : Prop} (h : c = false) : ifB c a b = b := by subst h; rfl

/-- A fact that is not opened. -/
structure Holds (p : Prop) : Prop where
  out : p

/-- No loops. -/
def L0 : Loops := fun _ => none

structure Ray where
  From : Vec
  Way : Vec

end Go.Proofs.Ytmflfpedmbfhkaa.Sym
