/-
  Pushed and moved apart: the laws.
  No condition.
-/
import Derived.Test.YtdhbkcaaijgocaaP2
namespace Go.Proofs.Ytdhbkcaaijgocaa.Sym
open Go
set_option linter.unusedVariables false
set_option linter.unusedSimpArgs false
set_option maxRecDepth 100000

def ctI (n : Int) (c : Contact) : Bool := isIn c.A 0 (W (n - 1)) && isIn c.B 0 (W (n - 1)) && !(c.A == c.B) && hitOk c.Hit
def ctsI (n : Int) (cs : List Contact) : Bool := allTo (fun e => ctI n (Ty.ix .contact cs e)) cs.length && decide (cs.length ≤ 144)
theorem ctsI_ok {n : Nat} {cs : List Contact} (hn : n ≤ 1048576) (h : ctsI n cs = true) : CtsOk n cs := by
  simp only [ctsI, Bool.and_eq_true, decide_eq_true_eq] at h
  refine ⟨h.2, fun k hk => ?_⟩
  have h1 : ctI n (Ty.ix .contact cs k) = true := by
    cases q : ctI n (Ty.ix .contact cs k) with
    | true => rfl
    | false => rw [allTo_false (p := fun e => ctI n (Ty.ix .contact cs e)) q hk] at h; simp at h
  have w : W ((n : Int) - 1) = n - 1 := wrap_small (by omega) (by omega)
  simp only [ctI, w, isIn, Bool.and_eq_true, decide_eq_true_eq, Bool.not_eq_true', beq_eq_false_iff_ne] at h1
  obtain ⟨⟨⟨h1, h2⟩, h3⟩, h4⟩ := h1
  exact ⟨by omega, by omega, by omega, by omega, h3⟩
def pushesOk (xs : List Body) (cs : List Contact) : Bool := bodiesOk xs && ctsI xs.length cs
def pushAllB (xs : List Body) (cs : List Contact) : List Body := bif pushesOk xs cs then pushAllF xs cs else []
def apartB (xs : List Body) (cs : List Contact) : List Body := bif pushesOk xs cs then apartF xs cs else []

theorem ix_mem3 {T : Ty} {xs : List T.El} {i : Nat} (h : i < xs.length) : T.ix xs i ∈ xs := List.mem_of_getElem? (ix_get (T := T) h)
def LSsl8c  : LS where
  S := List Body × List Contact × Unit × Unit × Int
  live := [(0, [none]), (1, [none]), (5, [none])]
  shape := fun s => ([.vec 0, .vec 1, .int .i64 s.2.2.2.2], [(false, .vec .body s.1), (false, .vec .contact s.2.1)])
  get := fun v h => match v, h with
    | [.vec 0, .vec 1, .int .i64 i], [(false, .vec .body xs), (false, .vec .contact cs)] => some (xs, cs, (), (), i)
    | _, _ => none
  inv := fun s0 s => Holds (s.1 = s0.1 ∧ s.2.1 = s0.2.1 ∧ 0 ≤ s.2.2.2.2 ∧ s.2.2.2.2 ≤ s0.2.1.length ∧ allTo (fun e => ctI s0.1.length (Ty.ix .contact s0.2.1 e)) s.2.2.2.2.toNat = true)
  mu := fun s => ((s.2.1.length : Int) - s.2.2.2.2).toNat
  ok := by
    intro v h s hg
    try dsimp only at hg
    split at hg <;> cases hg
    rfl

def L_sl8c : Loops := fun n => match n with
  | 2 => some LSsl8c
  | _ => none
end Go.Proofs.Ytdhbkcaaijgocaa.Sym
