/-
  FnExactSteps returns true at every argument.
  No condition.
-/
import Derived.Test.YtdhbkcaaijgocaaGreatPF
import Derived.Test.YtdhbkcaaijgocaaGreatCA8
namespace Go.Proofs.YtdhbkcaaijgocaaGreat.rowExactSteps
open Go Go.ChangeShapes Go.WideShapes Go.ChangeAt Go.RowKit Go.Proofs.YtdhbkcaaijgocaaGreat.Sym
set_option linter.unusedVariables false
set_option maxRecDepth 100000
theorem laidOut : laidOutB Tryz.prog = true := facts.laid

theorem lifted (os : Os) (started : os.Started) (H : Type) (enc : TypeId × Value → H) :
    ReturnsInHanded {} Tryz.checked os 4 .any (Rows.fnExactStepsSpec.pre6 enc Tryz.prog Tryz.f4 Rows.fnExactStepsRow.domain false) (Rows.fnExactStepsSpec.post enc Tryz.prog Tryz.f4 false true false false) := by
  refine returnsInHanded_of_change_sized (C := Tryz.checked) facts.own started (by kernel_rfl) Tryz.func4
    (ChangeSpec.witness6 (enc := enc) (C := Tryz.checked) false ⟨#[], #[.slice none 0 0, .int .i64 0, .int .i64 0], []⟩ 8 (by kernel_rfl) (by kernel_rfl) (by kernel_rfl) (by kernel_rfl)) ?_
  intro W base args ds gs before hval0 hW hcnd hsz0 _
  have hval : ∀ (j : Nat) t v, Tryz.f4.params[j]? = some t → args[j]? = some v → Value.okWide Tryz.prog W .any base t v := hval0
  have hW' := hW
  obtain ⟨p, q, hA0, hV, rfl, hfz, hnd⟩ := hW
  have hA : DataW.TrodAll enc Tryz.prog W 0 (fun _ => true) true Tryz.f4.params.toList args.toList ds p := hA0
  rw [Tryz.params4] at hA hval
  obtain ⟨v0, vs0, d0, ds0, p0, q0, hargs0, rfl, rfl, h0, r0⟩ := trodAll_cons hA
  obtain ⟨v1, vs1, d1, ds1, p1, q1, hargs1, rfl, rfl, h1, r1⟩ := trodAll_cons r0
  obtain ⟨v2, vs2, d2, ds2, p2, q2, hargs2, rfl, rfl, h2, r2⟩ := trodAll_cons r1
  obtain ⟨rfl, rfl, rfl⟩ := trodAll_nil r2
  subst hargs1
  subst hargs2
  obtain rfl : args = #[v0, v1, v2] := by cases args; simp_all
  obtain ⟨rfl, rfl⟩ := trodVars_none hV
  have lt0 : ∀ x ∈ p0, x.block < W.heap.size := by obtain ⟨m, hm⟩ := h0; exact DataW.trod_lt m _ _ _ hm
  have lt1 : ∀ x ∈ p1, x.block < W.heap.size := by obtain ⟨m, hm⟩ := h1; exact DataW.trod_lt m _ _ _ hm
  have lt2 : ∀ x ∈ p2, x.block < W.heap.size := by obtain ⟨m, hm⟩ := h2; exact DataW.trod_lt m _ _ _ hm
  have o0 := hval 0 _ v0 rfl rfl
  obtain ⟨b0, len0, cap0, rfl⟩ := okWide_slice (e := 116) (by kernel_rfl) o0
  obtain ⟨xs0, hx0, hf0, hm0, hb0⟩ := open_list (U := .body) (e := 116) (by kernel_rfl) (by kernel_rfl) (by kernel_rfl) h0
  subst hx0
  have o1 := hval 1 _ v1 rfl rfl
  obtain ⟨a1, rfl⟩ := okWide_int (k := .i64) (by kernel_rfl) o1
  have o2 := hval 2 _ v2 rfl rfl
  obtain ⟨a2, rfl⟩ := okWide_int (k := .i64) (by kernel_rfl) o2
  refine (law_ok (us := [.slice b0 xs0.length cap0, .int .i64 a1, .int .i64 a2]) (env := fun j => match j with | 0 => (b0, cap0) | _ => (none, 0)) (p := some (LOk .body xs0)) (args := [.vec 0, .int .i64 a1, .int .i64 a2]) (LL := [(false, .vec .body xs0)]) ok_lawExactSteps rfl (fun q e => by cases e; exact ⟨Nat.le_trans hm0 (by decide), hf0⟩) (hrel_ro fun j r b hj => by
      match j, hj with
      | 0, hj => cases hj; exact ⟨rfl, fun Hp => hb0 (fun _ => True) _ Hp 0 rfl⟩
      | j + 1, hj => simp at hj)
    ⟨rfl, rfl, rfl, trivial⟩).mono fun e W' ⟨he, bel⟩ => ?_
  subst he
  exact ⟨_, rfl, _, _, _, [], _, [], hW', trodAll_mk1 (shut_bool (by kernel_rfl) _),
    (trodAll_cons_mk (Below.trod laidOut (by kernel_rfl) (of_decide_eq_true (by kernel_rfl)) h0 bel lt0)
    (trodAll_cons_mk (Below.trod laidOut (by kernel_rfl) (of_decide_eq_true (by kernel_rfl)) h1 bel lt1)
    (trodAll_cons_mk (Below.trod laidOut (by kernel_rfl) (of_decide_eq_true (by kernel_rfl)) h2 bel lt2)
    trodAll_mk0))), rfl, bel.frame _, fun h => by cases h⟩

theorem h1 : (Rows.fnExactStepsRow.inPlace == Tryz.prog.inPlace 4) = true := by kernel_rfl
theorem h2 : (Rows.fnExactStepsRow.unfollowed == Tryz.prog.unfollowed 4) = true := by kernel_rfl
theorem h3 : (Rows.fnExactStepsRow.recurses == Tryz.prog.recurses 4) = true := by kernel_rfl
theorem h4 : (Rows.fnExactStepsRow.named == Tryz.prog.varsNamed 4) = true := by kernel_rfl
theorem joined : joinedFacts Tryz.prog 4 Tryz.f4 Rows.fnExactStepsSpec Rows.fnExactStepsRow = true := by
  unfold joinedFacts
  rw [facts.laid, facts.maps, facts.stops, facts.stopKnobs, facts.plainKeys, facts.heard, facts.may, facts.lifts, facts.make, h1, h2, h3, h4]
  kernel_rfl
theorem over : Rows.fnExactStepsRow.holds Tryz.pinned (OpenSpec.ofChange Rows.fnExactStepsSpec) :=
  OpenClaim.holds_of_wide 4 Tryz.f4 rfl rfl rfl rfl rfl rfl rfl ⟨rfl, rfl, rfl, rfl, rfl⟩ rfl rfl rfl rfl rfl (by kernel_rfl) Tryz.func4 joined
    (of_decide_eq_true (by kernel_rfl)) (by unfold Func.isWrapper; first | (rw [if_pos (by decide +kernel)]; kernel_rfl) | (rw [if_neg (by decide +kernel)]; exact ⟨rfl, rfl⟩))
    (fun os started H enc _ => lifted os started H enc)
end Go.Proofs.YtdhbkcaaijgocaaGreat.rowExactSteps
namespace Go.Proofs.YtdhbkcaaijgocaaGreat
/-- The row, under a short name, for the claim. -/
theorem exactSteps_holds : Rows.FnExactStepsSaid := rowExactSteps.over
end Go.Proofs.YtdhbkcaaijgocaaGreat
