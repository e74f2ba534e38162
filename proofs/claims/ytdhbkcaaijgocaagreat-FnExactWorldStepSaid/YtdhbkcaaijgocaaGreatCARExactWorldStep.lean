/-
  FnExactWorldStep returns true at every argument.
  No condition.
-/
import Derived.Test.YtdhbkcaaijgocaaGreatPF
import Derived.Test.YtdhbkcaaijgocaaGreatCA8
namespace Go.Proofs.YtdhbkcaaijgocaaGreat.rowExactWorldStep
open Go Go.ChangeShapes Go.WideShapes Go.ChangeAt Go.RowKit Go.Proofs.YtdhbkcaaijgocaaGreat.Sym
set_option linter.unusedVariables false
set_option maxRecDepth 100000
theorem laidOut : laidOutB Tryz.prog = true := facts.laid

theorem lifted (os : Os) (started : os.Started) (H : Type) (enc : TypeId × Value → H) :
    ReturnsInHanded {} Tryz.checked os 5 .any (Rows.fnExactWorldStepSpec.pre6 enc Tryz.prog Tryz.f5 Rows.fnExactWorldStepRow.domain false) (Rows.fnExactWorldStepSpec.post enc Tryz.prog Tryz.f5 false true false false) := by
  refine returnsInHanded_of_change_sized (C := Tryz.checked) facts.own started (by kernel_rfl) Tryz.func5
    (ChangeSpec.witness6 (enc := enc) (C := Tryz.checked) false ⟨#[], #[.agg #[.int .i64 0, .int .i64 0, .slice none 0 0, .slice none 0 0]], []⟩ 8 (by kernel_rfl) (by kernel_rfl) (by kernel_rfl) (by kernel_rfl)) ?_
  intro W base args ds gs before hval0 hW hcnd hsz0 _
  have hval : ∀ (j : Nat) t v, Tryz.f5.params[j]? = some t → args[j]? = some v → Value.okWide Tryz.prog W .any base t v := hval0
  have hW' := hW
  obtain ⟨p, q, hA0, hV, rfl, hfz, hnd⟩ := hW
  have hA : DataW.TrodAll enc Tryz.prog W 0 (fun _ => true) true Tryz.f5.params.toList args.toList ds p := hA0
  rw [Tryz.params5] at hA hval
  obtain ⟨v0, vs0, d0, ds0, p0, q0, hargs0, rfl, rfl, h0, r0⟩ := trodAll_cons hA
  obtain ⟨rfl, rfl, rfl⟩ := trodAll_nil r0
  obtain rfl : args = #[v0] := by cases args; simp_all
  obtain ⟨rfl, rfl⟩ := trodVars_none hV
  have lt0 : ∀ x ∈ p0, x.block < W.heap.size := by obtain ⟨m, hm⟩ := h0; exact DataW.trod_lt m _ _ _ hm
  have o0 := hval 0 _ v0 rfl rfl
  obtain ⟨c0, rfl, k0⟩ := open_struct (ts := [3, 3, 22, 32]) (by kernel_rfl) (by kernel_rfl) (by kernel_rfl) o0
  obtain ⟨c0x0, c0r0, rfl, k0x0, k0r0⟩ := okAll_cons k0
  obtain ⟨c0x1, c0r1, rfl, k0x1, k0r1⟩ := okAll_cons k0r0
  obtain ⟨c0x2, c0r2, rfl, k0x2, k0r2⟩ := okAll_cons k0r1
  obtain ⟨c0x3, c0r3, rfl, k0x3, k0r3⟩ := okAll_cons k0r2
  obtain rfl := okAll_nil k0r3
  obtain ⟨a0x0, rfl⟩ := cell_int (k := .i64) (by kernel_rfl) k0x0
  obtain ⟨a0x1, rfl⟩ := cell_int (k := .i64) (by kernel_rfl) k0x1
  obtain ⟨b0x2, len0x2, cap0x2, rfl⟩ := cell_slice (e := 116) (by kernel_rfl) k0x2
  obtain ⟨b0x3, len0x3, cap0x3, rfl⟩ := cell_slice (e := 184) (by kernel_rfl) k0x3
  obtain ⟨d0x2, p0x2, t0x2⟩ := open_field (t := 34) (i := 2) (ft := 22) (off := 2) (by kernel_rfl) h0 rfl rfl
  obtain ⟨xs0, hx0, hf0, hm0, hb0⟩ := open_list (U := .body) (e := 116) (by kernel_rfl) (by kernel_rfl) (by kernel_rfl) t0x2
  subst hx0
  obtain ⟨d0x3, p0x3, t0x3⟩ := open_field (t := 34) (i := 3) (ft := 32) (off := 3) (by kernel_rfl) h0 rfl rfl
  obtain ⟨xs1, hx1, hf1, hm1, hb1⟩ := open_list (U := .pair) (e := 184) (by kernel_rfl) (by kernel_rfl) (by kernel_rfl) t0x3
  subst hx1
  refine (law_ok (us := [.agg #[.int .i64 a0x0, .int .i64 a0x1, .slice b0x2 xs0.length cap0x2, .slice b0x3 xs1.length cap0x3]]) (env := fun j => match j with | 0 => (b0x2, cap0x2) | 1 => (b0x3, cap0x3) | _ => (none, 0)) (p := some (LOk .body xs0 ∧ LOk .pair xs1)) (args := [.agg [.int .i64 a0x0, .int .i64 a0x1, .vec 0, .vec 1]]) (LL := [(false, .vec .body xs0), (false, .vec .pair xs1)]) ok_lawExactWorldStep rfl (fun q e => by cases e; exact ⟨⟨Nat.le_trans hm0 (by decide), hf0⟩, ⟨Nat.le_trans hm1 (by decide), hf1⟩⟩) (hrel_ro fun j r b hj => by
      match j, hj with
      | 0, hj => cases hj; exact ⟨rfl, fun Hp => hb0 (fun _ => True) _ Hp 0 rfl⟩
      | 1, hj => cases hj; exact ⟨rfl, fun Hp => hb1 (fun _ => True) _ Hp 1 rfl⟩
      | j + 2, hj => simp at hj)
    ⟨⟨_, rfl, rfl, rfl, rfl, rfl, trivial⟩, trivial⟩).mono fun e W' ⟨he, bel⟩ => ?_
  subst he
  exact ⟨_, rfl, _, _, _, [], _, [], hW', trodAll_mk1 (shut_bool (by kernel_rfl) _),
    (trodAll_cons_mk (Below.trod laidOut (by kernel_rfl) (of_decide_eq_true (by kernel_rfl)) h0 bel lt0)
    trodAll_mk0), rfl, bel.frame _, fun h => by cases h⟩

theorem h1 : (Rows.fnExactWorldStepRow.inPlace == Tryz.prog.inPlace 5) = true := by kernel_rfl
theorem h2 : (Rows.fnExactWorldStepRow.unfollowed == Tryz.prog.unfollowed 5) = true := by kernel_rfl
theorem h3 : (Rows.fnExactWorldStepRow.recurses == Tryz.prog.recurses 5) = true := by kernel_rfl
theorem h4 : (Rows.fnExactWorldStepRow.named == Tryz.prog.varsNamed 5) = true := by kernel_rfl
theorem joined : joinedFacts Tryz.prog 5 Tryz.f5 Rows.fnExactWorldStepSpec Rows.fnExactWorldStepRow = true := by
  unfold joinedFacts
  rw [facts.laid, facts.maps, facts.stops, facts.stopKnobs, facts.plainKeys, facts.heard, facts.may, facts.lifts, facts.make, h1, h2, h3, h4]
  kernel_rfl
theorem over : Rows.fnExactWorldStepRow.holds Tryz.pinned (OpenSpec.ofChange Rows.fnExactWorldStepSpec) :=
  OpenClaim.holds_of_wide 5 Tryz.f5 rfl rfl rfl rfl rfl rfl rfl ⟨rfl, rfl, rfl, rfl, rfl⟩ rfl rfl rfl rfl rfl (by kernel_rfl) Tryz.func5 joined
    (of_decide_eq_true (by kernel_rfl)) (by unfold Func.isWrapper; first | (rw [if_pos (by decide +kernel)]; kernel_rfl) | (rw [if_neg (by decide +kernel)]; exact ⟨rfl, rfl⟩))
    (fun os started H enc _ => lifted os started H enc)
end Go.Proofs.YtdhbkcaaijgocaaGreat.rowExactWorldStep
namespace Go.Proofs.YtdhbkcaaijgocaaGreat
/-- The row, under a short name, for the claim. -/
theorem exactWorldStep_holds : Rows.FnExactWorldStepSaid := rowExactWorldStep.over
end Go.Proofs.YtdhbkcaaijgocaaGreat
