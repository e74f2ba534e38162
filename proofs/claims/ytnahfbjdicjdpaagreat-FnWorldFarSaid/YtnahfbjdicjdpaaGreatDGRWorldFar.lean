/-
  FnWorldFar returns true at every argument.
  No condition.
-/
import Derived.Test.YtnahfbjdicjdpaaGreatPF
import Derived.Test.YtnahfbjdicjdpaaGreatDG9
namespace Go.Proofs.YtnahfbjdicjdpaaGreat.rowWorldFar
open Go Go.ChangeShapes Go.WideShapes Go.ChangeAt Go.RowKit Go.Proofs.YtnahfbjdicjdpaaGreat.Sym
set_option linter.unusedVariables false
set_option maxRecDepth 100000
theorem laidOut : laidOutB Tryz.prog = true := facts.laid

theorem lifted (os : Os) (started : os.Started) (H : Type) (enc : TypeId × Value → H) :
    ReturnsInHanded {} Tryz.checked os 14 .any (Rows.fnWorldFarSpec.pre6 enc Tryz.prog Tryz.f14 Rows.fnWorldFarRow.domain false) (Rows.fnWorldFarSpec.post enc Tryz.prog Tryz.f14 false true false false) := by
  refine returnsInHanded_of_change_sized (C := Tryz.checked) facts.own started (by kernel_rfl) Tryz.func14
    (ChangeSpec.witness6 (enc := enc) (C := Tryz.checked) false ⟨#[], #[.slice none 0 0], []⟩ 8 (by kernel_rfl) (by kernel_rfl) (by kernel_rfl) (by kernel_rfl)) ?_
  intro W base args ds gs before hval0 hW hcnd hsz0 _
  have hval : ∀ (j : Nat) t v, Tryz.f14.params[j]? = some t → args[j]? = some v → Value.okWide Tryz.prog W .any base t v := hval0
  have hW' := hW
  obtain ⟨p, q, hA0, hV, rfl, hfz, hnd⟩ := hW
  have hA : DataW.TrodAll enc Tryz.prog W 0 (fun _ => true) true Tryz.f14.params.toList args.toList ds p := hA0
  rw [Tryz.params14] at hA hval
  obtain ⟨v0, vs0, d0, ds0, p0, q0, hargs0, rfl, rfl, h0, r0⟩ := trodAll_cons hA
  obtain ⟨rfl, rfl, rfl⟩ := trodAll_nil r0
  obtain rfl : args = #[v0] := by cases args; simp_all
  obtain ⟨rfl, rfl⟩ := trodVars_none hV
  have lt0 : ∀ x ∈ p0, x.block < W.heap.size := by obtain ⟨m, hm⟩ := h0; exact DataW.trod_lt m _ _ _ hm
  have o0 := hval 0 _ v0 rfl rfl
  obtain ⟨b0, len0, cap0, rfl⟩ := okWide_slice (e := 5) (by kernel_rfl) o0
  obtain ⟨xs0, hx0, hf0, hm0, hb0⟩ := open_list (U := .byte) (e := 5) (by kernel_rfl) (by kernel_rfl) (by kernel_rfl) h0
  subst hx0
  refine (law_ok (us := [.slice b0 xs0.length cap0]) (env := fun j => match j with | 0 => (b0, cap0) | _ => (none, 0)) (p := some (LOk .byte xs0)) (args := [.vec 0]) (LL := [(false, .vec .byte xs0)]) ok_lawWorldFar rfl (fun q e => by cases e; exact ⟨Nat.le_trans hm0 (by decide), hf0⟩) (hrel_ro fun j r b hj => by
      match j, hj with
      | 0, hj => cases hj; exact ⟨rfl, fun Hp => hb0 (fun _ => True) _ Hp 0 rfl⟩
      | j + 1, hj => simp at hj)
    ⟨rfl, trivial⟩).mono fun e W' ⟨he, bel⟩ => ?_
  subst he
  exact ⟨_, rfl, _, _, _, [], _, [], hW', trodAll_mk1 (shut_bool (by kernel_rfl) _),
    (trodAll_cons_mk (Below.trod laidOut (by kernel_rfl) (of_decide_eq_true (by kernel_rfl)) h0 bel lt0)
    trodAll_mk0), rfl, bel.frame _, fun h => by cases h⟩

theorem h1 : (Rows.fnWorldFarRow.inPlace == Tryz.prog.inPlace 14) = true := by kernel_rfl
theorem h2 : (Rows.fnWorldFarRow.unfollowed == Tryz.prog.unfollowed 14) = true := by kernel_rfl
theorem h3 : (Rows.fnWorldFarRow.recurses == Tryz.prog.recurses 14) = true := by kernel_rfl
theorem h4 : (Rows.fnWorldFarRow.named == Tryz.prog.varsNamed 14) = true := by kernel_rfl
theorem joined : joinedFacts Tryz.prog 14 Tryz.f14 Rows.fnWorldFarSpec Rows.fnWorldFarRow = true := by
  unfold joinedFacts
  rw [facts.laid, facts.maps, facts.stops, facts.stopKnobs, facts.plainKeys, facts.heard, facts.may, facts.lifts, facts.make, h1, h2, h3, h4]
  kernel_rfl
theorem over : Rows.fnWorldFarRow.holds Tryz.pinned (OpenSpec.ofChange Rows.fnWorldFarSpec) :=
  OpenClaim.holds_of_wide 14 Tryz.f14 rfl rfl rfl rfl rfl rfl rfl ⟨rfl, rfl, rfl, rfl, rfl⟩ rfl rfl rfl rfl rfl (by kernel_rfl) Tryz.func14 joined
    (of_decide_eq_true (by kernel_rfl)) (by unfold Func.isWrapper; first | (rw [if_pos (by decide +kernel)]; kernel_rfl) | (rw [if_neg (by decide +kernel)]; exact ⟨rfl, rfl⟩))
    (fun os started H enc _ => lifted os started H enc)
end Go.Proofs.YtnahfbjdicjdpaaGreat.rowWorldFar
namespace Go.Proofs.YtnahfbjdicjdpaaGreat
/-- The row, under a short name, for the claim. -/
theorem worldFar_holds : Rows.FnWorldFarSaid := rowWorldFar.over
end Go.Proofs.YtnahfbjdicjdpaaGreat
