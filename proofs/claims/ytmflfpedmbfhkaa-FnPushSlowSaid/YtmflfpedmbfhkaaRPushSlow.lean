/-
  FnPushSlow returns true at every argument.
  No condition.
-/
import Derived.Test.YtmflfpedmbfhkaaPF
import Derived.Test.YtmflfpedmbfhkaaL18
import Derived.Test.YtmflfpedmbfhkaaSymX
namespace Go.Proofs.Ytmflfpedmbfhkaa.rowPushSlow
open Go Go.ChangeShapes Go.WideShapes Go.ChangeAt Go.RowKit Go.Proofs.Ytmflfpedmbfhkaa.Sym
set_option linter.unusedVariables false
set_option maxRecDepth 100000
theorem laidOut : laidOutB Try.prog = true := facts.laid

theorem lifted (os : Os) (started : os.Started) (H : Type) (enc : TypeId × Value → H) :
    ReturnsInHanded {} Try.checked os 3 .any (Rows.fnPushSlowSpec.pre6 enc Try.prog Try.f3 Rows.fnPushSlowRow.domain false) (Rows.fnPushSlowSpec.post enc Try.prog Try.f3 false true false false) := by
  refine returnsInHanded_of_change_sized (C := Try.checked) facts.own started (by kernel_rfl) Try.func3
    (ChangeSpec.witness6 (enc := enc) (C := Try.checked) false ⟨#[], #[.slice none 0 0], []⟩ 8 (by kernel_rfl) (by kernel_rfl) (by kernel_rfl) (by kernel_rfl)) ?_
  intro W base args ds gs before hval0 hW hcnd hsz0 _
  have hval : ∀ (j : Nat) t v, Try.f3.params[j]? = some t → args[j]? = some v → Value.okWide Try.prog W .any base t v := hval0
  have hW' := hW
  obtain ⟨p, q, hA0, hV, rfl, hfz, hnd⟩ := hW
  have hA : DataW.TrodAll enc Try.prog W 0 (fun _ => true) true Try.f3.params.toList args.toList ds p := hA0
  rw [Try.params3] at hA hval
  obtain ⟨v0, vs0, d0, ds0, p0, q0, hargs0, rfl, rfl, h0, r0⟩ := trodAll_cons hA
  obtain ⟨rfl, rfl, rfl⟩ := trodAll_nil r0
  obtain rfl : args = #[v0] := by cases args; simp_all
  obtain ⟨rfl, rfl⟩ := trodVars_none hV
  have lt0 : ∀ x ∈ p0, x.block < W.heap.size := by obtain ⟨m, hm⟩ := h0; exact DataW.trod_lt m _ _ _ hm
  have o0 := hval 0 _ v0 rfl rfl
  obtain ⟨b0, len0, cap0, rfl⟩ := okWide_slice (e := 5) (by kernel_rfl) o0
  obtain ⟨xs0, hx0, hf0, hm0, hb0⟩ := open_list (U := .byte) (e := 5) (by kernel_rfl) (by kernel_rfl) (by kernel_rfl) h0
  subst hx0
  refine (law_ok (us := [.slice b0 xs0.length cap0]) (env := fun j => match j with | 0 => (b0, cap0) | _ => (none, 0)) (p := some (LOk .byte xs0)) (args := [.vec 0]) (LL := [(false, .vec .byte xs0)]) ok_lawPushSlow rfl (fun q e => by cases e; exact ⟨Nat.le_trans hm0 (by decide), hf0⟩) (hrel_ro fun j r b hj => by
      match j, hj with
      | 0, hj => cases hj; exact ⟨rfl, fun Hp => hb0 (fun _ => True) _ Hp 0 rfl⟩
      | j + 1, hj => simp at hj)
    ⟨rfl, trivial⟩).mono fun e W' ⟨he, bel⟩ => ?_
  subst he
  exact ⟨_, rfl, _, _, _, [], _, [], hW', trodAll_mk1 (shut_bool (by kernel_rfl) _),
    (trodAll_cons_mk (Below.trod laidOut (by kernel_rfl) (of_decide_eq_true (by kernel_rfl)) h0 bel lt0)
    trodAll_mk0), rfl, bel.frame _, fun h => by cases h⟩

theorem h1 : (Rows.fnPushSlowRow.inPlace == Try.prog.inPlace 3) = true := by kernel_rfl
theorem h2 : (Rows.fnPushSlowRow.unfollowed == Try.prog.unfollowed 3) = true := by kernel_rfl
theorem h3 : (Rows.fnPushSlowRow.recurses == Try.prog.recurses 3) = true := by kernel_rfl
theorem h4 : (Rows.fnPushSlowRow.named == Try.prog.varsNamed 3) = true := by kernel_rfl
theorem joined : joinedFacts Try.prog 3 Try.f3 Rows.fnPushSlowSpec Rows.fnPushSlowRow = true := by
  unfold joinedFacts
  rw [facts.laid, facts.maps, facts.stops, facts.stopKnobs, facts.plainKeys, facts.heard, facts.may, facts.lifts, facts.make, h1, h2, h3, h4]
  kernel_rfl
theorem over : Rows.fnPushSlowRow.holds Try.pinned (OpenSpec.ofChange Rows.fnPushSlowSpec) :=
  OpenClaim.holds_of_wide 3 Try.f3 rfl rfl rfl rfl rfl rfl rfl ⟨rfl, rfl, rfl, rfl, rfl⟩ rfl rfl rfl rfl rfl (by kernel_rfl) Try.func3 joined
    (of_decide_eq_true (by kernel_rfl)) (by unfold Func.isWrapper; first | (rw [if_pos (by decide +kernel)]; kernel_rfl) | (rw [if_neg (by decide +kernel)]; exact ⟨rfl, rfl⟩))
    (fun os started H enc _ => lifted os started H enc)
end Go.Proofs.Ytmflfpedmbfhkaa.rowPushSlow
namespace Go.Proofs.Ytmflfpedmbfhkaa
/-- The row, under a short name, for the claim. -/
theorem pushSlow_holds : Rows.FnPushSlowSaid := rowPushSlow.over
end Go.Proofs.Ytmflfpedmbfhkaa
