/-
  FnExactPushAll returns true at every argument.
  No condition.
-/
import Derived.Test.YthkdelepjndacaaRows
import Derived.Test.YthkdelepjndacaaP4
import Derived.Test.YthkdelepjndacaaSymX
namespace Go.Proofs.Ythkdelepjndacaa.rowExactPushAll
open Go Go.ChangeShapes Go.WideShapes Go.ChangeAt Go.RowKit Go.Proofs.Ythkdelepjndacaa.Sym
set_option linter.unusedVariables false
set_option maxRecDepth 100000
theorem own : ownKnob Try.prog.godebug = none := by kernel_rfl
theorem laidOut : laidOutB Try.prog = true := by kernel_rfl

theorem lifted (os : Os) (started : os.Started) (H : Type) (enc : TypeId × Value → H) :
    ReturnsInHanded {} Try.checked os 7 .any (Rows.fnExactPushAllSpec.pre6 enc Try.prog Try.f7 Rows.fnExactPushAllRow.domain false) (Rows.fnExactPushAllSpec.post enc Try.prog Try.f7 false true false false) := by
  refine returnsInHanded_of_change_sized (C := Try.checked) own started (by kernel_rfl) Try.func7
    (ChangeSpec.witness6 (enc := enc) (C := Try.checked) false ⟨#[], #[.slice none 0 0, .slice none 0 0], []⟩ 8 (by kernel_rfl) (by kernel_rfl) (by kernel_rfl) (by kernel_rfl)) ?_
  intro W base args ds gs before hval0 hW hcnd hsz0 _
  have hval : ∀ (j : Nat) t v, Try.f7.params[j]? = some t → args[j]? = some v → Value.okWide Try.prog W .any base t v := hval0
  have hW' := hW
  obtain ⟨p, q, hA0, hV, rfl, hfz, hnd⟩ := hW
  have hA : DataW.TrodAll enc Try.prog W 0 (fun _ => true) true Try.f7.params.toList args.toList ds p := hA0
  rw [Try.params7] at hA hval
  obtain ⟨v0, vs0, d0, ds0, p0, q0, hargs0, rfl, rfl, h0, r0⟩ := trodAll_cons hA
  obtain ⟨v1, vs1, d1, ds1, p1, q1, hargs1, rfl, rfl, h1, r1⟩ := trodAll_cons r0
  obtain ⟨rfl, rfl, rfl⟩ := trodAll_nil r1
  subst hargs1
  obtain rfl : args = #[v0, v1] := by cases args; simp_all
  obtain ⟨rfl, rfl⟩ := trodVars_none hV
  have lt0 : ∀ x ∈ p0, x.block < W.heap.size := by obtain ⟨m, hm⟩ := h0; exact DataW.trod_lt m _ _ _ hm
  have lt1 : ∀ x ∈ p1, x.block < W.heap.size := by obtain ⟨m, hm⟩ := h1; exact DataW.trod_lt m _ _ _ hm
  have o0 := hval 0 _ v0 rfl rfl
  obtain ⟨b0, len0, cap0, rfl⟩ := okWide_slice (e := 68) (by kernel_rfl) o0
  obtain ⟨xs0, hx0, hf0, hm0, hb0⟩ := open_list (U := .body) (e := 68) (by kernel_rfl) (by kernel_rfl) (by kernel_rfl) h0
  subst hx0
  have o1 := hval 1 _ v1 rfl rfl
  obtain ⟨b1, len1, cap1, rfl⟩ := okWide_slice (e := 95) (by kernel_rfl) o1
  obtain ⟨xs1, hx1, hf1, hm1, hb1⟩ := open_list (U := .contact) (e := 95) (by kernel_rfl) (by kernel_rfl) (by kernel_rfl) h1
  subst hx1
  refine (law_ok (us := [.slice b0 xs0.length cap0, .slice b1 xs1.length cap1]) (env := fun j => match j with | 0 => (b0, cap0) | 1 => (b1, cap1) | _ => (none, 0)) (p := some (LOk .body xs0 ∧ LOk .contact xs1)) (args := [.vec 0, .vec 1]) (LL := [(false, .vec .body xs0), (false, .vec .contact xs1)]) ok_lawExactPushAll rfl (fun q e => by cases e; exact ⟨⟨Nat.le_trans hm0 (by decide), hf0⟩, ⟨Nat.le_trans hm1 (by decide), hf1⟩⟩) (hrel_ro fun j r b hj => by
      match j, hj with
      | 0, hj => cases hj; exact ⟨rfl, fun Hp => hb0 (fun _ => True) _ Hp 0 rfl⟩
      | 1, hj => cases hj; exact ⟨rfl, fun Hp => hb1 (fun _ => True) _ Hp 1 rfl⟩
      | j + 2, hj => simp at hj)
    ⟨rfl, rfl, trivial⟩).mono fun e W' ⟨he, bel⟩ => ?_
  subst he
  exact ⟨_, rfl, _, _, _, [], _, [], hW', trodAll_mk1 (shut_bool (by kernel_rfl) _),
    (trodAll_cons_mk (Below.trod laidOut (by kernel_rfl) (of_decide_eq_true (by kernel_rfl)) h0 bel lt0)
    (trodAll_cons_mk (Below.trod laidOut (by kernel_rfl) (of_decide_eq_true (by kernel_rfl)) h1 bel lt1)
    trodAll_mk0)), rfl, bel.frame _, fun h => by cases h⟩

theorem over : Rows.fnExactPushAllRow.holds Try.pinned (OpenSpec.ofChange Rows.fnExactPushAllSpec) :=
  OpenClaim.holds_of_wide 7 Try.f7 rfl rfl rfl rfl rfl rfl rfl ⟨rfl, rfl, rfl, rfl, rfl⟩ rfl rfl rfl rfl rfl (by kernel_rfl) Try.func7 (by kernel_rfl)
    (of_decide_eq_true (by kernel_rfl)) (by unfold Func.isWrapper; first | (rw [if_pos (by decide +kernel)]; kernel_rfl) | (rw [if_neg (by decide +kernel)]; exact ⟨rfl, rfl⟩))
    (fun os started H enc _ => lifted os started H enc)
end Go.Proofs.Ythkdelepjndacaa.rowExactPushAll
namespace Go.Proofs.Ythkdelepjndacaa
/-- The row, under a short name, for the claim. -/
theorem exactPushAll_holds : Rows.FnExactPushAllSaid := rowExactPushAll.over
end Go.Proofs.Ythkdelepjndacaa
