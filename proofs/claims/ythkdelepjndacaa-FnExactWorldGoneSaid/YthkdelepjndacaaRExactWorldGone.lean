/-
  FnExactWorldGone returns true at every argument.
  No condition.
-/
import Derived.Test.YthkdelepjndacaaRows
import Derived.Test.YthkdelepjndacaaW3
import Derived.Test.YthkdelepjndacaaSymX
namespace Go.Proofs.Ythkdelepjndacaa.rowExactWorldGone
open Go Go.ChangeShapes Go.WideShapes Go.ChangeAt Go.RowKit Go.Proofs.Ythkdelepjndacaa.Sym
set_option linter.unusedVariables false
set_option maxRecDepth 100000
theorem own : ownKnob Try.prog.godebug = none := by kernel_rfl
theorem laidOut : laidOutB Try.prog = true := by kernel_rfl

theorem lifted (os : Os) (started : os.Started) (H : Type) (enc : TypeId × Value → H) :
    ReturnsInHanded {} Try.checked os 9 .any (Rows.fnExactWorldGoneSpec.pre6 enc Try.prog Try.f9 Rows.fnExactWorldGoneRow.domain false) (Rows.fnExactWorldGoneSpec.post enc Try.prog Try.f9 false true false false) := by
  refine returnsInHanded_of_change_sized (C := Try.checked) own started (by kernel_rfl) Try.func9
    (ChangeSpec.witness6 (enc := enc) (C := Try.checked) false ⟨#[], #[.agg #[.int .i64 0, .int .i64 0, .slice none 0 0, .slice none 0 0], .int .i64 0], []⟩ 8 (by kernel_rfl) (by kernel_rfl) (by kernel_rfl) (by kernel_rfl)) ?_
  intro W base args ds gs before hval0 hW hcnd hsz0 _
  have hval : ∀ (j : Nat) t v, Try.f9.params[j]? = some t → args[j]? = some v → Value.okWide Try.prog W .any base t v := hval0
  have hW' := hW
  obtain ⟨p, q, hA0, hV, rfl, hfz, hnd⟩ := hW
  have hA : DataW.TrodAll enc Try.prog W 0 (fun _ => true) true Try.f9.params.toList args.toList ds p := hA0
  rw [Try.params9] at hA hval
  obtain ⟨v0, vs0, d0, ds0, p0, q0, hargs0, rfl, rfl, h0, r0⟩ := trodAll_cons hA
  obtain ⟨v1, vs1, d1, ds1, p1, q1, hargs1, rfl, rfl, h1, r1⟩ := trodAll_cons r0
  obtain ⟨rfl, rfl, rfl⟩ := trodAll_nil r1
  subst hargs1
  obtain rfl : args = #[v0, v1] := by cases args; simp_all
  obtain ⟨rfl, rfl⟩ := trodVars_none hV
  have lt0 : ∀ x ∈ p0, x.block < W.heap.size := by obtain ⟨m, hm⟩ := h0; exact DataW.trod_lt m _ _ _ hm
  have lt1 : ∀ x ∈ p1, x.block < W.heap.size := by obtain ⟨m, hm⟩ := h1; exact DataW.trod_lt m _ _ _ hm
  have o0 := hval 0 _ v0 rfl rfl
  obtain ⟨c0, rfl, k0⟩ := open_struct (ts := [3, 3, 22, 36]) (by kernel_rfl) (by kernel_rfl) (by kernel_rfl) o0
  obtain ⟨c0x0, c0r0, rfl, k0x0, k0r0⟩ := okAll_cons k0
  obtain ⟨c0x1, c0r1, rfl, k0x1, k0r1⟩ := okAll_cons k0r0
  obtain ⟨c0x2, c0r2, rfl, k0x2, k0r2⟩ := okAll_cons k0r1
  obtain ⟨c0x3, c0r3, rfl, k0x3, k0r3⟩ := okAll_cons k0r2
  obtain rfl := okAll_nil k0r3
  obtain ⟨a0x0, rfl⟩ := cell_int (k := .i64) (by kernel_rfl) k0x0
  obtain ⟨a0x1, rfl⟩ := cell_int (k := .i64) (by kernel_rfl) k0x1
  obtain ⟨b0x2, len0x2, cap0x2, rfl⟩ := cell_slice (e := 68) (by kernel_rfl) k0x2
  obtain ⟨b0x3, len0x3, cap0x3, rfl⟩ := cell_slice (e := 151) (by kernel_rfl) k0x3
  obtain ⟨d0x2, p0x2, t0x2⟩ := open_field (t := 38) (i := 2) (ft := 22) (off := 2) (by kernel_rfl) h0 rfl rfl
  obtain ⟨xs0, hx0, hf0, hm0, hb0⟩ := open_list (U := .body) (e := 68) (by kernel_rfl) (by kernel_rfl) (by kernel_rfl) t0x2
  subst hx0
  obtain ⟨d0x3, p0x3, t0x3⟩ := open_field (t := 38) (i := 3) (ft := 36) (off := 3) (by kernel_rfl) h0 rfl rfl
  obtain ⟨xs1, hx1, hf1, hm1, hb1⟩ := open_list (U := .pair) (e := 151) (by kernel_rfl) (by kernel_rfl) (by kernel_rfl) t0x3
  subst hx1
  have o1 := hval 1 _ v1 rfl rfl
  obtain ⟨a1, rfl⟩ := okWide_int (k := .i64) (by kernel_rfl) o1
  refine (law_ok (us := [.agg #[.int .i64 a0x0, .int .i64 a0x1, .slice b0x2 xs0.length cap0x2, .slice b0x3 xs1.length cap0x3], .int .i64 a1]) (env := fun j => match j with | 0 => (b0x2, cap0x2) | 1 => (b0x3, cap0x3) | _ => (none, 0)) (p := some (LOk .body xs0 ∧ LOk .pair xs1)) (args := [.agg [.int .i64 a0x0, .int .i64 a0x1, .vec 0, .vec 1], .int .i64 a1]) (LL := [(false, .vec .body xs0), (false, .vec .pair xs1)]) ok_lawExactWorldGone rfl (fun q e => by cases e; exact ⟨⟨Nat.le_trans hm0 (by decide), hf0⟩, ⟨Nat.le_trans hm1 (by decide), hf1⟩⟩) (hrel_ro fun j r b hj => by
      match j, hj with
      | 0, hj => cases hj; exact ⟨rfl, fun Hp => hb0 (fun _ => True) _ Hp 0 rfl⟩
      | 1, hj => cases hj; exact ⟨rfl, fun Hp => hb1 (fun _ => True) _ Hp 1 rfl⟩
      | j + 2, hj => simp at hj)
    ⟨⟨_, rfl, rfl, rfl, rfl, rfl, trivial⟩, rfl, trivial⟩).mono fun e W' ⟨he, bel⟩ => ?_
  subst he
  exact ⟨_, rfl, _, _, _, [], _, [], hW', trodAll_mk1 (shut_bool (by kernel_rfl) _),
    (trodAll_cons_mk (Below.trod laidOut (by kernel_rfl) (of_decide_eq_true (by kernel_rfl)) h0 bel lt0)
    (trodAll_cons_mk (Below.trod laidOut (by kernel_rfl) (of_decide_eq_true (by kernel_rfl)) h1 bel lt1)
    trodAll_mk0)), rfl, bel.frame _, fun h => by cases h⟩

theorem over : Rows.fnExactWorldGoneRow.holds Try.pinned (OpenSpec.ofChange Rows.fnExactWorldGoneSpec) :=
  OpenClaim.holds_of_wide 9 Try.f9 rfl rfl rfl rfl rfl rfl rfl ⟨rfl, rfl, rfl, rfl, rfl⟩ rfl rfl rfl rfl rfl (by kernel_rfl) Try.func9 (by kernel_rfl)
    (of_decide_eq_true (by kernel_rfl)) (by unfold Func.isWrapper; first | (rw [if_pos (by decide +kernel)]; kernel_rfl) | (rw [if_neg (by decide +kernel)]; exact ⟨rfl, rfl⟩))
    (fun os started H enc _ => lifted os started H enc)
end Go.Proofs.Ythkdelepjndacaa.rowExactWorldGone
namespace Go.Proofs.Ythkdelepjndacaa
/-- The row, under a short name, for the claim. -/
theorem exactWorldGone_holds : Rows.FnExactWorldGoneSaid := rowExactWorldGone.over
end Go.Proofs.Ythkdelepjndacaa
