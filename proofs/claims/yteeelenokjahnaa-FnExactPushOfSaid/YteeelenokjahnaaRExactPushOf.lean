/-
  FnExactPushOf returns true at every argument.
  No condition.
-/
import Derived.Test.YteeelenokjahnaaRows
import Derived.Test.YteeelenokjahnaaG3
import Derived.Test.YteeelenokjahnaaSymX
namespace Go.Proofs.Yteeelenokjahnaa.rowExactPushOf
open Go Go.ChangeShapes Go.WideShapes Go.ChangeAt Go.RowKit Go.Proofs.Yteeelenokjahnaa.Sym
set_option linter.unusedVariables false
set_option maxRecDepth 100000
theorem own : ownKnob Try.prog.godebug = none := by kernel_rfl
theorem laidOut : laidOutB Try.prog = true := by kernel_rfl

theorem lifted (os : Os) (started : os.Started) (H : Type) (enc : TypeId × Value → H) :
    ReturnsInHanded {} Try.checked os 11 .any (Rows.fnExactPushOfSpec.pre6 enc Try.prog Try.f11 Rows.fnExactPushOfRow.domain false) (Rows.fnExactPushOfSpec.post enc Try.prog Try.f11 false true false false) := by
  refine returnsInHanded_of_change_sized (C := Try.checked) own started (by kernel_rfl) Try.func11
    (ChangeSpec.witness6 (enc := enc) (C := Try.checked) false ⟨#[], #[.agg #[.int .i64 0, .int .i64 0, .int .i64 0, .int .i64 0, .int .i64 0, .int .i64 0, .int .i64 0, .int .i64 0, .int .i64 0, .int .i64 0, .int .i64 0, .int .i64 0], .agg #[.int .i64 0, .int .i64 0, .int .i64 0, .int .i64 0, .int .i64 0, .int .i64 0, .int .i64 0, .int .i64 0, .int .i64 0, .int .i64 0, .int .i64 0, .int .i64 0], .agg #[.int .i64 0, .int .i64 0, .int .i64 0], .bool false], []⟩ 8 (by kernel_rfl) (by kernel_rfl) (by kernel_rfl) (by kernel_rfl)) ?_
  intro W base args ds gs before hval0 hW hcnd hsz0 _
  have hval : ∀ (j : Nat) t v, Try.f11.params[j]? = some t → args[j]? = some v → Value.okWide Try.prog W .any base t v := hval0
  have hW' := hW
  obtain ⟨p, q, hA0, hV, rfl, hfz, hnd⟩ := hW
  have hA : DataW.TrodAll enc Try.prog W 0 (fun _ => true) true Try.f11.params.toList args.toList ds p := hA0
  rw [Try.params11] at hA hval
  obtain ⟨v0, vs0, d0, ds0, p0, q0, hargs0, rfl, rfl, h0, r0⟩ := trodAll_cons hA
  obtain ⟨v1, vs1, d1, ds1, p1, q1, hargs1, rfl, rfl, h1, r1⟩ := trodAll_cons r0
  obtain ⟨v2, vs2, d2, ds2, p2, q2, hargs2, rfl, rfl, h2, r2⟩ := trodAll_cons r1
  obtain ⟨v3, vs3, d3, ds3, p3, q3, hargs3, rfl, rfl, h3, r3⟩ := trodAll_cons r2
  obtain ⟨rfl, rfl, rfl⟩ := trodAll_nil r3
  subst hargs1
  subst hargs2
  subst hargs3
  obtain rfl : args = #[v0, v1, v2, v3] := by cases args; simp_all
  obtain ⟨rfl, rfl⟩ := trodVars_none hV
  have lt0 : ∀ x ∈ p0, x.block < W.heap.size := by obtain ⟨m, hm⟩ := h0; exact DataW.trod_lt m _ _ _ hm
  have lt1 : ∀ x ∈ p1, x.block < W.heap.size := by obtain ⟨m, hm⟩ := h1; exact DataW.trod_lt m _ _ _ hm
  have lt2 : ∀ x ∈ p2, x.block < W.heap.size := by obtain ⟨m, hm⟩ := h2; exact DataW.trod_lt m _ _ _ hm
  have lt3 : ∀ x ∈ p3, x.block < W.heap.size := by obtain ⟨m, hm⟩ := h3; exact DataW.trod_lt m _ _ _ hm
  have o0 := hval 0 _ v0 rfl rfl
  obtain ⟨c0, rfl, k0⟩ := open_struct (ts := [3, 3, 3, 3, 3, 3, 3, 3, 3, 3, 3, 3]) (by kernel_rfl) (by kernel_rfl) (by kernel_rfl) o0
  obtain ⟨c0x0, c0r0, rfl, k0x0, k0r0⟩ := okAll_cons k0
  obtain ⟨c0x1, c0r1, rfl, k0x1, k0r1⟩ := okAll_cons k0r0
  obtain ⟨c0x2, c0r2, rfl, k0x2, k0r2⟩ := okAll_cons k0r1
  obtain ⟨c0x3, c0r3, rfl, k0x3, k0r3⟩ := okAll_cons k0r2
  obtain ⟨c0x4, c0r4, rfl, k0x4, k0r4⟩ := okAll_cons k0r3
  obtain ⟨c0x5, c0r5, rfl, k0x5, k0r5⟩ := okAll_cons k0r4
  obtain ⟨c0x6, c0r6, rfl, k0x6, k0r6⟩ := okAll_cons k0r5
  obtain ⟨c0x7, c0r7, rfl, k0x7, k0r7⟩ := okAll_cons k0r6
  obtain ⟨c0x8, c0r8, rfl, k0x8, k0r8⟩ := okAll_cons k0r7
  obtain ⟨c0x9, c0r9, rfl, k0x9, k0r9⟩ := okAll_cons k0r8
  obtain ⟨c0x10, c0r10, rfl, k0x10, k0r10⟩ := okAll_cons k0r9
  obtain ⟨c0x11, c0r11, rfl, k0x11, k0r11⟩ := okAll_cons k0r10
  obtain rfl := okAll_nil k0r11
  obtain ⟨a0x0, rfl⟩ := cell_int (k := .i64) (by kernel_rfl) k0x0
  obtain ⟨a0x1, rfl⟩ := cell_int (k := .i64) (by kernel_rfl) k0x1
  obtain ⟨a0x2, rfl⟩ := cell_int (k := .i64) (by kernel_rfl) k0x2
  obtain ⟨a0x3, rfl⟩ := cell_int (k := .i64) (by kernel_rfl) k0x3
  obtain ⟨a0x4, rfl⟩ := cell_int (k := .i64) (by kernel_rfl) k0x4
  obtain ⟨a0x5, rfl⟩ := cell_int (k := .i64) (by kernel_rfl) k0x5
  obtain ⟨a0x6, rfl⟩ := cell_int (k := .i64) (by kernel_rfl) k0x6
  obtain ⟨a0x7, rfl⟩ := cell_int (k := .i64) (by kernel_rfl) k0x7
  obtain ⟨a0x8, rfl⟩ := cell_int (k := .i64) (by kernel_rfl) k0x8
  obtain ⟨a0x9, rfl⟩ := cell_int (k := .i64) (by kernel_rfl) k0x9
  obtain ⟨a0x10, rfl⟩ := cell_int (k := .i64) (by kernel_rfl) k0x10
  obtain ⟨a0x11, rfl⟩ := cell_int (k := .i64) (by kernel_rfl) k0x11
  have o1 := hval 1 _ v1 rfl rfl
  obtain ⟨c1, rfl, k1⟩ := open_struct (ts := [3, 3, 3, 3, 3, 3, 3, 3, 3, 3, 3, 3]) (by kernel_rfl) (by kernel_rfl) (by kernel_rfl) o1
  obtain ⟨c1x0, c1r0, rfl, k1x0, k1r0⟩ := okAll_cons k1
  obtain ⟨c1x1, c1r1, rfl, k1x1, k1r1⟩ := okAll_cons k1r0
  obtain ⟨c1x2, c1r2, rfl, k1x2, k1r2⟩ := okAll_cons k1r1
  obtain ⟨c1x3, c1r3, rfl, k1x3, k1r3⟩ := okAll_cons k1r2
  obtain ⟨c1x4, c1r4, rfl, k1x4, k1r4⟩ := okAll_cons k1r3
  obtain ⟨c1x5, c1r5, rfl, k1x5, k1r5⟩ := okAll_cons k1r4
  obtain ⟨c1x6, c1r6, rfl, k1x6, k1r6⟩ := okAll_cons k1r5
  obtain ⟨c1x7, c1r7, rfl, k1x7, k1r7⟩ := okAll_cons k1r6
  obtain ⟨c1x8, c1r8, rfl, k1x8, k1r8⟩ := okAll_cons k1r7
  obtain ⟨c1x9, c1r9, rfl, k1x9, k1r9⟩ := okAll_cons k1r8
  obtain ⟨c1x10, c1r10, rfl, k1x10, k1r10⟩ := okAll_cons k1r9
  obtain ⟨c1x11, c1r11, rfl, k1x11, k1r11⟩ := okAll_cons k1r10
  obtain rfl := okAll_nil k1r11
  obtain ⟨a1x0, rfl⟩ := cell_int (k := .i64) (by kernel_rfl) k1x0
  obtain ⟨a1x1, rfl⟩ := cell_int (k := .i64) (by kernel_rfl) k1x1
  obtain ⟨a1x2, rfl⟩ := cell_int (k := .i64) (by kernel_rfl) k1x2
  obtain ⟨a1x3, rfl⟩ := cell_int (k := .i64) (by kernel_rfl) k1x3
  obtain ⟨a1x4, rfl⟩ := cell_int (k := .i64) (by kernel_rfl) k1x4
  obtain ⟨a1x5, rfl⟩ := cell_int (k := .i64) (by kernel_rfl) k1x5
  obtain ⟨a1x6, rfl⟩ := cell_int (k := .i64) (by kernel_rfl) k1x6
  obtain ⟨a1x7, rfl⟩ := cell_int (k := .i64) (by kernel_rfl) k1x7
  obtain ⟨a1x8, rfl⟩ := cell_int (k := .i64) (by kernel_rfl) k1x8
  obtain ⟨a1x9, rfl⟩ := cell_int (k := .i64) (by kernel_rfl) k1x9
  obtain ⟨a1x10, rfl⟩ := cell_int (k := .i64) (by kernel_rfl) k1x10
  obtain ⟨a1x11, rfl⟩ := cell_int (k := .i64) (by kernel_rfl) k1x11
  have o2 := hval 2 _ v2 rfl rfl
  obtain ⟨c2, rfl, k2⟩ := open_struct (ts := [3, 3, 3]) (by kernel_rfl) (by kernel_rfl) (by kernel_rfl) o2
  obtain ⟨c2x0, c2r0, rfl, k2x0, k2r0⟩ := okAll_cons k2
  obtain ⟨c2x1, c2r1, rfl, k2x1, k2r1⟩ := okAll_cons k2r0
  obtain ⟨c2x2, c2r2, rfl, k2x2, k2r2⟩ := okAll_cons k2r1
  obtain rfl := okAll_nil k2r2
  obtain ⟨a2x0, rfl⟩ := cell_int (k := .i64) (by kernel_rfl) k2x0
  obtain ⟨a2x1, rfl⟩ := cell_int (k := .i64) (by kernel_rfl) k2x1
  obtain ⟨a2x2, rfl⟩ := cell_int (k := .i64) (by kernel_rfl) k2x2
  have o3 := hval 3 _ v3 rfl rfl
  obtain ⟨a3, rfl⟩ := okWide_bool (by kernel_rfl) o3
  refine (law_ok (us := [.agg #[.int .i64 a0x0, .int .i64 a0x1, .int .i64 a0x2, .int .i64 a0x3, .int .i64 a0x4, .int .i64 a0x5, .int .i64 a0x6, .int .i64 a0x7, .int .i64 a0x8, .int .i64 a0x9, .int .i64 a0x10, .int .i64 a0x11], .agg #[.int .i64 a1x0, .int .i64 a1x1, .int .i64 a1x2, .int .i64 a1x3, .int .i64 a1x4, .int .i64 a1x5, .int .i64 a1x6, .int .i64 a1x7, .int .i64 a1x8, .int .i64 a1x9, .int .i64 a1x10, .int .i64 a1x11], .agg #[.int .i64 a2x0, .int .i64 a2x1, .int .i64 a2x2], .bool a3]) (env := fun _ => (none, 0)) (args := [.agg [.int .i64 a0x0, .int .i64 a0x1, .int .i64 a0x2, .int .i64 a0x3, .int .i64 a0x4, .int .i64 a0x5, .int .i64 a0x6, .int .i64 a0x7, .int .i64 a0x8, .int .i64 a0x9, .int .i64 a0x10, .int .i64 a0x11], .agg [.int .i64 a1x0, .int .i64 a1x1, .int .i64 a1x2, .int .i64 a1x3, .int .i64 a1x4, .int .i64 a1x5, .int .i64 a1x6, .int .i64 a1x7, .int .i64 a1x8, .int .i64 a1x9, .int .i64 a1x10, .int .i64 a1x11], .agg [.int .i64 a2x0, .int .i64 a2x1, .int .i64 a2x2], .bool a3]) (LL := []) ok_lawExactPushOf rfl (fun q e => by cases e) hrel_nil
    ⟨⟨_, rfl, rfl, rfl, rfl, rfl, rfl, rfl, rfl, rfl, rfl, rfl, rfl, rfl, trivial⟩, ⟨_, rfl, rfl, rfl, rfl, rfl, rfl, rfl, rfl, rfl, rfl, rfl, rfl, rfl, trivial⟩, ⟨_, rfl, rfl, rfl, rfl, trivial⟩, rfl, trivial⟩).mono fun e W' ⟨he, bel⟩ => ?_
  subst he
  exact ⟨_, rfl, _, _, _, [], _, [], hW', trodAll_mk1 (shut_bool (by kernel_rfl) _),
    (trodAll_cons_mk (Below.trod laidOut (by kernel_rfl) (of_decide_eq_true (by kernel_rfl)) h0 bel lt0)
    (trodAll_cons_mk (Below.trod laidOut (by kernel_rfl) (of_decide_eq_true (by kernel_rfl)) h1 bel lt1)
    (trodAll_cons_mk (Below.trod laidOut (by kernel_rfl) (of_decide_eq_true (by kernel_rfl)) h2 bel lt2)
    (trodAll_cons_mk (Below.trod laidOut (by kernel_rfl) (of_decide_eq_true (by kernel_rfl)) h3 bel lt3)
    trodAll_mk0)))), rfl, bel.frame _, fun h => by cases h⟩

theorem over : Rows.fnExactPushOfRow.holds Try.pinned (OpenSpec.ofChange Rows.fnExactPushOfSpec) :=
  OpenClaim.holds_of_wide 11 Try.f11 rfl rfl rfl rfl rfl rfl rfl ⟨rfl, rfl, rfl, rfl, rfl⟩ rfl rfl rfl rfl rfl (by kernel_rfl) Try.func11 (by kernel_rfl)
    (of_decide_eq_true (by kernel_rfl)) (by unfold Func.isWrapper; first | (rw [if_pos (by decide +kernel)]; kernel_rfl) | (rw [if_neg (by decide +kernel)]; exact ⟨rfl, rfl⟩))
    (fun os started H enc _ => lifted os started H enc)
end Go.Proofs.Yteeelenokjahnaa.rowExactPushOf
namespace Go.Proofs.Yteeelenokjahnaa
/-- The row, under a short name, for the claim. -/
theorem exactPushOf_holds : Rows.FnExactPushOfSaid := rowExactPushOf.over
end Go.Proofs.Yteeelenokjahnaa
