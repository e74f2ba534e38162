/-
  How the program tells who touches.
  No condition.
-/
import Derived.Test.YthkdelepjndacaaT1
namespace Go.Proofs.Ythkdelepjndacaa.Sym
open Go
set_option linter.unusedVariables false
set_option linter.unusedSimpArgs false
set_option maxRecDepth 100000

def LSroot  : LS where
  S := Int × Int × Int
  live := [(0, [none]), (3, [none]), (4, [none])]
  shape := fun s => ([.int .i64 s.1, .int .i64 s.2.1, .int .i64 s.2.2], [])
  get := fun v h => match v, h with
    | [.int .i64 n, .int .i64 low, .int .i64 high], [] => some (n, low, high)
    | _, _ => none
  inv := fun s0 s => Holds (s.1 = s0.1 ∧ 0 ≤ s.2.1 ∧ s.2.1 < s.2.2 ∧ s.2.2 ≤ 2828427124 ∧ s.2.1 * s.2.1 ≤ s0.1 ∧ s0.1 < s.2.2 * s.2.2)
  mu := fun s => (s.2.2 - s.2.1).toNat
  ok := by
    intro v h s hg
    try dsimp only at hg
    split at hg <;> cases hg
    rfl

def L_root : Loops := fun n => match n with
  | 2 => some LSroot
  | _ => none
noncomputable def fs_implRoot : Fs := ⟨[], fun args H => match args, H with
  | [.int .i64 n], [] => some ((some (0 ≤ n ∧ n ≤ 2000000000000000000)), .int .i64 (rootI n), [])
  | _, _ => none⟩

theorem vc_implRoot (n : Int) (Q : SV → List Ent → Prop) :
    fnVC tt (look []) (L_root) Try.f200 [.int .i64 n] [] Q =
    (Holds (n = n ∧ (0 : Int) ≤ (0 : Int) ∧ (0 : Int) < (2147483648 : Int) ∧ (2147483648 : Int) ≤ (2828427124 : Int) ∧ (0 : Int) * (0 : Int) ≤ n ∧ n < (2147483648 : Int) * (2147483648 : Int)) ∧ ∀ (x : Int × Int × Int), Holds (Prod.fst x = n ∧ (0 : Int) ≤ Prod.fst (Prod.snd x) ∧ Prod.fst (Prod.snd x) < Prod.snd (Prod.snd x) ∧ Prod.snd (Prod.snd x) ≤ (2828427124 : Int) ∧ Prod.fst (Prod.snd x) * Prod.fst (Prod.snd x) ≤ n ∧ n < Prod.snd (Prod.snd x) * Prod.snd (Prod.snd x)) → ifB (decide (IntKind.wrap IntKind.i64 (Prod.snd (Prod.snd x) - Prod.fst (Prod.snd x)) > (1 : Int))) (ifB (decide (IntKind.wrap IntKind.i64 (IntKind.wrap IntKind.i64 (Int.tdiv (IntKind.wrap IntKind.i64 (Prod.fst (Prod.snd x) + Prod.snd (Prod.snd x))) (2 : Int)) * IntKind.wrap IntKind.i64 (Int.tdiv (IntKind.wrap IntKind.i64 (Prod.fst (Prod.snd x) + Prod.snd (Prod.snd x))) (2 : Int))) ≤ Prod.fst x)) (Holds (Prod.fst x = n ∧ (0 : Int) ≤ IntKind.wrap IntKind.i64 (Int.tdiv (IntKind.wrap IntKind.i64 (Prod.fst (Prod.snd x) + Prod.snd (Prod.snd x))) (2 : Int)) ∧ IntKind.wrap IntKind.i64 (Int.tdiv (IntKind.wrap IntKind.i64 (Prod.fst (Prod.snd x) + Prod.snd (Prod.snd x))) (2 : Int)) < Prod.snd (Prod.snd x) ∧ Prod.snd (Prod.snd x) ≤ (2828427124 : Int) ∧ IntKind.wrap IntKind.i64 (Int.tdiv (IntKind.wrap IntKind.i64 (Prod.fst (Prod.snd x) + Prod.snd (Prod.snd x))) (2 : Int)) * IntKind.wrap IntKind.i64 (Int.tdiv (IntKind.wrap IntKind.i64 (Prod.fst (Prod.snd x) + Prod.snd (Prod.snd x))) (2 : Int)) ≤ n ∧ n < Prod.snd (Prod.snd x) * Prod.snd (Prod.snd x)) ∧ Int.toNat (Prod.snd (Prod.snd x) - IntKind.wrap IntKind.i64 (Int.tdiv (IntKind.wrap IntKind.i64 (Prod.fst (Prod.snd x) + Prod.snd (Prod.snd x))) (2 : Int))) < Int.toNat (Prod.snd (Prod.snd x) - Prod.fst (Prod.snd x))) (Holds (Prod.fst x = n ∧ (0 : Int) ≤ Prod.fst (Prod.snd x) ∧ Prod.fst (Prod.snd x) < IntKind.wrap IntKind.i64 (Int.tdiv (IntKind.wrap IntKind.i64 (Prod.fst (Prod.snd x) + Prod.snd (Prod.snd x))) (2 : Int)) ∧ IntKind.wrap IntKind.i64 (Int.tdiv (IntKind.wrap IntKind.i64 (Prod.fst (Prod.snd x) + Prod.snd (Prod.snd x))) (2 : Int)) ≤ (2828427124 : Int) ∧ Prod.fst (Prod.snd x) * Prod.fst (Prod.snd x) ≤ n ∧ n < IntKind.wrap IntKind.i64 (Int.tdiv (IntKind.wrap IntKind.i64 (Prod.fst (Prod.snd x) + Prod.snd (Prod.snd x))) (2 : Int)) * IntKind.wrap IntKind.i64 (Int.tdiv (IntKind.wrap IntKind.i64 (Prod.fst (Prod.snd x) + Prod.snd (Prod.snd x))) (2 : Int))) ∧ Int.toNat (IntKind.wrap IntKind.i64 (Int.tdiv (IntKind.wrap IntKind.i64 (Prod.fst (Prod.snd x) + Prod.snd (Prod.snd x))) (2 : Int)) - Prod.fst (Prod.snd x)) < Int.toNat (Prod.snd (Prod.snd x) - Prod.fst (Prod.snd x)))) (Q (SV.int IntKind.i64 (Prod.fst (Prod.snd x))) [])) := by kernel_rfl

theorem ok_implRoot : FsOk Try.prog 200 fs_implRoot := fsOk_of tt_ok tabFs_nil mixed Try.func200 (by kernel_rfl) (by kernel_rfl) (by
    intro args LL p r HH h hp
    unfold fs_implRoot at h
    dsimp only at h
    split at h
    case h_2 => cases h
    rename_i n
    simp only [Option.some.injEq, Prod.mk.injEq] at h
    obtain ⟨rfl, rfl, rfl⟩ := h
    refine ⟨by simp [Form, stays], (L_root), ?_⟩
    rw [vc_implRoot]
    try dsimp only
    obtain ⟨hn0, hn1⟩ := hp _ rfl
    refine ⟨⟨(by trivial), by omega, by omega, by omega, by omega, by omega⟩, ?_⟩
    rintro ⟨n'', low, high⟩ ⟨h⟩
    dsimp only at h ⊢
    obtain ⟨rfl, g0, g1, g2, g3, g4⟩ := h
    have w1 : IntKind.i64.wrap (high - low) = high - low := wrap_small (by omega) (by omega)
    have w2 : IntKind.i64.wrap (low + high) = low + high := wrap_small (by omega) (by omega)
    have w3 := Int.tdiv_eq_ediv_of_nonneg (b := 2) (show 0 ≤ low + high by omega)
    have w4 : IntKind.i64.wrap ((low + high) / 2) = (low + high) / 2 := wrap_small (by omega) (by omega)
    rw [w1, w2, w3, w4]
    have m0 : 0 ≤ (low + high) / 2 := by omega
    have m1 : (low + high) / 2 ≤ 2828427124 := by omega
    have sqm := sq_le m0 m1
    have sqm0 : 0 ≤ (low + high) / 2 * ((low + high) / 2) := Int.mul_nonneg m0 m0
    have w5 : IntKind.i64.wrap ((low + high) / 2 * ((low + high) / 2)) = (low + high) / 2 * ((low + high) / 2) := wrap_small (by omega) (by omega)
    rw [w5]
    refine ifB_of (fun c2 => ?_) (fun c2 => ?_)
    · have c2 := of_decide_eq_true c2
      refine ifB_of (fun c3 => ?_) (fun c3 => ?_)
      · have c3 := of_decide_eq_true c3
        exact ⟨⟨(by trivial), by omega, by omega, by omega, c3, g4⟩, by omega⟩
      · have c3 := of_decide_eq_false c3
        exact ⟨⟨(by trivial), by omega, by omega, by omega, g3, by omega⟩, by omega⟩
    · have c2 := of_decide_eq_false c2
      have e : high = low + 1 := by omega
      subst e
      rw [rootI_eq ⟨g0, g3, g4⟩]
      exact ⟨rfl, rfl⟩)

noncomputable def fs_implVecLen : Fs := ⟨[], fun args H => match args, H with
  | [.agg [.int .i64 aX, .int .i64 aY]], [] => some (none, .int .i64 (vecLen (Vec.mk aX aY)), [])
  | _, _ => none⟩

theorem vc_implVecLen (aX : Int) (aY : Int) (Q : SV → List Ent → Prop) :
    fnVC tt (look [(198, fs_implFixClamp), (200, fs_implRoot), (129, fs_vecClamped), (157, fs_vecSquare)]) L0 Try.f192 [.agg [.int .i64 aX, .int .i64 aY]] [] Q =
    (((0 : Int) ≤ square (Vec.mk (withinI aX (1000000000 : Int)) (withinI aY (1000000000 : Int))) ∧ square (Vec.mk (withinI aX (1000000000 : Int)) (withinI aY (1000000000 : Int))) ≤ (2000000000000000000 : Int)) ∧ Q (SV.int IntKind.i64 (clampTo (1000000000 : Int) (rootI (square (Vec.mk (withinI aX (1000000000 : Int)) (withinI aY (1000000000 : Int))))))) []) := by kernel_rfl

theorem ok_implVecLen : FsOk Try.prog 192 fs_implVecLen := fsOk_of tt_ok (tabFs_cons ok_implFixClamp (tabFs_cons ok_implRoot (tabFs_cons ok_vecClamped (tabFs_cons ok_vecSquare tabFs_nil)))) mixed Try.func192 (by kernel_rfl) (by kernel_rfl) (by
    intro args LL p r HH h hp
    unfold fs_implVecLen at h
    dsimp only at h
    split at h
    case h_2 => cases h
    rename_i aX aY
    simp only [Option.some.injEq, Prod.mk.injEq] at h
    obtain ⟨rfl, rfl, rfl⟩ := h
    refine ⟨by simp [Form, stays], L0, ?_⟩
    rw [vc_implVecLen]
    try dsimp only
    have := square_clamp ⟨aX, aY⟩
    simp only [withinI_big]
    exact ⟨⟨this.2.1, this.2.2⟩, (by trivial), (by trivial)⟩)

noncomputable def fs_implVecUnit : Fs := ⟨[], fun args H => match args, H with
  | [.agg [.int .i64 aX, .int .i64 aY]], [] => some (none, .agg [.int .i64 (vecUnit (Vec.mk aX aY)).X, .int .i64 (vecUnit (Vec.mk aX aY)).Y], [])
  | _, _ => none⟩

theorem vc_implVecUnit (aX : Int) (aY : Int) (Q : SV → List Ent → Prop) :
    fnVC tt (look [(129, fs_vecClamped), (192, fs_implVecLen)]) L0 Try.f191 [.agg [.int .i64 aX, .int .i64 aY]] [] Q =
    (ifB (vecLen (Vec.mk (withinI aX (1000000000 : Int)) (withinI aY (1000000000 : Int))) == (0 : Int)) (Q (SV.agg [SV.int IntKind.i64 (0 : Int), SV.int IntKind.i64 (256 : Int)]) []) (vecLen (Vec.mk (withinI aX (1000000000 : Int)) (withinI aY (1000000000 : Int))) ≠ (0 : Int) ∧ vecLen (Vec.mk (withinI aX (1000000000 : Int)) (withinI aY (1000000000 : Int))) ≠ (0 : Int) ∧ Q (SV.agg [SV.int IntKind.i64 (IntKind.wrap IntKind.i64 (Int.tdiv (IntKind.wrap IntKind.i64 (withinI aX (1000000000 : Int) * (256 : Int))) (vecLen (Vec.mk (withinI aX (1000000000 : Int)) (withinI aY (1000000000 : Int)))))), SV.int IntKind.i64 (IntKind.wrap IntKind.i64 (Int.tdiv (IntKind.wrap IntKind.i64 (withinI aY (1000000000 : Int) * (256 : Int))) (vecLen (Vec.mk (withinI aX (1000000000 : Int)) (withinI aY (1000000000 : Int))))))]) [])) := by kernel_rfl

theorem ok_implVecUnit : FsOk Try.prog 191 fs_implVecUnit := fsOk_of tt_ok (tabFs_cons ok_vecClamped (tabFs_cons ok_implVecLen tabFs_nil)) mixed Try.func191 (by kernel_rfl) (by kernel_rfl) (by
    intro args LL p r HH h hp
    unfold fs_implVecUnit at h
    dsimp only at h
    split at h
    case h_2 => cases h
    rename_i aX aY
    simp only [Option.some.injEq, Prod.mk.injEq] at h
    obtain ⟨rfl, rfl, rfl⟩ := h
    refine ⟨by simp [Form, stays], L0, ?_⟩
    rw [vc_implVecUnit]
    try dsimp only
    simp only [withinI_big]
    unfold vecUnit
    refine ifB_of (fun c => ?_) (fun c => ?_)
    · have c : vecLen (clampV 1000000000 ⟨aX, aY⟩) = 0 := eq_of_beq c
      rw [if_pos c]
      exact ⟨(by trivial), (by trivial)⟩
    · have c : ¬ vecLen (clampV 1000000000 ⟨aX, aY⟩) = 0 := beq_eq_false_iff_ne.1 c
      rw [if_neg c]
      exact ⟨c, c, (by trivial), (by trivial)⟩)

noncomputable def fs_implRounds : Fs := ⟨[], fun args H => match args, H with
  | [.agg [.int .i64 pX, .int .i64 pY], .int .i64 w, .agg [.int .i64 qX, .int .i64 qY], .int .i64 o], [] => some (none, .tup [.agg [.int .i64 ((roundsF (minus (Vec.mk qX qY) (Vec.mk pX pY)) (W (w + o))).1).Way.X, .int .i64 ((roundsF (minus (Vec.mk qX qY) (Vec.mk pX pY)) (W (w + o))).1).Way.Y, .int .i64 ((roundsF (minus (Vec.mk qX qY) (Vec.mk pX pY)) (W (w + o))).1).Deep], .bool ((roundsF (minus (Vec.mk qX qY) (Vec.mk pX pY)) (W (w + o))).2)], [])
  | _, _ => none⟩

theorem vc_implRounds (pX : Int) (pY : Int) (w : Int) (qX : Int) (qY : Int) (o : Int) (Q : SV → List Ent → Prop) :
    fnVC tt (look [(156, fs_vecMinus), (157, fs_vecSquare), (191, fs_implVecUnit), (192, fs_implVecLen)]) L0 Try.f171 [.agg [.int .i64 pX, .int .i64 pY], .int .i64 w, .agg [.int .i64 qX, .int .i64 qY], .int .i64 o] [] Q =
    (ifB (decide (square (minus (Vec.mk qX qY) (Vec.mk pX pY)) > IntKind.wrap IntKind.i64 (IntKind.wrap IntKind.i64 (w + o) * IntKind.wrap IntKind.i64 (w + o)))) (Q (SV.tup [SV.agg [SV.int IntKind.i64 (0 : Int), SV.int IntKind.i64 (0 : Int), SV.int IntKind.i64 (0 : Int)], SV.bool false]) []) (Q (SV.tup [SV.agg [SV.int IntKind.i64 (Vec.X (vecUnit (minus (Vec.mk qX qY) (Vec.mk pX pY)))), SV.int IntKind.i64 (Vec.Y (vecUnit (minus (Vec.mk qX qY) (Vec.mk pX pY)))), SV.int IntKind.i64 (IntKind.wrap IntKind.i64 (IntKind.wrap IntKind.i64 (w + o) - vecLen (minus (Vec.mk qX qY) (Vec.mk pX pY))))], SV.bool true]) [])) := by kernel_rfl

theorem ok_implRounds : FsOk Try.prog 171 fs_implRounds := fsOk_of tt_ok (tabFs_cons ok_vecMinus (tabFs_cons ok_vecSquare (tabFs_cons ok_implVecUnit (tabFs_cons ok_implVecLen tabFs_nil)))) mixed Try.func171 (by kernel_rfl) (by kernel_rfl) (by
    intro args LL p r HH h hp
    unfold fs_implRounds at h
    dsimp only at h
    split at h
    case h_2 => cases h
    rename_i pX pY w qX qY o
    simp only [Option.some.injEq, Prod.mk.injEq] at h
    obtain ⟨rfl, rfl, rfl⟩ := h
    refine ⟨by simp [Form, stays], L0, ?_⟩
    rw [vc_implRounds]
    try dsimp only
    unfold roundsF
    refine ifB_of (fun c => ?_) (fun c => ?_)
    · have c : square (minus ⟨qX, qY⟩ ⟨pX, pY⟩) > W (W (w + o) * W (w + o)) := of_decide_eq_true c
      rw [if_pos c]
      exact ⟨rfl, rfl⟩
    · have c : ¬ square (minus ⟨qX, qY⟩ ⟨pX, pY⟩) > W (W (w + o) * W (w + o)) := of_decide_eq_false c
      rw [if_neg c]
      exact ⟨rfl, rfl⟩)

noncomputable def fs_implOpposite : Fs := ⟨[], fun args H => match args, H with
  | [.agg [.int .i64 aX, .int .i64 aY]], [] => some (none, .agg [.int .i64 (Vec.mk (W (0 - (Vec.mk aX aY).X)) (W (0 - (Vec.mk aX aY).Y))).X, .int .i64 (Vec.mk (W (0 - (Vec.mk aX aY).X)) (W (0 - (Vec.mk aX aY).Y))).Y], [])
  | _, _ => none⟩

theorem vc_implOpposite (aX : Int) (aY : Int) (Q : SV → List Ent → Prop) :
    fnVC tt (look []) L0 Try.f107 [.agg [.int .i64 aX, .int .i64 aY]] [] Q =
    (Q (SV.agg [SV.int IntKind.i64 (IntKind.wrap IntKind.i64 ((0 : Int) - aX)), SV.int IntKind.i64 (IntKind.wrap IntKind.i64 ((0 : Int) - aY))]) []) := by kernel_rfl

theorem ok_implOpposite : FsOk Try.prog 107 fs_implOpposite := fsOk_of tt_ok tabFs_nil mixed Try.func107 (by kernel_rfl) (by kernel_rfl) (by
    intro args LL p r HH h hp
    unfold fs_implOpposite at h
    dsimp only at h
    split at h
    case h_2 => cases h
    rename_i aX aY
    simp only [Option.some.injEq, Prod.mk.injEq] at h
    obtain ⟨rfl, rfl, rfl⟩ := h
    refine ⟨by simp [Form, stays], L0, ?_⟩
    rw [vc_implOpposite]
    try dsimp only
    exact ⟨rfl, rfl⟩)

noncomputable def fs_implNear : Fs := ⟨[], fun args H => match args, H with
  | [.agg [.int .i64 bLX, .int .i64 bLY, .int .i64 bHX, .int .i64 bHY], .agg [.int .i64 pX, .int .i64 pY]], [] => some (none, .agg [.int .i64 (nearV (Box.mk (Vec.mk bLX bLY) (Vec.mk bHX bHY)) (Vec.mk pX pY)).X, .int .i64 (nearV (Box.mk (Vec.mk bLX bLY) (Vec.mk bHX bHY)) (Vec.mk pX pY)).Y], [])
  | _, _ => none⟩

theorem vc_implNear (bLX : Int) (bLY : Int) (bHX : Int) (bHY : Int) (pX : Int) (pY : Int) (Q : SV → List Ent → Prop) :
    fnVC tt (look []) L0 Try.f195 [.agg [.int .i64 bLX, .int .i64 bLY, .int .i64 bHX, .int .i64 bHY], .agg [.int .i64 pX, .int .i64 pY]] [] Q =
    (Q (SV.agg [SV.int IntKind.i64 (if (if bHX < pX then bHX else pX) > bLX then if bHX < pX then bHX else pX else bLX), SV.int IntKind.i64 (if (if bHY < pY then bHY else pY) > bLY then if bHY < pY then bHY else pY else bLY)]) []) := by kernel_rfl

theorem ok_implNear : FsOk Try.prog 195 fs_implNear := fsOk_of tt_ok tabFs_nil mixed Try.func195 (by kernel_rfl) (by kernel_rfl) (by
    intro args LL p r HH h hp
    unfold fs_implNear at h
    dsimp only at h
    split at h
    case h_2 => cases h
    rename_i bLX bLY bHX bHY pX pY
    simp only [Option.some.injEq, Prod.mk.injEq] at h
    obtain ⟨rfl, rfl, rfl⟩ := h
    refine ⟨by simp [Form, stays], L0, ?_⟩
    rw [vc_implNear]
    try dsimp only
    simp only [max_b, min_b]
    exact ⟨(by trivial), (by trivial)⟩)

def LSboxes  : LS where
  S := Hit × Hit × List Hit × Int × Int
  live := [(4, [none]), (6, [none]), (50, [some .hit]), (51, [none]), (52, [none])]
  shape := fun s => ([.ptr 0 0 0, .ptr 1 0 0, .vec 2, .int .i64 s.2.2.2.1, .int .i64 s.2.2.2.2], [(true, .box [.int .i64 s.1.Way.X, .int .i64 s.1.Way.Y, .int .i64 s.1.Deep]), (true, .box [.int .i64 s.2.1.Way.X, .int .i64 s.2.1.Way.Y, .int .i64 s.2.1.Deep]), (true, .vec .hit s.2.2.1)])
  get := fun v h => match v, h with
    | [.ptr 0 0 0, .ptr 1 0 0, .vec 2, .int .i64 n, .int .i64 i], [(true, .box [.int .i64 zX, .int .i64 zY, .int .i64 zD]), (true, .box [.int .i64 bestX, .int .i64 bestY, .int .i64 bestD]), (true, .vec .hit hs)] => some ((Hit.mk (Vec.mk zX zY) zD), (Hit.mk (Vec.mk bestX bestY) bestD), hs, n, i)
    | _, _ => none
  inv := fun s0 s => Holds (s.2.2.1 = s0.2.2.1 ∧ s.2.2.2.1 = s0.2.2.1.length ∧ 0 ≤ s.2.2.2.2 ∧ s.2.2.2.2 ≤ s0.2.2.1.length ∧ (s0.2.2.1.drop s.2.2.2.2.toNat).foldl less2 s.2.1 = (s0.2.2.1.drop s0.2.2.2.2.toNat).foldl less2 s0.2.1 ∧ s0.2.2.1.length ≤ 100)
  mu := fun s => ((s.2.2.1.length : Int) - s.2.2.2.2).toNat
  ok := by
    intro v h s hg
    try dsimp only at hg
    split at hg <;> cases hg
    rfl

def L_boxes : Loops := fun n => match n with
  | 5 => some LSboxes
  | _ => none
noncomputable def fs_implBoxes : Fs := ⟨[], fun args H => match args, H with
  | [.agg [.int .i64 aLX, .int .i64 aLY, .int .i64 aHX, .int .i64 aHY], .agg [.int .i64 bLX, .int .i64 bLY, .int .i64 bHX, .int .i64 bHY]], [] => some (none, .tup [.agg [.int .i64 ((boxesF (Box.mk (Vec.mk aLX aLY) (Vec.mk aHX aHY)) (Box.mk (Vec.mk bLX bLY) (Vec.mk bHX bHY))).1).Way.X, .int .i64 ((boxesF (Box.mk (Vec.mk aLX aLY) (Vec.mk aHX aHY)) (Box.mk (Vec.mk bLX bLY) (Vec.mk bHX bHY))).1).Way.Y, .int .i64 ((boxesF (Box.mk (Vec.mk aLX aLY) (Vec.mk aHX aHY)) (Box.mk (Vec.mk bLX bLY) (Vec.mk bHX bHY))).1).Deep], .bool ((boxesF (Box.mk (Vec.mk aLX aLY) (Vec.mk aHX aHY)) (Box.mk (Vec.mk bLX bLY) (Vec.mk bHX bHY))).2)], [])
  | _, _ => none⟩

theorem vc_implBoxes (aLX : Int) (aLY : Int) (aHX : Int) (aHY : Int) (bLX : Int) (bLY : Int) (bHX : Int) (bHY : Int) (Q : SV → List Ent → Prop) :
    fnVC tt (look [(193, fs_implMeets)]) (L_boxes) Try.f172 [.agg [.int .i64 aLX, .int .i64 aLY, .int .i64 aHX, .int .i64 aHY], .agg [.int .i64 bLX, .int .i64 bLY, .int .i64 bHX, .int .i64 bHY]] [] Q =
    (let A9_ := (Hit.mk (Vec.mk (256 : Int) (0 : Int)) (IntKind.wrap IntKind.i64 (aHX - bLX))); let A8_ := (Vec.mk (0 : Int) (256 : Int)); let A7_ := (Vec.mk (0 : Int) (-256 : Int)); let A6_ := (Vec.mk (-256 : Int) (0 : Int)); let A5_ := (IntKind.wrap IntKind.i64 (bHY - aLY)); let A4_ := (IntKind.wrap IntKind.i64 (aHY - bLY)); let A3_ := (IntKind.wrap IntKind.i64 (bHX - aLX)); let A2_ := (List.drop (Int.toNat (0 : Int)) [Hit.mk A6_ A3_, Hit.mk A8_ A4_, Hit.mk A7_ A5_]); let A1_ := (↑(List.length [Hit.mk A6_ A3_, Hit.mk A8_ A4_, Hit.mk A7_ A5_]) : Int); ifB (!boxMeets (Box.mk (Vec.mk aLX aLY) (Vec.mk aHX aHY)) (Box.mk (Vec.mk bLX bLY) (Vec.mk bHX bHY))) (Q (SV.tup [SV.agg [SV.int IntKind.i64 (0 : Int), SV.int IntKind.i64 (0 : Int), SV.int IntKind.i64 (0 : Int)], SV.bool false]) []) (Holds ([Hit.mk A6_ A3_, Hit.mk A8_ A4_, Hit.mk A7_ A5_] = [Hit.mk A6_ A3_, Hit.mk A8_ A4_, Hit.mk A7_ A5_] ∧ A1_ = A1_ ∧ (0 : Int) ≤ (0 : Int) ∧ (0 : Int) ≤ A1_ ∧ List.foldl less2 A9_ A2_ = List.foldl less2 A9_ A2_ ∧ List.length [Hit.mk A6_ A3_, Hit.mk A8_ A4_, Hit.mk A7_ A5_] ≤ (100 : Nat)) ∧ ∀ (x : Hit × Hit × List Hit × Int × Int), Holds (Prod.fst (Prod.snd (Prod.snd x)) = [Hit.mk A6_ A3_, Hit.mk A8_ A4_, Hit.mk A7_ A5_] ∧ Prod.fst (Prod.snd (Prod.snd (Prod.snd x))) = A1_ ∧ (0 : Int) ≤ Prod.snd (Prod.snd (Prod.snd (Prod.snd x))) ∧ Prod.snd (Prod.snd (Prod.snd (Prod.snd x))) ≤ A1_ ∧ List.foldl less2 (Prod.fst (Prod.snd x)) (List.drop (Int.toNat (Prod.snd (Prod.snd (Prod.snd (Prod.snd x))))) [Hit.mk A6_ A3_, Hit.mk A8_ A4_, Hit.mk A7_ A5_]) = List.foldl less2 A9_ A2_ ∧ List.length [Hit.mk A6_ A3_, Hit.mk A8_ A4_, Hit.mk A7_ A5_] ≤ (100 : Nat)) → ifB (decide (Prod.snd (Prod.snd (Prod.snd (Prod.snd x))) < Prod.fst (Prod.snd (Prod.snd (Prod.snd x))))) (((0 : Int) ≤ Prod.snd (Prod.snd (Prod.snd (Prod.snd x))) ∧ Prod.snd (Prod.snd (Prod.snd (Prod.snd x))) < (↑(List.length (Prod.fst (Prod.snd (Prod.snd x)))) : Int)) ∧ ifB (decide (Hit.Deep (Ty.ix Ty.hit (Prod.fst (Prod.snd (Prod.snd x))) (Int.toNat (Prod.snd (Prod.snd (Prod.snd (Prod.snd x)))))) < Hit.Deep (Prod.fst (Prod.snd x)))) (Holds (Prod.fst (Prod.snd (Prod.snd x)) = [Hit.mk A6_ A3_, Hit.mk A8_ A4_, Hit.mk A7_ A5_] ∧ Prod.fst (Prod.snd (Prod.snd (Prod.snd x))) = A1_ ∧ (0 : Int) ≤ IntKind.wrap IntKind.i64 (Prod.snd (Prod.snd (Prod.snd (Prod.snd x))) + (1 : Int)) ∧ IntKind.wrap IntKind.i64 (Prod.snd (Prod.snd (Prod.snd (Prod.snd x))) + (1 : Int)) ≤ A1_ ∧ List.foldl less2 (Ty.ix Ty.hit (Prod.fst (Prod.snd (Prod.snd x))) (Int.toNat (Prod.snd (Prod.snd (Prod.snd (Prod.snd x)))))) (List.drop (Int.toNat (IntKind.wrap IntKind.i64 (Prod.snd (Prod.snd (Prod.snd (Prod.snd x))) + (1 : Int)))) [Hit.mk A6_ A3_, Hit.mk A8_ A4_, Hit.mk A7_ A5_]) = List.foldl less2 A9_ A2_ ∧ List.length [Hit.mk A6_ A3_, Hit.mk A8_ A4_, Hit.mk A7_ A5_] ≤ (100 : Nat)) ∧ Int.toNat ((↑(List.length (Prod.fst (Prod.snd (Prod.snd x)))) : Int) - IntKind.wrap IntKind.i64 (Prod.snd (Prod.snd (Prod.snd (Prod.snd x))) + (1 : Int))) < Int.toNat ((↑(List.length (Prod.fst (Prod.snd (Prod.snd x)))) : Int) - Prod.snd (Prod.snd (Prod.snd (Prod.snd x))))) (Holds (Prod.fst (Prod.snd (Prod.snd x)) = [Hit.mk A6_ A3_, Hit.mk A8_ A4_, Hit.mk A7_ A5_] ∧ Prod.fst (Prod.snd (Prod.snd (Prod.snd x))) = A1_ ∧ (0 : Int) ≤ IntKind.wrap IntKind.i64 (Prod.snd (Prod.snd (Prod.snd (Prod.snd x))) + (1 : Int)) ∧ IntKind.wrap IntKind.i64 (Prod.snd (Prod.snd (Prod.snd (Prod.snd x))) + (1 : Int)) ≤ A1_ ∧ List.foldl less2 (Prod.fst (Prod.snd x)) (List.drop (Int.toNat (IntKind.wrap IntKind.i64 (Prod.snd (Prod.snd (Prod.snd (Prod.snd x))) + (1 : Int)))) [Hit.mk A6_ A3_, Hit.mk A8_ A4_, Hit.mk A7_ A5_]) = List.foldl less2 A9_ A2_ ∧ List.length [Hit.mk A6_ A3_, Hit.mk A8_ A4_, Hit.mk A7_ A5_] ≤ (100 : Nat)) ∧ Int.toNat ((↑(List.length (Prod.fst (Prod.snd (Prod.snd x)))) : Int) - IntKind.wrap IntKind.i64 (Prod.snd (Prod.snd (Prod.snd (Prod.snd x))) + (1 : Int))) < Int.toNat ((↑(List.length (Prod.fst (Prod.snd (Prod.snd x)))) : Int) - Prod.snd (Prod.snd (Prod.snd (Prod.snd x)))))) (Q (SV.tup [SV.agg [SV.int IntKind.i64 (Vec.X (Hit.Way (Prod.fst (Prod.snd x)))), SV.int IntKind.i64 (Vec.Y (Hit.Way (Prod.fst (Prod.snd x)))), SV.int IntKind.i64 (Hit.Deep (Prod.fst (Prod.snd x)))], SV.bool true]) []))) := by kernel_rfl

theorem ok_implBoxes : FsOk Try.prog 172 fs_implBoxes := fsOk_of tt_ok (tabFs_cons ok_implMeets tabFs_nil) mixed Try.func172 (by kernel_rfl) (by kernel_rfl) (by
    intro args LL p r HH h hp
    unfold fs_implBoxes at h
    dsimp only at h
    split at h
    case h_2 => cases h
    rename_i aLX aLY aHX aHY bLX bLY bHX bHY
    simp only [Option.some.injEq, Prod.mk.injEq] at h
    obtain ⟨rfl, rfl, rfl⟩ := h
    refine ⟨by simp [Form, stays], (L_boxes), ?_⟩
    rw [vc_implBoxes]
    try dsimp only
    refine ifB_of (fun c => ?_) (fun c => ?_)
    · simp [boxesF, not_true c]
    have c := not_false c
    refine ⟨⟨(by trivial), (by trivial), by omega, by omega, (by trivial), by simp⟩, ?_⟩
    rintro ⟨z, best, hs, n, i⟩ ⟨h⟩
    dsimp only at h ⊢
    obtain ⟨e1, e2, i0, i1, i2, i3⟩ := h
    have w : IntKind.i64.wrap (i + 1) = i + 1 := wrap_small (by omega) (by omega)
    have ht : (i + 1).toNat = i.toNat + 1 := by omega
    rw [w, ht]
    refine ifB_of (fun c3 => ?_) (fun c3 => ?_)
    · have c3 := of_decide_eq_true c3
      rw [← e1] at i2 i1 i3 e2
      have hd := drop_ix (T := .hit) (xs := hs) (i := i.toNat) (by omega)
      rw [hd, List.foldl_cons] at i2
      refine ⟨⟨i0, by omega⟩, ifB_of (fun c4 => ?_) (fun c4 => ?_)⟩
      · have e : less2 best (Ty.ix .hit hs i.toNat) = Ty.ix .hit hs i.toNat := by
          unfold less2
          rw [c4]
          rfl
        rw [e] at i2
        rw [← e1]
        exact ⟨⟨(by trivial), e2, by omega, by omega, i2, i3⟩, by omega⟩
      · have e : less2 best (Ty.ix .hit hs i.toNat) = best := by
          unfold less2
          rw [c4]
          rfl
        rw [e] at i2
        rw [← e1]
        exact ⟨⟨(by trivial), e2, by omega, by omega, i2, i3⟩, by omega⟩
    · have c3 := of_decide_eq_false c3
      rw [drop_end (by omega)] at i2
      have e : boxesF (Box.mk (Vec.mk aLX aLY) (Vec.mk aHX aHY)) (Box.mk (Vec.mk bLX bLY) (Vec.mk bHX bHY)) = (best, true) := by
        unfold boxesF
        rw [c]
        simp only [cond_true]
        rw [show best = _ from i2]
        rfl
      rw [e]
      exact ⟨(by trivial), (by trivial)⟩)

theorem mixed_no {b : Box} {p : Vec} {w : Int} (h : (mixedF b p w).2 = false) : (mixedF b p w).1 = ⟨⟨0, 0⟩, 0⟩ := by
  unfold mixedF at h ⊢
  cases q : hasPoint b p with
  | true =>
    rw [q] at h
    have hm : boxMeets b ⟨p, p⟩ = true := by
      simp only [hasPoint, isIn, Bool.and_eq_true, decide_eq_true_eq] at q
      simp only [boxMeets, Bool.and_eq_true, decide_eq_true_eq]
      omega
    simp only [cond_true, boxesF, hm] at h
    cases h
  | false =>
    rw [q] at h
    simp only [cond_false] at h ⊢
    unfold roundsF at h ⊢
    split
    · rfl
    · rename_i q2
      rw [if_neg q2] at h
      cases h
noncomputable def fs_implBoxRound : Fs := ⟨[], fun args H => match args, H with
  | [.agg [.int .i64 bLX, .int .i64 bLY, .int .i64 bHX, .int .i64 bHY], .agg [.int .i64 pX, .int .i64 pY], .int .i64 w], [] => some ((some (1 ≤ w ∧ w ≤ 25600)), .tup [.agg [.int .i64 ((mixedF (Box.mk (Vec.mk bLX bLY) (Vec.mk bHX bHY)) (Vec.mk pX pY) w).1).Way.X, .int .i64 ((mixedF (Box.mk (Vec.mk bLX bLY) (Vec.mk bHX bHY)) (Vec.mk pX pY) w).1).Way.Y, .int .i64 ((mixedF (Box.mk (Vec.mk bLX bLY) (Vec.mk bHX bHY)) (Vec.mk pX pY) w).1).Deep], .bool ((mixedF (Box.mk (Vec.mk bLX bLY) (Vec.mk bHX bHY)) (Vec.mk pX pY) w).2)], [])
  | _, _ => none⟩

theorem vc_implBoxRound (bLX : Int) (bLY : Int) (bHX : Int) (bHY : Int) (pX : Int) (pY : Int) (w : Int) (Q : SV → List Ent → Prop) :
    fnVC tt (look [(194, fs_implHasPoint), (195, fs_implNear), (171, fs_implRounds), (172, fs_implBoxes)]) L0 Try.f173 [.agg [.int .i64 bLX, .int .i64 bLY, .int .i64 bHX, .int .i64 bHY], .agg [.int .i64 pX, .int .i64 pY], .int .i64 w] [] Q =
    (ifB (!hasPoint (Box.mk (Vec.mk bLX bLY) (Vec.mk bHX bHY)) (Vec.mk pX pY)) (Q (SV.tup [SV.agg [SV.int IntKind.i64 (Vec.X (Hit.Way (Prod.fst (roundsF (minus (Vec.mk pX pY) (nearV (Box.mk (Vec.mk bLX bLY) (Vec.mk bHX bHY)) (Vec.mk pX pY))) (W ((0 : Int) + w)))))), SV.int IntKind.i64 (Vec.Y (Hit.Way (Prod.fst (roundsF (minus (Vec.mk pX pY) (nearV (Box.mk (Vec.mk bLX bLY) (Vec.mk bHX bHY)) (Vec.mk pX pY))) (W ((0 : Int) + w)))))), SV.int IntKind.i64 (Hit.Deep (Prod.fst (roundsF (minus (Vec.mk pX pY) (nearV (Box.mk (Vec.mk bLX bLY) (Vec.mk bHX bHY)) (Vec.mk pX pY))) (W ((0 : Int) + w)))))], SV.bool (Prod.snd (roundsF (minus (Vec.mk pX pY) (nearV (Box.mk (Vec.mk bLX bLY) (Vec.mk bHX bHY)) (Vec.mk pX pY))) (W ((0 : Int) + w))))]) []) (Q (SV.tup [SV.agg [SV.int IntKind.i64 (Vec.X (Hit.Way (Prod.fst (boxesF (Box.mk (Vec.mk bLX bLY) (Vec.mk bHX bHY)) (Box.mk (Vec.mk pX pY) (Vec.mk pX pY)))))), SV.int IntKind.i64 (Vec.Y (Hit.Way (Prod.fst (boxesF (Box.mk (Vec.mk bLX bLY) (Vec.mk bHX bHY)) (Box.mk (Vec.mk pX pY) (Vec.mk pX pY)))))), SV.int IntKind.i64 (IntKind.wrap IntKind.i64 (Hit.Deep (Prod.fst (boxesF (Box.mk (Vec.mk bLX bLY) (Vec.mk bHX bHY)) (Box.mk (Vec.mk pX pY) (Vec.mk pX pY)))) + w))], SV.bool (Prod.snd (boxesF (Box.mk (Vec.mk bLX bLY) (Vec.mk bHX bHY)) (Box.mk (Vec.mk pX pY) (Vec.mk pX pY))))]) [])) := by kernel_rfl

theorem ok_implBoxRound : FsOk Try.prog 173 fs_implBoxRound := fsOk_of tt_ok (tabFs_cons ok_implHasPoint (tabFs_cons ok_implNear (tabFs_cons ok_implRounds (tabFs_cons ok_implBoxes tabFs_nil)))) mixed Try.func173 (by kernel_rfl) (by kernel_rfl) (by
    intro args LL p r HH h hp
    unfold fs_implBoxRound at h
    dsimp only at h
    split at h
    case h_2 => cases h
    rename_i bLX bLY bHX bHY pX pY w
    simp only [Option.some.injEq, Prod.mk.injEq] at h
    obtain ⟨rfl, rfl, rfl⟩ := h
    refine ⟨by simp [Form, stays], L0, ?_⟩
    rw [vc_implBoxRound]
    try dsimp only
    obtain ⟨h1, h2⟩ := hp _ rfl
    have e : W (0 + w) = w := by rw [Int.zero_add]; exact wrap_small (by omega) (by omega)
    rw [e]
    refine ifB_of (fun c => ?_) (fun c => ?_)
    · have c : hasPoint ⟨⟨bLX, bLY⟩, ⟨bHX, bHY⟩⟩ ⟨pX, pY⟩ = false := not_true c
      simp only [mixedF, c, cond_false]
      exact ⟨(by trivial), (by trivial)⟩
    · have c : hasPoint ⟨⟨bLX, bLY⟩, ⟨bHX, bHY⟩⟩ ⟨pX, pY⟩ = true := not_false c
      simp only [mixedF, c, cond_true]
      exact ⟨(by trivial), (by trivial)⟩)

noncomputable def touchI (a : Shape) (p : Vec) (b : Shape) (q : Vec) : Hit × Bool :=
  bif a.Kind == 1 && b.Kind == 1 then roundsF (minus q p) (W (a.Wide + b.Wide))
  else bif a.Kind == 2 && b.Kind == 2 then boxesF (bounds a p) (bounds b q)
  else bif a.Kind == 2 then mixedF (bounds a p) q b.Wide
  else (turnH (mixedF (bounds b q) p a.Wide).1, (mixedF (bounds b q) p a.Wide).2)
theorem touchI_eq (a : Shape) (p : Vec) (b : Shape) (q : Vec) : touchF a p b q = touchI a p b q := by
  unfold touchF touchI
  congr 3
  have hn := mixed_no (b := bounds b q) (p := p) (w := a.Wide)
  generalize mixedF (bounds b q) p a.Wide = u at *
  obtain ⟨h, ok⟩ := u
  cases ok with
  | true => rfl
  | false =>
    have := hn rfl
    dsimp only at this
    subst this
    rfl
noncomputable def fs_implTouch : Fs := ⟨[], fun args H => match args, H with
  | [.agg [.int .i64 aK, .int .i64 aW, .int .i64 aH], .agg [.int .i64 pX, .int .i64 pY], .agg [.int .i64 bK, .int .i64 bW, .int .i64 bH], .agg [.int .i64 qX, .int .i64 qY]], [] => some (none, .tup [.agg [.int .i64 ((touchAll (Shape.mk aK aW aH) (Vec.mk pX pY) (Shape.mk bK bW bH) (Vec.mk qX qY)).1).Way.X, .int .i64 ((touchAll (Shape.mk aK aW aH) (Vec.mk pX pY) (Shape.mk bK bW bH) (Vec.mk qX qY)).1).Way.Y, .int .i64 ((touchAll (Shape.mk aK aW aH) (Vec.mk pX pY) (Shape.mk bK bW bH) (Vec.mk qX qY)).1).Deep], .bool ((touchAll (Shape.mk aK aW aH) (Vec.mk pX pY) (Shape.mk bK bW bH) (Vec.mk qX qY)).2)], [])
  | _, _ => none⟩

theorem vc_implTouch (aK : Int) (aW : Int) (aH : Int) (pX : Int) (pY : Int) (bK : Int) (bW : Int) (bH : Int) (qX : Int) (qY : Int) (Q : SV → List Ent → Prop) :
    fnVC tt (look [(120, fs_implShapeOk), (121, fs_isPlace), (171, fs_implRounds), (172, fs_implBoxes), (124, fs_implBounds), (173, fs_implBoxRound), (107, fs_implOpposite)]) L0 Try.f140 [.agg [.int .i64 aK, .int .i64 aW, .int .i64 aH], .agg [.int .i64 pX, .int .i64 pY], .agg [.int .i64 bK, .int .i64 bW, .int .i64 bH], .agg [.int .i64 qX, .int .i64 qY]] [] Q =
    (let A4_ := (roundsF (minus (Vec.mk qX qY) (Vec.mk pX pY)) (W (aW + bW))); let A3_ := (boxesF (bounds (Shape.mk aK aW aH) (Vec.mk pX pY)) (bounds (Shape.mk bK bW bH) (Vec.mk qX qY))); let A2_ := (mixedF (bounds (Shape.mk bK bW bH) (Vec.mk qX qY)) (Vec.mk pX pY) aW); let A1_ := (mixedF (bounds (Shape.mk aK aW aH) (Vec.mk pX pY)) (Vec.mk qX qY) bW); ifB (!shapeOk (Shape.mk aK aW aH)) (Q (SV.tup [SV.agg [SV.int IntKind.i64 (0 : Int), SV.int IntKind.i64 (0 : Int), SV.int IntKind.i64 (0 : Int)], SV.bool false]) []) (ifB (!shapeOk (Shape.mk bK bW bH)) (Q (SV.tup [SV.agg [SV.int IntKind.i64 (0 : Int), SV.int IntKind.i64 (0 : Int), SV.int IntKind.i64 (0 : Int)], SV.bool false]) []) (ifB (!placeOk (Vec.mk pX pY)) (Q (SV.tup [SV.agg [SV.int IntKind.i64 (0 : Int), SV.int IntKind.i64 (0 : Int), SV.int IntKind.i64 (0 : Int)], SV.bool false]) []) (ifB (!placeOk (Vec.mk qX qY)) (Q (SV.tup [SV.agg [SV.int IntKind.i64 (0 : Int), SV.int IntKind.i64 (0 : Int), SV.int IntKind.i64 (0 : Int)], SV.bool false]) []) (ifB (aK == (1 : Int)) (ifB (bK == (1 : Int)) (Q (SV.tup [SV.agg [SV.int IntKind.i64 (Vec.X (Hit.Way (Prod.fst A4_))), SV.int IntKind.i64 (Vec.Y (Hit.Way (Prod.fst A4_))), SV.int IntKind.i64 (Hit.Deep (Prod.fst A4_))], SV.bool (Prod.snd A4_)]) []) (ifB (aK == (2 : Int)) (ifB (bK == (2 : Int)) (Q (SV.tup [SV.agg [SV.int IntKind.i64 (Vec.X (Hit.Way (Prod.fst A3_))), SV.int IntKind.i64 (Vec.Y (Hit.Way (Prod.fst A3_))), SV.int IntKind.i64 (Hit.Deep (Prod.fst A3_))], SV.bool (Prod.snd A3_)]) []) (ifB (aK == (2 : Int)) (((1 : Int) ≤ bW ∧ bW ≤ (25600 : Int)) ∧ Q (SV.tup [SV.agg [SV.int IntKind.i64 (Vec.X (Hit.Way (Prod.fst A1_))), SV.int IntKind.i64 (Vec.Y (Hit.Way (Prod.fst A1_))), SV.int IntKind.i64 (Hit.Deep (Prod.fst A1_))], SV.bool (Prod.snd A1_)]) []) (((1 : Int) ≤ aW ∧ aW ≤ (25600 : Int)) ∧ Q (SV.tup [SV.agg [SV.int IntKind.i64 (W ((0 : Int) - Vec.X (Hit.Way (Prod.fst A2_)))), SV.int IntKind.i64 (W ((0 : Int) - Vec.Y (Hit.Way (Prod.fst A2_)))), SV.int IntKind.i64 (Hit.Deep (Prod.fst A2_))], SV.bool (Prod.snd A2_)]) []))) (ifB (aK == (2 : Int)) (((1 : Int) ≤ bW ∧ bW ≤ (25600 : Int)) ∧ Q (SV.tup [SV.agg [SV.int IntKind.i64 (Vec.X (Hit.Way (Prod.fst A1_))), SV.int IntKind.i64 (Vec.Y (Hit.Way (Prod.fst A1_))), SV.int IntKind.i64 (Hit.Deep (Prod.fst A1_))], SV.bool (Prod.snd A1_)]) []) (((1 : Int) ≤ aW ∧ aW ≤ (25600 : Int)) ∧ Q (SV.tup [SV.agg [SV.int IntKind.i64 (W ((0 : Int) - Vec.X (Hit.Way (Prod.fst A2_)))), SV.int IntKind.i64 (W ((0 : Int) - Vec.Y (Hit.Way (Prod.fst A2_)))), SV.int IntKind.i64 (Hit.Deep (Prod.fst A2_))], SV.bool (Prod.snd A2_)]) [])))) (ifB (aK == (2 : Int)) (ifB (bK == (2 : Int)) (Q (SV.tup [SV.agg [SV.int IntKind.i64 (Vec.X (Hit.Way (Prod.fst A3_))), SV.int IntKind.i64 (Vec.Y (Hit.Way (Prod.fst A3_))), SV.int IntKind.i64 (Hit.Deep (Prod.fst A3_))], SV.bool (Prod.snd A3_)]) []) (ifB (aK == (2 : Int)) (((1 : Int) ≤ bW ∧ bW ≤ (25600 : Int)) ∧ Q (SV.tup [SV.agg [SV.int IntKind.i64 (Vec.X (Hit.Way (Prod.fst A1_))), SV.int IntKind.i64 (Vec.Y (Hit.Way (Prod.fst A1_))), SV.int IntKind.i64 (Hit.Deep (Prod.fst A1_))], SV.bool (Prod.snd A1_)]) []) (((1 : Int) ≤ aW ∧ aW ≤ (25600 : Int)) ∧ Q (SV.tup [SV.agg [SV.int IntKind.i64 (W ((0 : Int) - Vec.X (Hit.Way (Prod.fst A2_)))), SV.int IntKind.i64 (W ((0 : Int) - Vec.Y (Hit.Way (Prod.fst A2_)))), SV.int IntKind.i64 (Hit.Deep (Prod.fst A2_))], SV.bool (Prod.snd A2_)]) []))) (ifB (aK == (2 : Int)) (((1 : Int) ≤ bW ∧ bW ≤ (25600 : Int)) ∧ Q (SV.tup [SV.agg [SV.int IntKind.i64 (Vec.X (Hit.Way (Prod.fst A1_))), SV.int IntKind.i64 (Vec.Y (Hit.Way (Prod.fst A1_))), SV.int IntKind.i64 (Hit.Deep (Prod.fst A1_))], SV.bool (Prod.snd A1_)]) []) (((1 : Int) ≤ aW ∧ aW ≤ (25600 : Int)) ∧ Q (SV.tup [SV.agg [SV.int IntKind.i64 (W ((0 : Int) - Vec.X (Hit.Way (Prod.fst A2_)))), SV.int IntKind.i64 (W ((0 : Int) - Vec.Y (Hit.Way (Prod.fst A2_)))), SV.int IntKind.i64 (Hit.Deep (Prod.fst A2_))], SV.bool (Prod.snd A2_)]) [])))))))) := by kernel_rfl

theorem ok_implTouch : FsOk Try.prog 140 fs_implTouch := fsOk_of tt_ok (tabFs_cons ok_implShapeOk (tabFs_cons ok_isPlace (tabFs_cons ok_implRounds (tabFs_cons ok_implBoxes (tabFs_cons ok_implBounds (tabFs_cons ok_implBoxRound (tabFs_cons ok_implOpposite tabFs_nil))))))) mixed Try.func140 (by kernel_rfl) (by kernel_rfl) (by
    intro args LL p r HH h hp
    unfold fs_implTouch at h
    dsimp only at h
    split at h
    case h_2 => cases h
    rename_i aK aW aH pX pY bK bW bH qX qY
    simp only [Option.some.injEq, Prod.mk.injEq] at h
    obtain ⟨rfl, rfl, rfl⟩ := h
    refine ⟨by simp [Form, stays], L0, ?_⟩
    rw [vc_implTouch]
    try dsimp only
    refine ifB_of (fun c => ?_) (fun c => ifB_of (fun c2 => ?_) (fun c2 => ifB_of (fun c3 => ?_) (fun c3 => ifB_of (fun c4 => ?_) (fun c4 => ?_))))
    · simp [touchAll, not_true c]
    · simp [touchAll, not_true c2]
    · simp [touchAll, not_true c3]
    · simp [touchAll, not_true c4]
    have ha := shapeOk_le (not_false c)
    have hb := shapeOk_le (not_false c2)
    dsimp only at ha hb
    simp only [touchAll, not_false c, not_false c2, not_false c3, not_false c4, Bool.and_self, cond_true]
    rw [touchI_eq]
    unfold touchI
    clear hp
    repeat' (first | refine ifB_of (fun c => ?_) (fun c => ?_) | refine pre_of (by omega) (fun _ => ?_) | fail)
    all_goals
      first
        | (simp only [*, cond_true, cond_false, Bool.true_and, Bool.false_and, Bool.and_true, Bool.and_false, and_self, true_and]; done)
        | (exfalso; simp_all; done)
        | (simp_all [turnH]; done))

noncomputable def fs_implBodyTouch : Fs := ⟨[], fun args H => match args, H with
  | [.agg [.int .i64 aI, .int .i64 aK, .int .i64 aW, .int .i64 aH, .int .i64 aX, .int .i64 aY, .int .i64 aU, .int .i64 aV, .int .i64 aM, .int .i64 aB, .int .i64 aR, .int .i64 aQ], .agg [.int .i64 bI, .int .i64 bK, .int .i64 bW, .int .i64 bH, .int .i64 bX, .int .i64 bY, .int .i64 bU, .int .i64 bV, .int .i64 bM, .int .i64 bB, .int .i64 bR, .int .i64 bQ]], [] => some (none, .tup [.agg [.int .i64 ((touchAll (Body.mk aI (Shape.mk aK aW aH) (Vec.mk aX aY) (Vec.mk aU aV) aM aB aR aQ).Shape (Body.mk aI (Shape.mk aK aW aH) (Vec.mk aX aY) (Vec.mk aU aV) aM aB aR aQ).At (Body.mk bI (Shape.mk bK bW bH) (Vec.mk bX bY) (Vec.mk bU bV) bM bB bR bQ).Shape (Body.mk bI (Shape.mk bK bW bH) (Vec.mk bX bY) (Vec.mk bU bV) bM bB bR bQ).At).1).Way.X, .int .i64 ((touchAll (Body.mk aI (Shape.mk aK aW aH) (Vec.mk aX aY) (Vec.mk aU aV) aM aB aR aQ).Shape (Body.mk aI (Shape.mk aK aW aH) (Vec.mk aX aY) (Vec.mk aU aV) aM aB aR aQ).At (Body.mk bI (Shape.mk bK bW bH) (Vec.mk bX bY) (Vec.mk bU bV) bM bB bR bQ).Shape (Body.mk bI (Shape.mk bK bW bH) (Vec.mk bX bY) (Vec.mk bU bV) bM bB bR bQ).At).1).Way.Y, .int .i64 ((touchAll (Body.mk aI (Shape.mk aK aW aH) (Vec.mk aX aY) (Vec.mk aU aV) aM aB aR aQ).Shape (Body.mk aI (Shape.mk aK aW aH) (Vec.mk aX aY) (Vec.mk aU aV) aM aB aR aQ).At (Body.mk bI (Shape.mk bK bW bH) (Vec.mk bX bY) (Vec.mk bU bV) bM bB bR bQ).Shape (Body.mk bI (Shape.mk bK bW bH) (Vec.mk bX bY) (Vec.mk bU bV) bM bB bR bQ).At).1).Deep], .bool ((touchAll (Body.mk aI (Shape.mk aK aW aH) (Vec.mk aX aY) (Vec.mk aU aV) aM aB aR aQ).Shape (Body.mk aI (Shape.mk aK aW aH) (Vec.mk aX aY) (Vec.mk aU aV) aM aB aR aQ).At (Body.mk bI (Shape.mk bK bW bH) (Vec.mk bX bY) (Vec.mk bU bV) bM bB bR bQ).Shape (Body.mk bI (Shape.mk bK bW bH) (Vec.mk bX bY) (Vec.mk bU bV) bM bB bR bQ).At).2)], [])
  | _, _ => none⟩

theorem vc_implBodyTouch (aI : Int) (aK : Int) (aW : Int) (aH : Int) (aX : Int) (aY : Int) (aU : Int) (aV : Int) (aM : Int) (aB : Int) (aR : Int) (aQ : Int) (bI : Int) (bK : Int) (bW : Int) (bH : Int) (bX : Int) (bY : Int) (bU : Int) (bV : Int) (bM : Int) (bB : Int) (bR : Int) (bQ : Int) (Q : SV → List Ent → Prop) :
    fnVC tt (look [(140, fs_implTouch)]) L0 Try.f87 [.agg [.int .i64 aI, .int .i64 aK, .int .i64 aW, .int .i64 aH, .int .i64 aX, .int .i64 aY, .int .i64 aU, .int .i64 aV, .int .i64 aM, .int .i64 aB, .int .i64 aR, .int .i64 aQ], .agg [.int .i64 bI, .int .i64 bK, .int .i64 bW, .int .i64 bH, .int .i64 bX, .int .i64 bY, .int .i64 bU, .int .i64 bV, .int .i64 bM, .int .i64 bB, .int .i64 bR, .int .i64 bQ]] [] Q =
    (Q (SV.tup [SV.agg [SV.int IntKind.i64 (Vec.X (Hit.Way (Prod.fst (touchAll (Shape.mk aK aW aH) (Vec.mk aX aY) (Shape.mk bK bW bH) (Vec.mk bX bY))))), SV.int IntKind.i64 (Vec.Y (Hit.Way (Prod.fst (touchAll (Shape.mk aK aW aH) (Vec.mk aX aY) (Shape.mk bK bW bH) (Vec.mk bX bY))))), SV.int IntKind.i64 (Hit.Deep (Prod.fst (touchAll (Shape.mk aK aW aH) (Vec.mk aX aY) (Shape.mk bK bW bH) (Vec.mk bX bY))))], SV.bool (Prod.snd (touchAll (Shape.mk aK aW aH) (Vec.mk aX aY) (Shape.mk bK bW bH) (Vec.mk bX bY)))]) []) := by kernel_rfl

theorem ok_implBodyTouch : FsOk Try.prog 87 fs_implBodyTouch := fsOk_of tt_ok (tabFs_cons ok_implTouch tabFs_nil) mixed Try.func87 (by kernel_rfl) (by kernel_rfl) (by
    intro args LL p r HH h hp
    unfold fs_implBodyTouch at h
    dsimp only at h
    split at h
    case h_2 => cases h
    rename_i aI aK aW aH aX aY aU aV aM aB aR aQ bI bK bW bH bX bY bU bV bM bB bR bQ
    simp only [Option.some.injEq, Prod.mk.injEq] at h
    obtain ⟨rfl, rfl, rfl⟩ := h
    refine ⟨by simp [Form, stays], L0, ?_⟩
    rw [vc_implBodyTouch]
    try dsimp only
    exact ⟨(by trivial), (by trivial)⟩)


/-! ### All that touch -/
noncomputable def touchB (a b : Body) : Hit × Bool := touchAll a.Shape a.At b.Shape b.At
noncomputable def conAt (xs : List Body) (i k : Nat) : List Contact :=
  bif (Ty.ix .body xs i).Mass == 0 && (Ty.ix .body xs k).Mass == 0 then [] else bif (touchB (Ty.ix .body xs i) (Ty.ix .body xs k)).2 then [⟨i, k, (touchB (Ty.ix .body xs i) (Ty.ix .body xs k)).1⟩] else []
/-- With the last m of a list. -/
noncomputable def conRow (xs : List Body) (i : Nat) : Nat → List Contact
  | 0 => []
  | m + 1 => conAt xs i (xs.length - (m + 1)) ++ conRow xs i m
noncomputable def conAll (xs : List Body) : Nat → List Contact
  | 0 => []
  | m + 1 => conRow xs (xs.length - (m + 1)) m ++ conAll xs m
noncomputable def contactsF (xs : List Body) : List Contact := conAll xs xs.length
noncomputable def contactsOf (xs : List Body) : List Contact := bif bodiesOk xs then contactsF xs else []
theorem length_conAt (xs : List Body) (i k : Nat) : (conAt xs i k).length ≤ 1 := by
  unfold conAt
  cases (Ty.ix .body xs i).Mass == 0 && (Ty.ix .body xs k).Mass == 0 <;> cases (touchB (Ty.ix .body xs i) (Ty.ix .body xs k)).2 <;> simp
theorem length_conRow (xs : List Body) (i : Nat) : ∀ m, (conRow xs i m).length ≤ m
  | 0 => by simp [conRow]
  | m + 1 => by
    have h1 := length_conAt xs i (xs.length - (m + 1))
    have h2 := length_conRow xs i m
    simp only [conRow, List.length_append]
    omega
theorem length_conAll (xs : List Body) : ∀ m, (conAll xs m).length ≤ m * m
  | 0 => by simp [conAll]
  | m + 1 => by
    have h1 := length_conRow xs (xs.length - (m + 1)) m
    have h2 := length_conAll xs m
    simp only [conAll, List.length_append, Nat.add_mul, Nat.mul_add, Nat.one_mul, Nat.mul_one]
    omega
theorem length_contactsF {xs : List Body} (h : xs.length ≤ 12) : (contactsF xs).length ≤ 144 := by
  have h1 := length_conAll xs xs.length
  have h2 : xs.length * xs.length ≤ 12 * 12 := Nat.mul_le_mul h h
  unfold contactsF
  omega
theorem length_contactsOf (xs : List Body) : (contactsOf xs).length ≤ 144 := by
  unfold contactsOf
  cases h : bodiesOk xs with
  | true => exact length_contactsF (bodiesOk_len h)
  | false => simp
theorem conRow_at {xs : List Body} {i k : Nat} (h : k < xs.length) : conRow xs i (xs.length - k) = conAt xs i k ++ conRow xs i (xs.length - (k + 1)) := by
  have e : xs.length - k = (xs.length - (k + 1)) + 1 := by omega
  rw [e, conRow]
  congr 2
  omega
theorem conAll_at {xs : List Body} {i : Nat} (h : i < xs.length) : conAll xs (xs.length - i) = conRow xs i (xs.length - (i + 1)) ++ conAll xs (xs.length - (i + 1)) := by
  have e : xs.length - i = (xs.length - (i + 1)) + 1 := by omega
  rw [e, conAll]
  congr 2
  omega
/-- One that touches. -/
def isCt (xs : List Body) (c : Contact) : Prop := ∃ i k : Nat, i < k ∧ k < xs.length ∧ c = ⟨i, k, (touchB (Ty.ix .body xs i) (Ty.ix .body xs k)).1⟩ ∧ (touchB (Ty.ix .body xs i) (Ty.ix .body xs k)).2 = true ∧ ¬ ((Ty.ix .body xs i).Mass = 0 ∧ (Ty.ix .body xs k).Mass = 0)
theorem mem_conAt {xs : List Body} {i k : Nat} {c : Contact} (h : c ∈ conAt xs i k) : c = ⟨i, k, (touchB (Ty.ix .body xs i) (Ty.ix .body xs k)).1⟩ ∧ (touchB (Ty.ix .body xs i) (Ty.ix .body xs k)).2 = true ∧ ¬ ((Ty.ix .body xs i).Mass = 0 ∧ (Ty.ix .body xs k).Mass = 0) := by
  unfold conAt at h
  cases q : (Ty.ix .body xs i).Mass == 0 && (Ty.ix .body xs k).Mass == 0 with
  | true => rw [q] at h; simp at h
  | false =>
    cases q2 : (touchB (Ty.ix .body xs i) (Ty.ix .body xs k)).2 with
    | true =>
      rw [q, q2] at h
      simp only [cond_true, cond_false, List.mem_singleton] at h
      refine ⟨h, rfl, fun e => ?_⟩
      rw [e.1, e.2] at q
      simp at q
    | false => rw [q, q2] at h; simp at h
theorem mem_conRow {xs : List Body} {i : Nat} {c : Contact} : ∀ {m : Nat}, i < xs.length - m → m ≤ xs.length → c ∈ conRow xs i m → isCt xs c
  | 0, _, _, h => by simp [conRow] at h
  | m + 1, hi, hm, h => by
    simp only [conRow, List.mem_append] at h
    rcases h with h | h
    · obtain ⟨h1, h2, h3⟩ := mem_conAt h
      exact ⟨i, xs.length - (m + 1), by omega, by omega, h1, h2, h3⟩
    · exact mem_conRow (by omega) (by omega) h
theorem mem_conAll {xs : List Body} {c : Contact} : ∀ {m : Nat}, m ≤ xs.length → c ∈ conAll xs m → isCt xs c
  | 0, _, h => by simp [conAll] at h
  | m + 1, hm, h => by
    simp only [conAll, List.mem_append] at h
    rcases h with h | h
    · exact mem_conRow (by omega) (by omega) h
    · exact mem_conAll (by omega) h
theorem mem_contactsF {xs : List Body} {c : Contact} (h : c ∈ contactsF xs) : isCt xs c := mem_conAll (Nat.le_refl _) h
theorem touch_ok {xs : List Body} (h : bodiesOk xs = true) {i k : Nat} (hi : i < xs.length) (hk : k < xs.length) : touchB (Ty.ix .body xs i) (Ty.ix .body xs k) = touchF (Ty.ix .body xs i).Shape (Ty.ix .body xs i).At (Ty.ix .body xs k).Shape (Ty.ix .body xs k).At ∧
    shapeOk (Ty.ix .body xs i).Shape = true ∧ placeOk (Ty.ix .body xs i).At = true ∧ shapeOk (Ty.ix .body xs k).Shape = true ∧ placeOk (Ty.ix .body xs k).At = true := by
  have h1 := bodiesOk_each h hi
  have h2 := bodiesOk_each h hk
  simp only [bodyOk, Bool.and_eq_true] at h1 h2
  have a1 := h1.1.1.1.1.1.1.1.2
  have a2 := h1.1.1.1.1.1.1.2
  have b1 := h2.1.1.1.1.1.1.1.2
  have b2 := h2.1.1.1.1.1.1.2
  exact ⟨by simp [touchB, touchAll, a1, a2, b1, b2], a1, a2, b1, b2⟩
theorem conAt_fix {xs : List Body} {i k : Nat} (h1 : ((Ty.ix .body xs i).Mass == 0) = true) (h2 : ((Ty.ix .body xs k).Mass == 0) = true) : conAt xs i k = [] := by
  simp only [conAt, h1, h2, Bool.and_self, cond_true]
theorem conAt_hit {xs : List Body} {i k : Int} (hi : 0 ≤ i) (hk : 0 ≤ k) (h1 : ((Ty.ix .body xs i.toNat).Mass == 0) = false ∨ ((Ty.ix .body xs k.toNat).Mass == 0) = false) (h2 : (touchB (Ty.ix .body xs i.toNat) (Ty.ix .body xs k.toNat)).2 = true) : conAt xs i.toNat k.toNat = [⟨i, k, (touchB (Ty.ix .body xs i.toNat) (Ty.ix .body xs k.toNat)).1⟩] := by
  have e : ((Ty.ix .body xs i.toNat).Mass == 0 && (Ty.ix .body xs k.toNat).Mass == 0) = false := by
    rcases h1 with h1 | h1 <;> simp [h1]
  simp only [conAt, e, h2, cond_true, cond_false, Int.toNat_of_nonneg hi, Int.toNat_of_nonneg hk]
theorem conAt_miss {xs : List Body} {i k : Nat} (h2 : (touchB (Ty.ix .body xs i) (Ty.ix .body xs k)).2 = false) : conAt xs i k = [] := by
  simp only [conAt, h2, cond_false]
  cases (Ty.ix .body xs i).Mass == 0 && (Ty.ix .body xs k).Mass == 0 <;> rfl
def LSsc1  : LS where
  S := List Body × Unit × List Contact × Int
  live := [(0, [none]), (3, [some .contact]), (4, [none])]
  shape := fun s => ([.vec 0, .vec 1, .int .i64 s.2.2.2], [(false, .vec .body s.1), (true, .vec .contact s.2.2.1)])
  get := fun v h => match v, h with
    | [.vec 0, .vec 1, .int .i64 i], [(false, .vec .body xs), (true, .vec .contact out)] => some (xs, (), out, i)
    | _, _ => none
  inv := fun s0 s => Holds (s.1 = s0.1 ∧ 0 ≤ s.2.2.2 ∧ s.2.2.2 ≤ s0.1.length ∧ s.2.2.1 ++ conAll s0.1 (s0.1.length - s.2.2.2.toNat) = conAll s0.1 s0.1.length)
  mu := fun s => ((s.1.length : Int) - s.2.2.2).toNat
  ok := by
    intro v h s hg
    try dsimp only at hg
    split at hg <;> cases hg
    rfl

def LSsc2  : LS where
  S := List Body × Unit × List Contact × Int × Int
  live := [(0, [none]), (3, [some .contact]), (4, [none]), (5, [none])]
  shape := fun s => ([.vec 0, .vec 1, .int .i64 s.2.2.2.1, .int .i64 s.2.2.2.2], [(false, .vec .body s.1), (true, .vec .contact s.2.2.1)])
  get := fun v h => match v, h with
    | [.vec 0, .vec 1, .int .i64 i, .int .i64 k], [(false, .vec .body xs), (true, .vec .contact out)] => some (xs, (), out, i, k)
    | _, _ => none
  inv := fun s0 s => Holds (s.1 = s0.1 ∧ s.2.2.2.1 = s0.2.2.2.1 ∧ s0.2.2.2.1 < s.2.2.2.2 ∧ s.2.2.2.2 ≤ s0.1.length ∧ s.2.2.1 ++ conRow s0.1 s0.2.2.2.1.toNat (s0.1.length - s.2.2.2.2.toNat) = s0.2.2.1 ++ conRow s0.1 s0.2.2.2.1.toNat (s0.1.length - s0.2.2.2.2.toNat))
  mu := fun s => ((s.1.length : Int) - s.2.2.2.2).toNat
  ok := by
    intro v h s hg
    try dsimp only at hg
    split at hg <;> cases hg
    rfl

def L_specCon : Loops := fun n => match n with
  | 3 => some LSsc1
  | 6 => some LSsc2
  | _ => none
noncomputable def fs_l7Contacts : Fs := ⟨[], fun args H => match args, H with
  | [.vec 0], [(false, .vec .body xs)] => some ((some (bodiesOk xs = true)), .vec 1, [(false, .vec .body xs), (true, .vec .contact (contactsF xs))])
  | _, _ => none⟩

theorem vc_l7Contacts (xs : List Body) (Q : SV → List Ent → Prop) :
    fnVC tt (look [(137, fs_l5Touch)]) (L_specCon) Try.f131 [.vec 0] [(false, .vec .body xs)] Q =
    (Holds (xs = xs ∧ (0 : Int) ≤ (0 : Int) ∧ (0 : Int) ≤ (↑(List.length xs) : Int) ∧ [] ++ conAll xs (List.length xs - Int.toNat (0 : Int)) = conAll xs (List.length xs)) ∧ ∀ (x : List Body × Unit × List Contact × Int), Holds (Prod.fst x = xs ∧ (0 : Int) ≤ Prod.snd (Prod.snd (Prod.snd x)) ∧ Prod.snd (Prod.snd (Prod.snd x)) ≤ (↑(List.length xs) : Int) ∧ Prod.fst (Prod.snd (Prod.snd x)) ++ conAll xs (List.length xs - Int.toNat (Prod.snd (Prod.snd (Prod.snd x)))) = conAll xs (List.length xs)) → ifB (decide (Prod.snd (Prod.snd (Prod.snd x)) < (↑(List.length (Prod.fst x)) : Int))) (Holds (Prod.fst x = Prod.fst x ∧ Prod.snd (Prod.snd (Prod.snd x)) = Prod.snd (Prod.snd (Prod.snd x)) ∧ Prod.snd (Prod.snd (Prod.snd x)) < IntKind.wrap IntKind.i64 (Prod.snd (Prod.snd (Prod.snd x)) + (1 : Int)) ∧ IntKind.wrap IntKind.i64 (Prod.snd (Prod.snd (Prod.snd x)) + (1 : Int)) ≤ (↑(List.length (Prod.fst x)) : Int) ∧ Prod.fst (Prod.snd (Prod.snd x)) ++ conRow (Prod.fst x) (Int.toNat (Prod.snd (Prod.snd (Prod.snd x)))) (List.length (Prod.fst x) - Int.toNat (IntKind.wrap IntKind.i64 (Prod.snd (Prod.snd (Prod.snd x)) + (1 : Int)))) = Prod.fst (Prod.snd (Prod.snd x)) ++ conRow (Prod.fst x) (Int.toNat (Prod.snd (Prod.snd (Prod.snd x)))) (List.length (Prod.fst x) - Int.toNat (IntKind.wrap IntKind.i64 (Prod.snd (Prod.snd (Prod.snd x)) + (1 : Int))))) ∧ ∀ (x_1 : List Body × Unit × List Contact × Int × Int), Holds (Prod.fst x_1 = Prod.fst x ∧ Prod.fst (Prod.snd (Prod.snd (Prod.snd x_1))) = Prod.snd (Prod.snd (Prod.snd x)) ∧ Prod.snd (Prod.snd (Prod.snd x)) < Prod.snd (Prod.snd (Prod.snd (Prod.snd x_1))) ∧ Prod.snd (Prod.snd (Prod.snd (Prod.snd x_1))) ≤ (↑(List.length (Prod.fst x)) : Int) ∧ Prod.fst (Prod.snd (Prod.snd x_1)) ++ conRow (Prod.fst x) (Int.toNat (Prod.snd (Prod.snd (Prod.snd x)))) (List.length (Prod.fst x) - Int.toNat (Prod.snd (Prod.snd (Prod.snd (Prod.snd x_1))))) = Prod.fst (Prod.snd (Prod.snd x)) ++ conRow (Prod.fst x) (Int.toNat (Prod.snd (Prod.snd (Prod.snd x)))) (List.length (Prod.fst x) - Int.toNat (IntKind.wrap IntKind.i64 (Prod.snd (Prod.snd (Prod.snd x)) + (1 : Int))))) → ifB (decide (Prod.snd (Prod.snd (Prod.snd (Prod.snd x_1))) < (↑(List.length (Prod.fst x_1)) : Int))) (((0 : Int) ≤ Prod.fst (Prod.snd (Prod.snd (Prod.snd x_1))) ∧ Prod.fst (Prod.snd (Prod.snd (Prod.snd x_1))) < (↑(List.length (Prod.fst x_1)) : Int)) ∧ ifB (Body.Mass (Ty.ix Ty.body (Prod.fst x_1) (Int.toNat (Prod.fst (Prod.snd (Prod.snd (Prod.snd x_1)))))) == (0 : Int)) (((0 : Int) ≤ Prod.snd (Prod.snd (Prod.snd (Prod.snd x_1))) ∧ Prod.snd (Prod.snd (Prod.snd (Prod.snd x_1))) < (↑(List.length (Prod.fst x_1)) : Int)) ∧ ifB (Body.Mass (Ty.ix Ty.body (Prod.fst x_1) (Int.toNat (Prod.snd (Prod.snd (Prod.snd (Prod.snd x_1)))))) == (0 : Int)) (Holds (Prod.fst x_1 = Prod.fst x ∧ Prod.fst (Prod.snd (Prod.snd (Prod.snd x_1))) = Prod.snd (Prod.snd (Prod.snd x)) ∧ Prod.snd (Prod.snd (Prod.snd x)) < IntKind.wrap IntKind.i64 (Prod.snd (Prod.snd (Prod.snd (Prod.snd x_1))) + (1 : Int)) ∧ IntKind.wrap IntKind.i64 (Prod.snd (Prod.snd (Prod.snd (Prod.snd x_1))) + (1 : Int)) ≤ (↑(List.length (Prod.fst x)) : Int) ∧ Prod.fst (Prod.snd (Prod.snd x_1)) ++ conRow (Prod.fst x) (Int.toNat (Prod.snd (Prod.snd (Prod.snd x)))) (List.length (Prod.fst x) - Int.toNat (IntKind.wrap IntKind.i64 (Prod.snd (Prod.snd (Prod.snd (Prod.snd x_1))) + (1 : Int)))) = Prod.fst (Prod.snd (Prod.snd x)) ++ conRow (Prod.fst x) (Int.toNat (Prod.snd (Prod.snd (Prod.snd x)))) (List.length (Prod.fst x) - Int.toNat (IntKind.wrap IntKind.i64 (Prod.snd (Prod.snd (Prod.snd x)) + (1 : Int))))) ∧ Int.toNat ((↑(List.length (Prod.fst x_1)) : Int) - IntKind.wrap IntKind.i64 (Prod.snd (Prod.snd (Prod.snd (Prod.snd x_1))) + (1 : Int))) < Int.toNat ((↑(List.length (Prod.fst x_1)) : Int) - Prod.snd (Prod.snd (Prod.snd (Prod.snd x_1))))) (((0 : Int) ≤ Prod.fst (Prod.snd (Prod.snd (Prod.snd x_1))) ∧ Prod.fst (Prod.snd (Prod.snd (Prod.snd x_1))) < (↑(List.length (Prod.fst x_1)) : Int)) ∧ ((0 : Int) ≤ Prod.fst (Prod.snd (Prod.snd (Prod.snd x_1))) ∧ Prod.fst (Prod.snd (Prod.snd (Prod.snd x_1))) < (↑(List.length (Prod.fst x_1)) : Int)) ∧ ((0 : Int) ≤ Prod.snd (Prod.snd (Prod.snd (Prod.snd x_1))) ∧ Prod.snd (Prod.snd (Prod.snd (Prod.snd x_1))) < (↑(List.length (Prod.fst x_1)) : Int)) ∧ ((0 : Int) ≤ Prod.snd (Prod.snd (Prod.snd (Prod.snd x_1))) ∧ Prod.snd (Prod.snd (Prod.snd (Prod.snd x_1))) < (↑(List.length (Prod.fst x_1)) : Int)) ∧ (shapeOk (Body.Shape (Ty.ix Ty.body (Prod.fst x_1) (Int.toNat (Prod.fst (Prod.snd (Prod.snd (Prod.snd x_1))))))) = true ∧ placeOk (Body.At (Ty.ix Ty.body (Prod.fst x_1) (Int.toNat (Prod.fst (Prod.snd (Prod.snd (Prod.snd x_1))))))) = true ∧ shapeOk (Body.Shape (Ty.ix Ty.body (Prod.fst x_1) (Int.toNat (Prod.snd (Prod.snd (Prod.snd (Prod.snd x_1))))))) = true ∧ placeOk (Body.At (Ty.ix Ty.body (Prod.fst x_1) (Int.toNat (Prod.snd (Prod.snd (Prod.snd (Prod.snd x_1))))))) = true) ∧ ifB (Prod.snd (touchF (Body.Shape (Ty.ix Ty.body (Prod.fst x_1) (Int.toNat (Prod.fst (Prod.snd (Prod.snd (Prod.snd x_1))))))) (Body.At (Ty.ix Ty.body (Prod.fst x_1) (Int.toNat (Prod.fst (Prod.snd (Prod.snd (Prod.snd x_1))))))) (Body.Shape (Ty.ix Ty.body (Prod.fst x_1) (Int.toNat (Prod.snd (Prod.snd (Prod.snd (Prod.snd x_1))))))) (Body.At (Ty.ix Ty.body (Prod.fst x_1) (Int.toNat (Prod.snd (Prod.snd (Prod.snd (Prod.snd x_1))))))))) ((List.length (Prod.fst (Prod.snd (Prod.snd x_1))) + List.length [Contact.mk (Prod.fst (Prod.snd (Prod.snd (Prod.snd x_1)))) (Prod.snd (Prod.snd (Prod.snd (Prod.snd x_1)))) (Prod.fst (touchF (Body.Shape (Ty.ix Ty.body (Prod.fst x_1) (Int.toNat (Prod.fst (Prod.snd (Prod.snd (Prod.snd x_1))))))) (Body.At (Ty.ix Ty.body (Prod.fst x_1) (Int.toNat (Prod.fst (Prod.snd (Prod.snd (Prod.snd x_1))))))) (Body.Shape (Ty.ix Ty.body (Prod.fst x_1) (Int.toNat (Prod.snd (Prod.snd (Prod.snd (Prod.snd x_1))))))) (Body.At (Ty.ix Ty.body (Prod.fst x_1) (Int.toNat (Prod.snd (Prod.snd (Prod.snd (Prod.snd x_1)))))))))]) * (40 : Nat) ≤ room ∧ Holds (Prod.fst x_1 = Prod.fst x ∧ Prod.fst (Prod.snd (Prod.snd (Prod.snd x_1))) = Prod.snd (Prod.snd (Prod.snd x)) ∧ Prod.snd (Prod.snd (Prod.snd x)) < IntKind.wrap IntKind.i64 (Prod.snd (Prod.snd (Prod.snd (Prod.snd x_1))) + (1 : Int)) ∧ IntKind.wrap IntKind.i64 (Prod.snd (Prod.snd (Prod.snd (Prod.snd x_1))) + (1 : Int)) ≤ (↑(List.length (Prod.fst x)) : Int) ∧ Prod.fst (Prod.snd (Prod.snd x_1)) ++ [Contact.mk (Prod.fst (Prod.snd (Prod.snd (Prod.snd x_1)))) (Prod.snd (Prod.snd (Prod.snd (Prod.snd x_1)))) (Prod.fst (touchF (Body.Shape (Ty.ix Ty.body (Prod.fst x_1) (Int.toNat (Prod.fst (Prod.snd (Prod.snd (Prod.snd x_1))))))) (Body.At (Ty.ix Ty.body (Prod.fst x_1) (Int.toNat (Prod.fst (Prod.snd (Prod.snd (Prod.snd x_1))))))) (Body.Shape (Ty.ix Ty.body (Prod.fst x_1) (Int.toNat (Prod.snd (Prod.snd (Prod.snd (Prod.snd x_1))))))) (Body.At (Ty.ix Ty.body (Prod.fst x_1) (Int.toNat (Prod.snd (Prod.snd (Prod.snd (Prod.snd x_1)))))))))] ++ conRow (Prod.fst x) (Int.toNat (Prod.snd (Prod.snd (Prod.snd x)))) (List.length (Prod.fst x) - Int.toNat (IntKind.wrap IntKind.i64 (Prod.snd (Prod.snd (Prod.snd (Prod.snd x_1))) + (1 : Int)))) = Prod.fst (Prod.snd (Prod.snd x)) ++ conRow (Prod.fst x) (Int.toNat (Prod.snd (Prod.snd (Prod.snd x)))) (List.length (Prod.fst x) - Int.toNat (IntKind.wrap IntKind.i64 (Prod.snd (Prod.snd (Prod.snd x)) + (1 : Int))))) ∧ Int.toNat ((↑(List.length (Prod.fst x_1)) : Int) - IntKind.wrap IntKind.i64 (Prod.snd (Prod.snd (Prod.snd (Prod.snd x_1))) + (1 : Int))) < Int.toNat ((↑(List.length (Prod.fst x_1)) : Int) - Prod.snd (Prod.snd (Prod.snd (Prod.snd x_1))))) (Holds (Prod.fst x_1 = Prod.fst x ∧ Prod.fst (Prod.snd (Prod.snd (Prod.snd x_1))) = Prod.snd (Prod.snd (Prod.snd x)) ∧ Prod.snd (Prod.snd (Prod.snd x)) < IntKind.wrap IntKind.i64 (Prod.snd (Prod.snd (Prod.snd (Prod.snd x_1))) + (1 : Int)) ∧ IntKind.wrap IntKind.i64 (Prod.snd (Prod.snd (Prod.snd (Prod.snd x_1))) + (1 : Int)) ≤ (↑(List.length (Prod.fst x)) : Int) ∧ Prod.fst (Prod.snd (Prod.snd x_1)) ++ conRow (Prod.fst x) (Int.toNat (Prod.snd (Prod.snd (Prod.snd x)))) (List.length (Prod.fst x) - Int.toNat (IntKind.wrap IntKind.i64 (Prod.snd (Prod.snd (Prod.snd (Prod.snd x_1))) + (1 : Int)))) = Prod.fst (Prod.snd (Prod.snd x)) ++ conRow (Prod.fst x) (Int.toNat (Prod.snd (Prod.snd (Prod.snd x)))) (List.length (Prod.fst x) - Int.toNat (IntKind.wrap IntKind.i64 (Prod.snd (Prod.snd (Prod.snd x)) + (1 : Int))))) ∧ Int.toNat ((↑(List.length (Prod.fst x_1)) : Int) - IntKind.wrap IntKind.i64 (Prod.snd (Prod.snd (Prod.snd (Prod.snd x_1))) + (1 : Int))) < Int.toNat ((↑(List.length (Prod.fst x_1)) : Int) - Prod.snd (Prod.snd (Prod.snd (Prod.snd x_1))))))) (((0 : Int) ≤ Prod.fst (Prod.snd (Prod.snd (Prod.snd x_1))) ∧ Prod.fst (Prod.snd (Prod.snd (Prod.snd x_1))) < (↑(List.length (Prod.fst x_1)) : Int)) ∧ ((0 : Int) ≤ Prod.fst (Prod.snd (Prod.snd (Prod.snd x_1))) ∧ Prod.fst (Prod.snd (Prod.snd (Prod.snd x_1))) < (↑(List.length (Prod.fst x_1)) : Int)) ∧ ((0 : Int) ≤ Prod.snd (Prod.snd (Prod.snd (Prod.snd x_1))) ∧ Prod.snd (Prod.snd (Prod.snd (Prod.snd x_1))) < (↑(List.length (Prod.fst x_1)) : Int)) ∧ ((0 : Int) ≤ Prod.snd (Prod.snd (Prod.snd (Prod.snd x_1))) ∧ Prod.snd (Prod.snd (Prod.snd (Prod.snd x_1))) < (↑(List.length (Prod.fst x_1)) : Int)) ∧ (shapeOk (Body.Shape (Ty.ix Ty.body (Prod.fst x_1) (Int.toNat (Prod.fst (Prod.snd (Prod.snd (Prod.snd x_1))))))) = true ∧ placeOk (Body.At (Ty.ix Ty.body (Prod.fst x_1) (Int.toNat (Prod.fst (Prod.snd (Prod.snd (Prod.snd x_1))))))) = true ∧ shapeOk (Body.Shape (Ty.ix Ty.body (Prod.fst x_1) (Int.toNat (Prod.snd (Prod.snd (Prod.snd (Prod.snd x_1))))))) = true ∧ placeOk (Body.At (Ty.ix Ty.body (Prod.fst x_1) (Int.toNat (Prod.snd (Prod.snd (Prod.snd (Prod.snd x_1))))))) = true) ∧ ifB (Prod.snd (touchF (Body.Shape (Ty.ix Ty.body (Prod.fst x_1) (Int.toNat (Prod.fst (Prod.snd (Prod.snd (Prod.snd x_1))))))) (Body.At (Ty.ix Ty.body (Prod.fst x_1) (Int.toNat (Prod.fst (Prod.snd (Prod.snd (Prod.snd x_1))))))) (Body.Shape (Ty.ix Ty.body (Prod.fst x_1) (Int.toNat (Prod.snd (Prod.snd (Prod.snd (Prod.snd x_1))))))) (Body.At (Ty.ix Ty.body (Prod.fst x_1) (Int.toNat (Prod.snd (Prod.snd (Prod.snd (Prod.snd x_1))))))))) ((List.length (Prod.fst (Prod.snd (Prod.snd x_1))) + List.length [Contact.mk (Prod.fst (Prod.snd (Prod.snd (Prod.snd x_1)))) (Prod.snd (Prod.snd (Prod.snd (Prod.snd x_1)))) (Prod.fst (touchF (Body.Shape (Ty.ix Ty.body (Prod.fst x_1) (Int.toNat (Prod.fst (Prod.snd (Prod.snd (Prod.snd x_1))))))) (Body.At (Ty.ix Ty.body (Prod.fst x_1) (Int.toNat (Prod.fst (Prod.snd (Prod.snd (Prod.snd x_1))))))) (Body.Shape (Ty.ix Ty.body (Prod.fst x_1) (Int.toNat (Prod.snd (Prod.snd (Prod.snd (Prod.snd x_1))))))) (Body.At (Ty.ix Ty.body (Prod.fst x_1) (Int.toNat (Prod.snd (Prod.snd (Prod.snd (Prod.snd x_1)))))))))]) * (40 : Nat) ≤ room ∧ Holds (Prod.fst x_1 = Prod.fst x ∧ Prod.fst (Prod.snd (Prod.snd (Prod.snd x_1))) = Prod.snd (Prod.snd (Prod.snd x)) ∧ Prod.snd (Prod.snd (Prod.snd x)) < IntKind.wrap IntKind.i64 (Prod.snd (Prod.snd (Prod.snd (Prod.snd x_1))) + (1 : Int)) ∧ IntKind.wrap IntKind.i64 (Prod.snd (Prod.snd (Prod.snd (Prod.snd x_1))) + (1 : Int)) ≤ (↑(List.length (Prod.fst x)) : Int) ∧ Prod.fst (Prod.snd (Prod.snd x_1)) ++ [Contact.mk (Prod.fst (Prod.snd (Prod.snd (Prod.snd x_1)))) (Prod.snd (Prod.snd (Prod.snd (Prod.snd x_1)))) (Prod.fst (touchF (Body.Shape (Ty.ix Ty.body (Prod.fst x_1) (Int.toNat (Prod.fst (Prod.snd (Prod.snd (Prod.snd x_1))))))) (Body.At (Ty.ix Ty.body (Prod.fst x_1) (Int.toNat (Prod.fst (Prod.snd (Prod.snd (Prod.snd x_1))))))) (Body.Shape (Ty.ix Ty.body (Prod.fst x_1) (Int.toNat (Prod.snd (Prod.snd (Prod.snd (Prod.snd x_1))))))) (Body.At (Ty.ix Ty.body (Prod.fst x_1) (Int.toNat (Prod.snd (Prod.snd (Prod.snd (Prod.snd x_1)))))))))] ++ conRow (Prod.fst x) (Int.toNat (Prod.snd (Prod.snd (Prod.snd x)))) (List.length (Prod.fst x) - Int.toNat (IntKind.wrap IntKind.i64 (Prod.snd (Prod.snd (Prod.snd (Prod.snd x_1))) + (1 : Int)))) = Prod.fst (Prod.snd (Prod.snd x)) ++ conRow (Prod.fst x) (Int.toNat (Prod.snd (Prod.snd (Prod.snd x)))) (List.length (Prod.fst x) - Int.toNat (IntKind.wrap IntKind.i64 (Prod.snd (Prod.snd (Prod.snd x)) + (1 : Int))))) ∧ Int.toNat ((↑(List.length (Prod.fst x_1)) : Int) - IntKind.wrap IntKind.i64 (Prod.snd (Prod.snd (Prod.snd (Prod.snd x_1))) + (1 : Int))) < Int.toNat ((↑(List.length (Prod.fst x_1)) : Int) - Prod.snd (Prod.snd (Prod.snd (Prod.snd x_1))))) (Holds (Prod.fst x_1 = Prod.fst x ∧ Prod.fst (Prod.snd (Prod.snd (Prod.snd x_1))) = Prod.snd (Prod.snd (Prod.snd x)) ∧ Prod.snd (Prod.snd (Prod.snd x)) < IntKind.wrap IntKind.i64 (Prod.snd (Prod.snd (Prod.snd (Prod.snd x_1))) + (1 : Int)) ∧ IntKind.wrap IntKind.i64 (Prod.snd (Prod.snd (Prod.snd (Prod.snd x_1))) + (1 : Int)) ≤ (↑(List.length (Prod.fst x)) : Int) ∧ Prod.fst (Prod.snd (Prod.snd x_1)) ++ conRow (Prod.fst x) (Int.toNat (Prod.snd (Prod.snd (Prod.snd x)))) (List.length (Prod.fst x) - Int.toNat (IntKind.wrap IntKind.i64 (Prod.snd (Prod.snd (Prod.snd (Prod.snd x_1))) + (1 : Int)))) = Prod.fst (Prod.snd (Prod.snd x)) ++ conRow (Prod.fst x) (Int.toNat (Prod.snd (Prod.snd (Prod.snd x)))) (List.length (Prod.fst x) - Int.toNat (IntKind.wrap IntKind.i64 (Prod.snd (Prod.snd (Prod.snd x)) + (1 : Int))))) ∧ Int.toNat ((↑(List.length (Prod.fst x_1)) : Int) - IntKind.wrap IntKind.i64 (Prod.snd (Prod.snd (Prod.snd (Prod.snd x_1))) + (1 : Int))) < Int.toNat ((↑(List.length (Prod.fst x_1)) : Int) - Prod.snd (Prod.snd (Prod.snd (Prod.snd x_1))))))) (Holds (Prod.fst x_1 = xs ∧ (0 : Int) ≤ IntKind.wrap IntKind.i64 (Prod.fst (Prod.snd (Prod.snd (Prod.snd x_1))) + (1 : Int)) ∧ IntKind.wrap IntKind.i64 (Prod.fst (Prod.snd (Prod.snd (Prod.snd x_1))) + (1 : Int)) ≤ (↑(List.length xs) : Int) ∧ Prod.fst (Prod.snd (Prod.snd x_1)) ++ conAll xs (List.length xs - Int.toNat (IntKind.wrap IntKind.i64 (Prod.fst (Prod.snd (Prod.snd (Prod.snd x_1))) + (1 : Int)))) = conAll xs (List.length xs)) ∧ Int.toNat ((↑(List.length (Prod.fst x_1)) : Int) - IntKind.wrap IntKind.i64 (Prod.fst (Prod.snd (Prod.snd (Prod.snd x_1))) + (1 : Int))) < Int.toNat ((↑(List.length (Prod.fst x)) : Int) - Prod.snd (Prod.snd (Prod.snd x))))) (Q (SV.vec (1 : Nat)) [(false, Blk.vec Ty.body (Prod.fst x)), (true, Blk.vec Ty.contact (Prod.fst (Prod.snd (Prod.snd x))))])) := by kernel_rfl

theorem ok_l7Contacts : FsOk Try.prog 131 fs_l7Contacts := fsOk_of tt_ok (tabFs_cons ok_l5Touch tabFs_nil) mixed Try.func131 (by kernel_rfl) (by kernel_rfl) (by
    intro args LL p r HH h hp
    unfold fs_l7Contacts at h
    dsimp only at h
    split at h
    case h_2 => cases h
    rename_i xs
    simp only [Option.some.injEq, Prod.mk.injEq] at h
    obtain ⟨rfl, rfl, rfl⟩ := h
    refine ⟨by simp [Form, stays], (L_specCon), ?_⟩
    rw [vc_l7Contacts]
    try dsimp only
    have hok := hp _ rfl
    have hl := bodiesOk_len hok
    have hq := length_contactsF hl
    unfold contactsF at hq
    refine ⟨⟨(by trivial), by omega, by omega, rfl⟩, ?_⟩
    rintro ⟨xs', u, out, i⟩ ⟨h⟩
    dsimp only at h ⊢
    obtain ⟨rfl, h0, h1, h2⟩ := h
    refine ifB_of (fun c1 => ?_) (fun c1 => ?_)
    · have hi := of_decide_eq_true c1
      have e1 : (i + 1).toNat = i.toNat + 1 := by omega
      have hs2 := congrArg List.length h2
      rw [conAll_at (show i.toNat < xs'.length by omega)] at h2 hs2
      simp only [List.length_append] at hs2
      have hw : IntKind.i64.wrap (i + 1) = i + 1 := wrap_small (by omega) (by omega)
      rw [hw]
      refine ⟨⟨(by trivial), (by trivial), by omega, by omega, (by trivial)⟩, ?_⟩
      rintro ⟨xs'', u', out', i', k⟩ ⟨h⟩
      dsimp only at h ⊢
      obtain ⟨rfl, rfl, g1, g2, g3⟩ := h
      have hs3 := congrArg List.length g3
      rw [e1] at g3 hs3
      simp only [List.length_append] at hs3
      refine ifB_of (fun c2 => ?_) (fun c2 => ?_)
      · have hk := of_decide_eq_true c2
        have e2 : (k + 1).toNat = k.toNat + 1 := by omega
        rw [conRow_at (show k.toNat < xs''.length by omega)] at g3
        have ht := touch_ok hok (i := i'.toNat) (k := k.toNat) (by omega) (by omega)
        rw [← ht.1]
        have hI : 0 ≤ i' ∧ i' < ↑xs''.length := ⟨by omega, by omega⟩
        have hK : 0 ≤ k ∧ k < ↑xs''.length := ⟨by omega, by omega⟩
        have hw2 : IntKind.i64.wrap (k + 1) = k + 1 := wrap_small (by omega) (by omega)
        rw [hw2, e1, e2]
        have fin : ∀ {u : List Contact}, conAt xs'' i'.toNat k.toNat = u → (Holds (xs'' = xs'' ∧ i' = i' ∧ i' < k + 1 ∧ k + 1 ≤ ↑xs''.length ∧ out' ++ u ++ conRow xs'' i'.toNat (xs''.length - (k.toNat + 1)) = out ++ conRow xs'' i'.toNat (xs''.length - (i'.toNat + 1))) ∧ (↑xs''.length - (k + 1)).toNat < (↑xs''.length - k).toNat) := by
          rintro u rfl
          exact ⟨⟨rfl, rfl, by omega, by omega, by rw [← g3, List.append_assoc]⟩, by omega⟩
        have fin0 := @fin []
        rw [List.append_nil] at fin0
        refine ⟨hI, ifB_of (fun c3 => ⟨hK, ifB_of (fun c4 => fin0 (conAt_fix c3 c4)) (fun c4 => ?_)⟩) (fun c3 => ?_)⟩
        · refine ⟨hI, hI, hK, hK, ht.2, ifB_of (fun c5 => ?_) (fun c5 => fin0 (conAt_miss c5))⟩
          exact ⟨by simp only [room, List.length_singleton]; omega, fin (conAt_hit hI.1 hK.1 (.inr c4) c5)⟩
        · refine ⟨hI, hI, hK, hK, ht.2, ifB_of (fun c5 => ?_) (fun c5 => fin0 (conAt_miss c5))⟩
          exact ⟨by simp only [room, List.length_singleton]; omega, fin (conAt_hit hI.1 hK.1 (.inl c3) c5)⟩
      · have hk := of_decide_eq_false c2
        simp (disch := omega) only [wrap_small, e1]
        have e3 : xs''.length - k.toNat = 0 := by omega
        rw [e3] at g3
        refine ⟨⟨(by trivial), by omega, by omega, ?_⟩, by omega⟩
        rw [← h2, ← List.append_assoc, ← g3]
        simp [conRow]
    · have hi := of_decide_eq_false c1
      have e3 : xs'.length - i.toNat = 0 := by omega
      rw [e3] at h2
      simp only [conAll, List.append_nil] at h2
      rw [h2]
      exact ⟨(by trivial), (by trivial)⟩)

def LSic1  : LS where
  S := List Body × Unit × List Contact × Unit × Int × Int
  live := [(0, [none]), (3, [some .contact]), (12, [none]), (13, [none]), (14, [none])]
  shape := fun s => ([.vec 0, .vec 1, .vec 0, .int .i64 s.2.2.2.2.1, .int .i64 s.2.2.2.2.2], [(false, .vec .body s.1), (true, .vec .contact s.2.2.1)])
  get := fun v h => match v, h with
    | [.vec 0, .vec 1, .vec 0, .int .i64 n, .int .i64 i], [(false, .vec .body xs), (true, .vec .contact out)] => some (xs, (), out, (), n, i)
    | _, _ => none
  inv := fun s0 s => Holds (s.1 = s0.1 ∧ s.2.2.2.2.1 = s0.1.length ∧ 0 ≤ s.2.2.2.2.2 ∧ s.2.2.2.2.2 ≤ s0.1.length ∧ s.2.2.1 ++ conAll s0.1 (s0.1.length - s.2.2.2.2.2.toNat) = conAll s0.1 s0.1.length)
  mu := fun s => ((s.1.length : Int) - s.2.2.2.2.2).toNat
  ok := by
    intro v h s hg
    try dsimp only at hg
    split at hg <;> cases hg
    rfl

def LSic2  : LS where
  S := List Body × Unit × List Contact × Int × Body × Int × Unit × Int × Int
  live := [(0, [none]), (3, [some .contact]), (4, [none]), (5, [none]), (6, [none]), (12, [none]), (13, [none]), (14, [none])]
  shape := fun s => ([.vec 0, .vec 1, .int .i64 s.2.2.2.1, .ptr 2 0 0, .int .i64 s.2.2.2.2.2.1, .vec 0, .int .i64 s.2.2.2.2.2.2.2.1, .int .i64 s.2.2.2.2.2.2.2.2], [(false, .vec .body s.1), (true, .vec .contact s.2.2.1), (true, .box [.int .i64 s.2.2.2.2.1.Id, .int .i64 s.2.2.2.2.1.Shape.Kind, .int .i64 s.2.2.2.2.1.Shape.Wide, .int .i64 s.2.2.2.2.1.Shape.High, .int .i64 s.2.2.2.2.1.At.X, .int .i64 s.2.2.2.2.1.At.Y, .int .i64 s.2.2.2.2.1.Drive.X, .int .i64 s.2.2.2.2.1.Drive.Y, .int .i64 s.2.2.2.2.1.Mass, .int .i64 s.2.2.2.2.1.Bounce, .int .i64 s.2.2.2.2.1.Rub, .int .i64 s.2.2.2.2.1.Quiet])])
  get := fun v h => match v, h with
    | [.vec 0, .vec 1, .int .i64 i, .ptr 2 0 0, .int .i64 k, .vec 0, .int .i64 n, .int .i64 j], [(false, .vec .body xs), (true, .vec .contact out), (true, .box [.int .i64 bI, .int .i64 bK, .int .i64 bW, .int .i64 bH, .int .i64 bX, .int .i64 bY, .int .i64 bU, .int .i64 bV, .int .i64 bM, .int .i64 bB, .int .i64 bR, .int .i64 bQ])] => some (xs, (), out, i, (Body.mk bI (Shape.mk bK bW bH) (Vec.mk bX bY) (Vec.mk bU bV) bM bB bR bQ), k, (), n, j)
    | _, _ => none
  inv := fun s0 s => Holds (s.1 = s0.1 ∧ s.2.2.2.1 = s0.2.2.2.1 ∧ s.2.2.2.2.1 = s0.2.2.2.2.1 ∧ s.2.2.2.2.2.2.2.1 = s0.2.2.2.2.2.2.2.1 ∧ s.2.2.2.2.2.2.2.2 = s0.2.2.2.2.2.2.2.2 ∧ s0.2.2.2.1 < s.2.2.2.2.2.1 ∧ s.2.2.2.2.2.1 ≤ s0.1.length ∧ s.2.2.1 ++ conRow s0.1 s0.2.2.2.1.toNat (s0.1.length - s.2.2.2.2.2.1.toNat) = s0.2.2.1 ++ conRow s0.1 s0.2.2.2.1.toNat (s0.1.length - s0.2.2.2.2.2.1.toNat))
  mu := fun s => ((s.1.length : Int) - s.2.2.2.2.2.1).toNat
  ok := by
    intro v h s hg
    try dsimp only at hg
    split at hg <;> cases hg
    rfl

def L_implCon : Loops := fun n => match n with
  | 5 => some LSic1
  | 8 => some LSic2
  | _ => none
noncomputable def fs_implContacts : Fs := ⟨[], fun args H => match args, H with
  | [.vec 0], [(false, .vec .body xs)] => some ((some (xs.length ≤ 1048576)), .vec 1, [(false, .vec .body xs), (true, .vec .contact (contactsOf xs))])
  | _, _ => none⟩

theorem vc_implContacts (xs : List Body) (Q : SV → List Ent → Prop) :
    fnVC tt (look [(97, fs_implBodiesOk), (105, fs_bodyFixed), (87, fs_implBodyTouch)]) (L_implCon) Try.f75 [.vec 0] [(false, .vec .body xs)] Q =
    (List.length xs ≤ (4611686018427387904 : Nat) ∧ ifB (!bodiesOk xs) (Q (SV.vec (1 : Nat)) [(false, Blk.vec Ty.body xs), (true, Blk.vec Ty.contact [])]) (Holds (xs = xs ∧ (↑(List.length xs) : Int) = (↑(List.length xs) : Int) ∧ (0 : Int) ≤ (0 : Int) ∧ (0 : Int) ≤ (↑(List.length xs) : Int) ∧ [] ++ conAll xs (List.length xs - Int.toNat (0 : Int)) = conAll xs (List.length xs)) ∧ ∀ (x : List Body × Unit × List Contact × Unit × Int × Int), Holds (Prod.fst x = xs ∧ Prod.fst (Prod.snd (Prod.snd (Prod.snd (Prod.snd x)))) = (↑(List.length xs) : Int) ∧ (0 : Int) ≤ Prod.snd (Prod.snd (Prod.snd (Prod.snd (Prod.snd x)))) ∧ Prod.snd (Prod.snd (Prod.snd (Prod.snd (Prod.snd x)))) ≤ (↑(List.length xs) : Int) ∧ Prod.fst (Prod.snd (Prod.snd x)) ++ conAll xs (List.length xs - Int.toNat (Prod.snd (Prod.snd (Prod.snd (Prod.snd (Prod.snd x)))))) = conAll xs (List.length xs)) → ifB (decide (Prod.snd (Prod.snd (Prod.snd (Prod.snd (Prod.snd x)))) < Prod.fst (Prod.snd (Prod.snd (Prod.snd (Prod.snd x)))))) (((0 : Int) ≤ Prod.snd (Prod.snd (Prod.snd (Prod.snd (Prod.snd x)))) ∧ Prod.snd (Prod.snd (Prod.snd (Prod.snd (Prod.snd x)))) < (↑(List.length (Prod.fst x)) : Int)) ∧ Holds (Prod.fst x = Prod.fst x ∧ Prod.snd (Prod.snd (Prod.snd (Prod.snd (Prod.snd x)))) = Prod.snd (Prod.snd (Prod.snd (Prod.snd (Prod.snd x)))) ∧ Ty.ix Ty.body (Prod.fst x) (Int.toNat (Prod.snd (Prod.snd (Prod.snd (Prod.snd (Prod.snd x)))))) = Ty.ix Ty.body (Prod.fst x) (Int.toNat (Prod.snd (Prod.snd (Prod.snd (Prod.snd (Prod.snd x)))))) ∧ Prod.fst (Prod.snd (Prod.snd (Prod.snd (Prod.snd x)))) = Prod.fst (Prod.snd (Prod.snd (Prod.snd (Prod.snd x)))) ∧ Prod.snd (Prod.snd (Prod.snd (Prod.snd (Prod.snd x)))) = Prod.snd (Prod.snd (Prod.snd (Prod.snd (Prod.snd x)))) ∧ Prod.snd (Prod.snd (Prod.snd (Prod.snd (Prod.snd x)))) < IntKind.wrap IntKind.i64 (Prod.snd (Prod.snd (Prod.snd (Prod.snd (Prod.snd x)))) + (1 : Int)) ∧ IntKind.wrap IntKind.i64 (Prod.snd (Prod.snd (Prod.snd (Prod.snd (Prod.snd x)))) + (1 : Int)) ≤ (↑(List.length (Prod.fst x)) : Int) ∧ Prod.fst (Prod.snd (Prod.snd x)) ++ conRow (Prod.fst x) (Int.toNat (Prod.snd (Prod.snd (Prod.snd (Prod.snd (Prod.snd x)))))) (List.length (Prod.fst x) - Int.toNat (IntKind.wrap IntKind.i64 (Prod.snd (Prod.snd (Prod.snd (Prod.snd (Prod.snd x)))) + (1 : Int)))) = Prod.fst (Prod.snd (Prod.snd x)) ++ conRow (Prod.fst x) (Int.toNat (Prod.snd (Prod.snd (Prod.snd (Prod.snd (Prod.snd x)))))) (List.length (Prod.fst x) - Int.toNat (IntKind.wrap IntKind.i64 (Prod.snd (Prod.snd (Prod.snd (Prod.snd (Prod.snd x)))) + (1 : Int))))) ∧ ∀ (x_1 : List Body × Unit × List Contact × Int × Body × Int × Unit × Int × Int), Holds (Prod.fst x_1 = Prod.fst x ∧ Prod.fst (Prod.snd (Prod.snd (Prod.snd x_1))) = Prod.snd (Prod.snd (Prod.snd (Prod.snd (Prod.snd x)))) ∧ Prod.fst (Prod.snd (Prod.snd (Prod.snd (Prod.snd x_1)))) = Ty.ix Ty.body (Prod.fst x) (Int.toNat (Prod.snd (Prod.snd (Prod.snd (Prod.snd (Prod.snd x)))))) ∧ Prod.fst (Prod.snd (Prod.snd (Prod.snd (Prod.snd (Prod.snd (Prod.snd (Prod.snd x_1))))))) = Prod.fst (Prod.snd (Prod.snd (Prod.snd (Prod.snd x)))) ∧ Prod.snd (Prod.snd (Prod.snd (Prod.snd (Prod.snd (Prod.snd (Prod.snd (Prod.snd x_1))))))) = Prod.snd (Prod.snd (Prod.snd (Prod.snd (Prod.snd x)))) ∧ Prod.snd (Prod.snd (Prod.snd (Prod.snd (Prod.snd x)))) < Prod.fst (Prod.snd (Prod.snd (Prod.snd (Prod.snd (Prod.snd x_1))))) ∧ Prod.fst (Prod.snd (Prod.snd (Prod.snd (Prod.snd (Prod.snd x_1))))) ≤ (↑(List.length (Prod.fst x)) : Int) ∧ Prod.fst (Prod.snd (Prod.snd x_1)) ++ conRow (Prod.fst x) (Int.toNat (Prod.snd (Prod.snd (Prod.snd (Prod.snd (Prod.snd x)))))) (List.length (Prod.fst x) - Int.toNat (Prod.fst (Prod.snd (Prod.snd (Prod.snd (Prod.snd (Prod.snd x_1))))))) = Prod.fst (Prod.snd (Prod.snd x)) ++ conRow (Prod.fst x) (Int.toNat (Prod.snd (Prod.snd (Prod.snd (Prod.snd (Prod.snd x)))))) (List.length (Prod.fst x) - Int.toNat (IntKind.wrap IntKind.i64 (Prod.snd (Prod.snd (Prod.snd (Prod.snd (Prod.snd x)))) + (1 : Int))))) → ifB (decide (Prod.fst (Prod.snd (Prod.snd (Prod.snd (Prod.snd (Prod.snd x_1))))) < (↑(List.length (Prod.fst x_1)) : Int))) (ifB (Body.Mass (Prod.fst (Prod.snd (Prod.snd (Prod.snd (Prod.snd x_1))))) == (0 : Int)) (((0 : Int) ≤ Prod.fst (Prod.snd (Prod.snd (Prod.snd (Prod.snd (Prod.snd x_1))))) ∧ Prod.fst (Prod.snd (Prod.snd (Prod.snd (Prod.snd (Prod.snd x_1))))) < (↑(List.length (Prod.fst x_1)) : Int)) ∧ ifB (Body.Mass (Ty.ix Ty.body (Prod.fst x_1) (Int.toNat (Prod.fst (Prod.snd (Prod.snd (Prod.snd (Prod.snd (Prod.snd x_1)))))))) == (0 : Int)) (Holds (Prod.fst x_1 = Prod.fst x ∧ Prod.fst (Prod.snd (Prod.snd (Prod.snd x_1))) = Prod.snd (Prod.snd (Prod.snd (Prod.snd (Prod.snd x)))) ∧ Prod.fst (Prod.snd (Prod.snd (Prod.snd (Prod.snd x_1)))) = Ty.ix Ty.body (Prod.fst x) (Int.toNat (Prod.snd (Prod.snd (Prod.snd (Prod.snd (Prod.snd x)))))) ∧ Prod.fst (Prod.snd (Prod.snd (Prod.snd (Prod.snd (Prod.snd (Prod.snd (Prod.snd x_1))))))) = Prod.fst (Prod.snd (Prod.snd (Prod.snd (Prod.snd x)))) ∧ Prod.snd (Prod.snd (Prod.snd (Prod.snd (Prod.snd (Prod.snd (Prod.snd (Prod.snd x_1))))))) = Prod.snd (Prod.snd (Prod.snd (Prod.snd (Prod.snd x)))) ∧ Prod.snd (Prod.snd (Prod.snd (Prod.snd (Prod.snd x)))) < IntKind.wrap IntKind.i64 (Prod.fst (Prod.snd (Prod.snd (Prod.snd (Prod.snd (Prod.snd x_1))))) + (1 : Int)) ∧ IntKind.wrap IntKind.i64 (Prod.fst (Prod.snd (Prod.snd (Prod.snd (Prod.snd (Prod.snd x_1))))) + (1 : Int)) ≤ (↑(List.length (Prod.fst x)) : Int) ∧ Prod.fst (Prod.snd (Prod.snd x_1)) ++ conRow (Prod.fst x) (Int.toNat (Prod.snd (Prod.snd (Prod.snd (Prod.snd (Prod.snd x)))))) (List.length (Prod.fst x) - Int.toNat (IntKind.wrap IntKind.i64 (Prod.fst (Prod.snd (Prod.snd (Prod.snd (Prod.snd (Prod.snd x_1))))) + (1 : Int)))) = Prod.fst (Prod.snd (Prod.snd x)) ++ conRow (Prod.fst x) (Int.toNat (Prod.snd (Prod.snd (Prod.snd (Prod.snd (Prod.snd x)))))) (List.length (Prod.fst x) - Int.toNat (IntKind.wrap IntKind.i64 (Prod.snd (Prod.snd (Prod.snd (Prod.snd (Prod.snd x)))) + (1 : Int))))) ∧ Int.toNat ((↑(List.length (Prod.fst x_1)) : Int) - IntKind.wrap IntKind.i64 (Prod.fst (Prod.snd (Prod.snd (Prod.snd (Prod.snd (Prod.snd x_1))))) + (1 : Int))) < Int.toNat ((↑(List.length (Prod.fst x_1)) : Int) - Prod.fst (Prod.snd (Prod.snd (Prod.snd (Prod.snd (Prod.snd x_1))))))) (((0 : Int) ≤ Prod.fst (Prod.snd (Prod.snd (Prod.snd (Prod.snd (Prod.snd x_1))))) ∧ Prod.fst (Prod.snd (Prod.snd (Prod.snd (Prod.snd (Prod.snd x_1))))) < (↑(List.length (Prod.fst x_1)) : Int)) ∧ ifB (Prod.snd (touchAll (Body.Shape (Prod.fst (Prod.snd (Prod.snd (Prod.snd (Prod.snd x_1)))))) (Body.At (Prod.fst (Prod.snd (Prod.snd (Prod.snd (Prod.snd x_1)))))) (Body.Shape (Ty.ix Ty.body (Prod.fst x_1) (Int.toNat (Prod.fst (Prod.snd (Prod.snd (Prod.snd (Prod.snd (Prod.snd x_1))))))))) (Body.At (Ty.ix Ty.body (Prod.fst x_1) (Int.toNat (Prod.fst (Prod.snd (Prod.snd (Prod.snd (Prod.snd (Prod.snd x_1))))))))))) ((List.length (Prod.fst (Prod.snd (Prod.snd x_1))) + List.length [Contact.mk (Prod.fst (Prod.snd (Prod.snd (Prod.snd x_1)))) (Prod.fst (Prod.snd (Prod.snd (Prod.snd (Prod.snd (Prod.snd x_1)))))) (Prod.fst (touchAll (Body.Shape (Prod.fst (Prod.snd (Prod.snd (Prod.snd (Prod.snd x_1)))))) (Body.At (Prod.fst (Prod.snd (Prod.snd (Prod.snd (Prod.snd x_1)))))) (Body.Shape (Ty.ix Ty.body (Prod.fst x_1) (Int.toNat (Prod.fst (Prod.snd (Prod.snd (Prod.snd (Prod.snd (Prod.snd x_1))))))))) (Body.At (Ty.ix Ty.body (Prod.fst x_1) (Int.toNat (Prod.fst (Prod.snd (Prod.snd (Prod.snd (Prod.snd (Prod.snd x_1)))))))))))]) * (40 : Nat) ≤ room ∧ Holds (Prod.fst x_1 = Prod.fst x ∧ Prod.fst (Prod.snd (Prod.snd (Prod.snd x_1))) = Prod.snd (Prod.snd (Prod.snd (Prod.snd (Prod.snd x)))) ∧ Prod.fst (Prod.snd (Prod.snd (Prod.snd (Prod.snd x_1)))) = Ty.ix Ty.body (Prod.fst x) (Int.toNat (Prod.snd (Prod.snd (Prod.snd (Prod.snd (Prod.snd x)))))) ∧ Prod.fst (Prod.snd (Prod.snd (Prod.snd (Prod.snd (Prod.snd (Prod.snd (Prod.snd x_1))))))) = Prod.fst (Prod.snd (Prod.snd (Prod.snd (Prod.snd x)))) ∧ Prod.snd (Prod.snd (Prod.snd (Prod.snd (Prod.snd (Prod.snd (Prod.snd (Prod.snd x_1))))))) = Prod.snd (Prod.snd (Prod.snd (Prod.snd (Prod.snd x)))) ∧ Prod.snd (Prod.snd (Prod.snd (Prod.snd (Prod.snd x)))) < IntKind.wrap IntKind.i64 (Prod.fst (Prod.snd (Prod.snd (Prod.snd (Prod.snd (Prod.snd x_1))))) + (1 : Int)) ∧ IntKind.wrap IntKind.i64 (Prod.fst (Prod.snd (Prod.snd (Prod.snd (Prod.snd (Prod.snd x_1))))) + (1 : Int)) ≤ (↑(List.length (Prod.fst x)) : Int) ∧ Prod.fst (Prod.snd (Prod.snd x_1)) ++ [Contact.mk (Prod.fst (Prod.snd (Prod.snd (Prod.snd x_1)))) (Prod.fst (Prod.snd (Prod.snd (Prod.snd (Prod.snd (Prod.snd x_1)))))) (Prod.fst (touchAll (Body.Shape (Prod.fst (Prod.snd (Prod.snd (Prod.snd (Prod.snd x_1)))))) (Body.At (Prod.fst (Prod.snd (Prod.snd (Prod.snd (Prod.snd x_1)))))) (Body.Shape (Ty.ix Ty.body (Prod.fst x_1) (Int.toNat (Prod.fst (Prod.snd (Prod.snd (Prod.snd (Prod.snd (Prod.snd x_1))))))))) (Body.At (Ty.ix Ty.body (Prod.fst x_1) (Int.toNat (Prod.fst (Prod.snd (Prod.snd (Prod.snd (Prod.snd (Prod.snd x_1)))))))))))] ++ conRow (Prod.fst x) (Int.toNat (Prod.snd (Prod.snd (Prod.snd (Prod.snd (Prod.snd x)))))) (List.length (Prod.fst x) - Int.toNat (IntKind.wrap IntKind.i64 (Prod.fst (Prod.snd (Prod.snd (Prod.snd (Prod.snd (Prod.snd x_1))))) + (1 : Int)))) = Prod.fst (Prod.snd (Prod.snd x)) ++ conRow (Prod.fst x) (Int.toNat (Prod.snd (Prod.snd (Prod.snd (Prod.snd (Prod.snd x)))))) (List.length (Prod.fst x) - Int.toNat (IntKind.wrap IntKind.i64 (Prod.snd (Prod.snd (Prod.snd (Prod.snd (Prod.snd x)))) + (1 : Int))))) ∧ Int.toNat ((↑(List.length (Prod.fst x_1)) : Int) - IntKind.wrap IntKind.i64 (Prod.fst (Prod.snd (Prod.snd (Prod.snd (Prod.snd (Prod.snd x_1))))) + (1 : Int))) < Int.toNat ((↑(List.length (Prod.fst x_1)) : Int) - Prod.fst (Prod.snd (Prod.snd (Prod.snd (Prod.snd (Prod.snd x_1))))))) (Holds (Prod.fst x_1 = Prod.fst x ∧ Prod.fst (Prod.snd (Prod.snd (Prod.snd x_1))) = Prod.snd (Prod.snd (Prod.snd (Prod.snd (Prod.snd x)))) ∧ Prod.fst (Prod.snd (Prod.snd (Prod.snd (Prod.snd x_1)))) = Ty.ix Ty.body (Prod.fst x) (Int.toNat (Prod.snd (Prod.snd (Prod.snd (Prod.snd (Prod.snd x)))))) ∧ Prod.fst (Prod.snd (Prod.snd (Prod.snd (Prod.snd (Prod.snd (Prod.snd (Prod.snd x_1))))))) = Prod.fst (Prod.snd (Prod.snd (Prod.snd (Prod.snd x)))) ∧ Prod.snd (Prod.snd (Prod.snd (Prod.snd (Prod.snd (Prod.snd (Prod.snd (Prod.snd x_1))))))) = Prod.snd (Prod.snd (Prod.snd (Prod.snd (Prod.snd x)))) ∧ Prod.snd (Prod.snd (Prod.snd (Prod.snd (Prod.snd x)))) < IntKind.wrap IntKind.i64 (Prod.fst (Prod.snd (Prod.snd (Prod.snd (Prod.snd (Prod.snd x_1))))) + (1 : Int)) ∧ IntKind.wrap IntKind.i64 (Prod.fst (Prod.snd (Prod.snd (Prod.snd (Prod.snd (Prod.snd x_1))))) + (1 : Int)) ≤ (↑(List.length (Prod.fst x)) : Int) ∧ Prod.fst (Prod.snd (Prod.snd x_1)) ++ conRow (Prod.fst x) (Int.toNat (Prod.snd (Prod.snd (Prod.snd (Prod.snd (Prod.snd x)))))) (List.length (Prod.fst x) - Int.toNat (IntKind.wrap IntKind.i64 (Prod.fst (Prod.snd (Prod.snd (Prod.snd (Prod.snd (Prod.snd x_1))))) + (1 : Int)))) = Prod.fst (Prod.snd (Prod.snd x)) ++ conRow (Prod.fst x) (Int.toNat (Prod.snd (Prod.snd (Prod.snd (Prod.snd (Prod.snd x)))))) (List.length (Prod.fst x) - Int.toNat (IntKind.wrap IntKind.i64 (Prod.snd (Prod.snd (Prod.snd (Prod.snd (Prod.snd x)))) + (1 : Int))))) ∧ Int.toNat ((↑(List.length (Prod.fst x_1)) : Int) - IntKind.wrap IntKind.i64 (Prod.fst (Prod.snd (Prod.snd (Prod.snd (Prod.snd (Prod.snd x_1))))) + (1 : Int))) < Int.toNat ((↑(List.length (Prod.fst x_1)) : Int) - Prod.fst (Prod.snd (Prod.snd (Prod.snd (Prod.snd (Prod.snd x_1))))))))) (((0 : Int) ≤ Prod.fst (Prod.snd (Prod.snd (Prod.snd (Prod.snd (Prod.snd x_1))))) ∧ Prod.fst (Prod.snd (Prod.snd (Prod.snd (Prod.snd (Prod.snd x_1))))) < (↑(List.length (Prod.fst x_1)) : Int)) ∧ ifB (Prod.snd (touchAll (Body.Shape (Prod.fst (Prod.snd (Prod.snd (Prod.snd (Prod.snd x_1)))))) (Body.At (Prod.fst (Prod.snd (Prod.snd (Prod.snd (Prod.snd x_1)))))) (Body.Shape (Ty.ix Ty.body (Prod.fst x_1) (Int.toNat (Prod.fst (Prod.snd (Prod.snd (Prod.snd (Prod.snd (Prod.snd x_1))))))))) (Body.At (Ty.ix Ty.body (Prod.fst x_1) (Int.toNat (Prod.fst (Prod.snd (Prod.snd (Prod.snd (Prod.snd (Prod.snd x_1))))))))))) ((List.length (Prod.fst (Prod.snd (Prod.snd x_1))) + List.length [Contact.mk (Prod.fst (Prod.snd (Prod.snd (Prod.snd x_1)))) (Prod.fst (Prod.snd (Prod.snd (Prod.snd (Prod.snd (Prod.snd x_1)))))) (Prod.fst (touchAll (Body.Shape (Prod.fst (Prod.snd (Prod.snd (Prod.snd (Prod.snd x_1)))))) (Body.At (Prod.fst (Prod.snd (Prod.snd (Prod.snd (Prod.snd x_1)))))) (Body.Shape (Ty.ix Ty.body (Prod.fst x_1) (Int.toNat (Prod.fst (Prod.snd (Prod.snd (Prod.snd (Prod.snd (Prod.snd x_1))))))))) (Body.At (Ty.ix Ty.body (Prod.fst x_1) (Int.toNat (Prod.fst (Prod.snd (Prod.snd (Prod.snd (Prod.snd (Prod.snd x_1)))))))))))]) * (40 : Nat) ≤ room ∧ Holds (Prod.fst x_1 = Prod.fst x ∧ Prod.fst (Prod.snd (Prod.snd (Prod.snd x_1))) = Prod.snd (Prod.snd (Prod.snd (Prod.snd (Prod.snd x)))) ∧ Prod.fst (Prod.snd (Prod.snd (Prod.snd (Prod.snd x_1)))) = Ty.ix Ty.body (Prod.fst x) (Int.toNat (Prod.snd (Prod.snd (Prod.snd (Prod.snd (Prod.snd x)))))) ∧ Prod.fst (Prod.snd (Prod.snd (Prod.snd (Prod.snd (Prod.snd (Prod.snd (Prod.snd x_1))))))) = Prod.fst (Prod.snd (Prod.snd (Prod.snd (Prod.snd x)))) ∧ Prod.snd (Prod.snd (Prod.snd (Prod.snd (Prod.snd (Prod.snd (Prod.snd (Prod.snd x_1))))))) = Prod.snd (Prod.snd (Prod.snd (Prod.snd (Prod.snd x)))) ∧ Prod.snd (Prod.snd (Prod.snd (Prod.snd (Prod.snd x)))) < IntKind.wrap IntKind.i64 (Prod.fst (Prod.snd (Prod.snd (Prod.snd (Prod.snd (Prod.snd x_1))))) + (1 : Int)) ∧ IntKind.wrap IntKind.i64 (Prod.fst (Prod.snd (Prod.snd (Prod.snd (Prod.snd (Prod.snd x_1))))) + (1 : Int)) ≤ (↑(List.length (Prod.fst x)) : Int) ∧ Prod.fst (Prod.snd (Prod.snd x_1)) ++ [Contact.mk (Prod.fst (Prod.snd (Prod.snd (Prod.snd x_1)))) (Prod.fst (Prod.snd (Prod.snd (Prod.snd (Prod.snd (Prod.snd x_1)))))) (Prod.fst (touchAll (Body.Shape (Prod.fst (Prod.snd (Prod.snd (Prod.snd (Prod.snd x_1)))))) (Body.At (Prod.fst (Prod.snd (Prod.snd (Prod.snd (Prod.snd x_1)))))) (Body.Shape (Ty.ix Ty.body (Prod.fst x_1) (Int.toNat (Prod.fst (Prod.snd (Prod.snd (Prod.snd (Prod.snd (Prod.snd x_1))))))))) (Body.At (Ty.ix Ty.body (Prod.fst x_1) (Int.toNat (Prod.fst (Prod.snd (Prod.snd (Prod.snd (Prod.snd (Prod.snd x_1)))))))))))] ++ conRow (Prod.fst x) (Int.toNat (Prod.snd (Prod.snd (Prod.snd (Prod.snd (Prod.snd x)))))) (List.length (Prod.fst x) - Int.toNat (IntKind.wrap IntKind.i64 (Prod.fst (Prod.snd (Prod.snd (Prod.snd (Prod.snd (Prod.snd x_1))))) + (1 : Int)))) = Prod.fst (Prod.snd (Prod.snd x)) ++ conRow (Prod.fst x) (Int.toNat (Prod.snd (Prod.snd (Prod.snd (Prod.snd (Prod.snd x)))))) (List.length (Prod.fst x) - Int.toNat (IntKind.wrap IntKind.i64 (Prod.snd (Prod.snd (Prod.snd (Prod.snd (Prod.snd x)))) + (1 : Int))))) ∧ Int.toNat ((↑(List.length (Prod.fst x_1)) : Int) - IntKind.wrap IntKind.i64 (Prod.fst (Prod.snd (Prod.snd (Prod.snd (Prod.snd (Prod.snd x_1))))) + (1 : Int))) < Int.toNat ((↑(List.length (Prod.fst x_1)) : Int) - Prod.fst (Prod.snd (Prod.snd (Prod.snd (Prod.snd (Prod.snd x_1))))))) (Holds (Prod.fst x_1 = Prod.fst x ∧ Prod.fst (Prod.snd (Prod.snd (Prod.snd x_1))) = Prod.snd (Prod.snd (Prod.snd (Prod.snd (Prod.snd x)))) ∧ Prod.fst (Prod.snd (Prod.snd (Prod.snd (Prod.snd x_1)))) = Ty.ix Ty.body (Prod.fst x) (Int.toNat (Prod.snd (Prod.snd (Prod.snd (Prod.snd (Prod.snd x)))))) ∧ Prod.fst (Prod.snd (Prod.snd (Prod.snd (Prod.snd (Prod.snd (Prod.snd (Prod.snd x_1))))))) = Prod.fst (Prod.snd (Prod.snd (Prod.snd (Prod.snd x)))) ∧ Prod.snd (Prod.snd (Prod.snd (Prod.snd (Prod.snd (Prod.snd (Prod.snd (Prod.snd x_1))))))) = Prod.snd (Prod.snd (Prod.snd (Prod.snd (Prod.snd x)))) ∧ Prod.snd (Prod.snd (Prod.snd (Prod.snd (Prod.snd x)))) < IntKind.wrap IntKind.i64 (Prod.fst (Prod.snd (Prod.snd (Prod.snd (Prod.snd (Prod.snd x_1))))) + (1 : Int)) ∧ IntKind.wrap IntKind.i64 (Prod.fst (Prod.snd (Prod.snd (Prod.snd (Prod.snd (Prod.snd x_1))))) + (1 : Int)) ≤ (↑(List.length (Prod.fst x)) : Int) ∧ Prod.fst (Prod.snd (Prod.snd x_1)) ++ conRow (Prod.fst x) (Int.toNat (Prod.snd (Prod.snd (Prod.snd (Prod.snd (Prod.snd x)))))) (List.length (Prod.fst x) - Int.toNat (IntKind.wrap IntKind.i64 (Prod.fst (Prod.snd (Prod.snd (Prod.snd (Prod.snd (Prod.snd x_1))))) + (1 : Int)))) = Prod.fst (Prod.snd (Prod.snd x)) ++ conRow (Prod.fst x) (Int.toNat (Prod.snd (Prod.snd (Prod.snd (Prod.snd (Prod.snd x)))))) (List.length (Prod.fst x) - Int.toNat (IntKind.wrap IntKind.i64 (Prod.snd (Prod.snd (Prod.snd (Prod.snd (Prod.snd x)))) + (1 : Int))))) ∧ Int.toNat ((↑(List.length (Prod.fst x_1)) : Int) - IntKind.wrap IntKind.i64 (Prod.fst (Prod.snd (Prod.snd (Prod.snd (Prod.snd (Prod.snd x_1))))) + (1 : Int))) < Int.toNat ((↑(List.length (Prod.fst x_1)) : Int) - Prod.fst (Prod.snd (Prod.snd (Prod.snd (Prod.snd (Prod.snd x_1))))))))) (Holds (Prod.fst x_1 = xs ∧ Prod.fst (Prod.snd (Prod.snd (Prod.snd (Prod.snd (Prod.snd (Prod.snd (Prod.snd x_1))))))) = (↑(List.length xs) : Int) ∧ (0 : Int) ≤ IntKind.wrap IntKind.i64 (Prod.snd (Prod.snd (Prod.snd (Prod.snd (Prod.snd (Prod.snd (Prod.snd (Prod.snd x_1))))))) + (1 : Int)) ∧ IntKind.wrap IntKind.i64 (Prod.snd (Prod.snd (Prod.snd (Prod.snd (Prod.snd (Prod.snd (Prod.snd (Prod.snd x_1))))))) + (1 : Int)) ≤ (↑(List.length xs) : Int) ∧ Prod.fst (Prod.snd (Prod.snd x_1)) ++ conAll xs (List.length xs - Int.toNat (IntKind.wrap IntKind.i64 (Prod.snd (Prod.snd (Prod.snd (Prod.snd (Prod.snd (Prod.snd (Prod.snd (Prod.snd x_1))))))) + (1 : Int)))) = conAll xs (List.length xs)) ∧ Int.toNat ((↑(List.length (Prod.fst x_1)) : Int) - IntKind.wrap IntKind.i64 (Prod.snd (Prod.snd (Prod.snd (Prod.snd (Prod.snd (Prod.snd (Prod.snd (Prod.snd x_1))))))) + (1 : Int))) < Int.toNat ((↑(List.length (Prod.fst x)) : Int) - Prod.snd (Prod.snd (Prod.snd (Prod.snd (Prod.snd x))))))) (Q (SV.vec (1 : Nat)) [(false, Blk.vec Ty.body (Prod.fst x)), (true, Blk.vec Ty.contact (Prod.fst (Prod.snd (Prod.snd x))))]))) := by kernel_rfl

theorem ok_implContacts : FsOk Try.prog 75 fs_implContacts := fsOk_of tt_ok (tabFs_cons ok_implBodiesOk (tabFs_cons ok_bodyFixed (tabFs_cons ok_implBodyTouch tabFs_nil))) mixed Try.func75 (by kernel_rfl) (by kernel_rfl) (by
    intro args LL p r HH h hp
    unfold fs_implContacts at h
    dsimp only at h
    split at h
    case h_2 => cases h
    rename_i xs
    simp only [Option.some.injEq, Prod.mk.injEq] at h
    obtain ⟨rfl, rfl, rfl⟩ := h
    refine ⟨by simp [Form, stays], (L_implCon), ?_⟩
    rw [vc_implContacts]
    try dsimp only
    have hb := hp _ rfl
    refine ⟨by omega, ifB_of (fun c1 => ?_) (fun c1 => ?_)⟩
    · simp [contactsOf, not_true c1]
    have hok := not_false c1
    have hl := bodiesOk_len hok
    have hq := length_contactsF hl
    unfold contactsF at hq
    simp only [contactsOf, hok, cond_true]
    refine ⟨⟨(by trivial), (by trivial), by omega, by omega, (by trivial)⟩, ?_⟩
    rintro ⟨xs', u, out, v, n, i⟩ ⟨h⟩
    dsimp only at h ⊢
    obtain ⟨rfl, rfl, h0, h1, h2⟩ := h
    refine ifB_of (fun c1 => ?_) (fun c1 => ?_)
    · have hi := of_decide_eq_true c1
      have e1 : (i + 1).toNat = i.toNat + 1 := by omega
      have hs2 := congrArg List.length h2
      rw [conAll_at (show i.toNat < xs'.length by omega)] at h2 hs2
      simp only [List.length_append] at hs2
      have hw : IntKind.i64.wrap (i + 1) = i + 1 := wrap_small (by omega) (by omega)
      rw [hw]
      refine ⟨⟨by omega, hi⟩, ⟨(by trivial), (by trivial), (by trivial), (by trivial), (by trivial), by omega, by omega, (by trivial)⟩, ?_⟩
      rintro ⟨xs'', u', out', i', b, k, v', n', j⟩ ⟨h⟩
      dsimp only at h ⊢
      obtain ⟨rfl, rfl, rfl, rfl, rfl, g1, g2, g3⟩ := h
      have hs3 := congrArg List.length g3
      rw [e1] at g3 hs3
      simp only [List.length_append] at hs3
      refine ifB_of (fun c2 => ?_) (fun c2 => ?_)
      · have hk := of_decide_eq_true c2
        have e2 : (k + 1).toNat = k.toNat + 1 := by omega
        rw [conRow_at (show k.toNat < xs''.length by omega)] at g3
        have hK : 0 ≤ k ∧ k < ↑xs''.length := ⟨by omega, by omega⟩
        have hw2 : IntKind.i64.wrap (k + 1) = k + 1 := wrap_small (by omega) (by omega)
        rw [hw2, e1, e2]
        have fin : ∀ {u : List Contact}, conAt xs'' j.toNat k.toNat = u → (Holds (xs'' = xs'' ∧ j = j ∧ Ty.ix .body xs'' j.toNat = Ty.ix .body xs'' j.toNat ∧ (xs''.length : Int) = xs''.length ∧ j = j ∧ j < k + 1 ∧ k + 1 ≤ ↑xs''.length ∧ out' ++ u ++ conRow xs'' j.toNat (xs''.length - (k.toNat + 1)) = out ++ conRow xs'' j.toNat (xs''.length - (j.toNat + 1))) ∧ (↑xs''.length - (k + 1)).toNat < (↑xs''.length - k).toNat) := by
          rintro u rfl
          exact ⟨⟨rfl, rfl, rfl, rfl, rfl, by omega, by omega, by rw [← g3, List.append_assoc]⟩, by omega⟩
        have fin0 := @fin []
        rw [List.append_nil] at fin0
        refine ifB_of (fun c3 => ⟨hK, ifB_of (fun c4 => fin0 (conAt_fix c3 c4)) (fun c4 => ?_)⟩) (fun c3 => ?_)
        · refine ⟨hK, ifB_of (fun c5 => ?_) (fun c5 => fin0 (conAt_miss c5))⟩
          exact ⟨by simp only [room, List.length_singleton]; omega, fin (conAt_hit h0 hK.1 (.inr c4) c5)⟩
        · refine ⟨hK, ifB_of (fun c5 => ?_) (fun c5 => fin0 (conAt_miss c5))⟩
          exact ⟨by simp only [room, List.length_singleton]; omega, fin (conAt_hit h0 hK.1 (.inl c3) c5)⟩
      · have hk := of_decide_eq_false c2
        simp (disch := omega) only [wrap_small, e1]
        have e3 : xs''.length - k.toNat = 0 := by omega
        rw [e3] at g3
        refine ⟨⟨(by trivial), (by trivial), by omega, by omega, ?_⟩, by omega⟩
        rw [← h2, ← List.append_assoc, ← g3]
        simp [conRow]
    · have hi := of_decide_eq_false c1
      have e3 : xs'.length - i.toNat = 0 := by omega
      rw [e3] at h2
      simp only [conAll, List.append_nil] at h2
      rw [h2]
      exact ⟨(by trivial), (by trivial)⟩)

end Go.Proofs.Ythkdelepjndacaa.Sym
