/-
  What the rows of this claim stand on, part 6: the machine, the walks, the plain laws, as far as they are used.
  No condition.
-/
import Derived.Test.YtnahfbjdicjdpaaGreatDG5
namespace Go.Proofs.YtnahfbjdicjdpaaGreat.Sym
open Go
set_option linter.unusedVariables false
set_option linter.unusedSimpArgs false
set_option maxRecDepth 100000

def LSroot  : LS where
  S := Int × Int × Int
  live := [(0, [none]), (3, [none]), (4, [none])]
  shape := fun s => ([.int .i64 s.1, .int .i64 s.2.1, .int .i64 s.2.2], [])
  get := fun v h => match v, h with
    | [.int .i64 n, .int .i64 low, .int .i64 high], [] => some (n, low, high)
    | _, _ => none
  inv := fun s0 s => Holds (s.1 = s0.1 ∧ 0 ≤ s.2.1 ∧ s.2.1 < s.2.2 ∧ s.2.2 ≤ 2828427124 ∧ s.2.1 * s.2.1 ≤ s0.1 ∧ s0.1 < s.2.2 * s.2.2)
  mu := fun s => (s.2.2 - s.2.1).toNat
  ok := by
    intro v h s hg
    try dsimp only at hg
    split at hg <;> cases hg
    rfl

def L_root : Loops := fun n => match n with
  | 2 => some LSroot
  | _ => none
noncomputable def fs_implRoot : Fs := ⟨[], fun args H => match args, H with
  | [.int .i64 n], [] => some ((some (0 ≤ n ∧ n ≤ 2000000000000000000)), .int .i64 (rootI n), [])
  | _, _ => none⟩

theorem vc_implRoot (n : Int) (Q : SV → List Ent → Prop) :
    fnVC tt (look []) (L_root) Tryz.f178 [.int .i64 n] [] Q =
    (Holds (n = n ∧ (0 : Int) ≤ (0 : Int) ∧ (0 : Int) < (2147483648 : Int) ∧ (2147483648 : Int) ≤ (2828427124 : Int) ∧ (0 : Int) * (0 : Int) ≤ n ∧ n < (2147483648 : Int) * (2147483648 : Int)) ∧ ∀ (x : Int × Int × Int), Holds (Prod.fst x = n ∧ (0 : Int) ≤ Prod.fst (Prod.snd x) ∧ Prod.fst (Prod.snd x) < Prod.snd (Prod.snd x) ∧ Prod.snd (Prod.snd x) ≤ (2828427124 : Int) ∧ Prod.fst (Prod.snd x) * Prod.fst (Prod.snd x) ≤ n ∧ n < Prod.snd (Prod.snd x) * Prod.snd (Prod.snd x)) → ifB (decide (IntKind.wrap IntKind.i64 (Prod.snd (Prod.snd x) - Prod.fst (Prod.snd x)) > (1 : Int))) (ifB (decide (IntKind.wrap IntKind.i64 (IntKind.wrap IntKind.i64 (Int.tdiv (IntKind.wrap IntKind.i64 (Prod.fst (Prod.snd x) + Prod.snd (Prod.snd x))) (2 : Int)) * IntKind.wrap IntKind.i64 (Int.tdiv (IntKind.wrap IntKind.i64 (Prod.fst (Prod.snd x) + Prod.snd (Prod.snd x))) (2 : Int))) ≤ Prod.fst x)) (Holds (Prod.fst x = n ∧ (0 : Int) ≤ IntKind.wrap IntKind.i64 (Int.tdiv (IntKind.wrap IntKind.i64 (Prod.fst (Prod.snd x) + Prod.snd (Prod.snd x))) (2 : Int)) ∧ IntKind.wrap IntKind.i64 (Int.tdiv (IntKind.wrap IntKind.i64 (Prod.fst (Prod.snd x) + Prod.snd (Prod.snd x))) (2 : Int)) < Prod.snd (Prod.snd x) ∧ Prod.snd (Prod.snd x) ≤ (2828427124 : Int) ∧ IntKind.wrap IntKind.i64 (Int.tdiv (IntKind.wrap IntKind.i64 (Prod.fst (Prod.snd x) + Prod.snd (Prod.snd x))) (2 : Int)) * IntKind.wrap IntKind.i64 (Int.tdiv (IntKind.wrap IntKind.i64 (Prod.fst (Prod.snd x) + Prod.snd (Prod.snd x))) (2 : Int)) ≤ n ∧ n < Prod.snd (Prod.snd x) * Prod.snd (Prod.snd x)) ∧ Int.toNat (Prod.snd (Prod.snd x) - IntKind.wrap IntKind.i64 (Int.tdiv (IntKind.wrap IntKind.i64 (Prod.fst (Prod.snd x) + Prod.snd (Prod.snd x))) (2 : Int))) < Int.toNat (Prod.snd (Prod.snd x) - Prod.fst (Prod.snd x))) (Holds (Prod.fst x = n ∧ (0 : Int) ≤ Prod.fst (Prod.snd x) ∧ Prod.fst (Prod.snd x) < IntKind.wrap IntKind.i64 (Int.tdiv (IntKind.wrap IntKind.i64 (Prod.fst (Prod.snd x) + Prod.snd (Prod.snd x))) (2 : Int)) ∧ IntKind.wrap IntKind.i64 (Int.tdiv (IntKind.wrap IntKind.i64 (Prod.fst (Prod.snd x) + Prod.snd (Prod.snd x))) (2 : Int)) ≤ (2828427124 : Int) ∧ Prod.fst (Prod.snd x) * Prod.fst (Prod.snd x) ≤ n ∧ n < IntKind.wrap IntKind.i64 (Int.tdiv (IntKind.wrap IntKind.i64 (Prod.fst (Prod.snd x) + Prod.snd (Prod.snd x))) (2 : Int)) * IntKind.wrap IntKind.i64 (Int.tdiv (IntKind.wrap IntKind.i64 (Prod.fst (Prod.snd x) + Prod.snd (Prod.snd x))) (2 : Int))) ∧ Int.toNat (IntKind.wrap IntKind.i64 (Int.tdiv (IntKind.wrap IntKind.i64 (Prod.fst (Prod.snd x) + Prod.snd (Prod.snd x))) (2 : Int)) - Prod.fst (Prod.snd x)) < Int.toNat (Prod.snd (Prod.snd x) - Prod.fst (Prod.snd x)))) (Q (SV.int IntKind.i64 (Prod.fst (Prod.snd x))) [])) := by kernel_rfl

theorem ok_implRoot : FsOk Tryz.prog 178 fs_implRoot := fsOk_of tt_ok tabFs_nil mixed Tryz.func178 (by kernel_rfl) (by kernel_rfl) (by
    intro args LL p r HH h hp
    unfold fs_implRoot at h
    dsimp only at h
    split at h
    case h_2 => cases h
    rename_i n
    simp only [Option.some.injEq, Prod.mk.injEq] at h
    obtain ⟨rfl, rfl, rfl⟩ := h
    refine ⟨by simp [Form, stays], (L_root), ?_⟩
    rw [vc_implRoot]
    try dsimp only
    obtain ⟨hn0, hn1⟩ := hp _ rfl
    refine ⟨⟨(by trivial), by omega, by omega, by omega, by omega, by omega⟩, ?_⟩
    rintro ⟨n'', low, high⟩ ⟨h⟩
    dsimp only at h ⊢
    obtain ⟨rfl, g0, g1, g2, g3, g4⟩ := h
    have w1 : IntKind.i64.wrap (high - low) = high - low := wrap_small (by omega) (by omega)
    have w2 : IntKind.i64.wrap (low + high) = low + high := wrap_small (by omega) (by omega)
    have w3 := Int.tdiv_eq_ediv_of_nonneg (b := 2) (show 0 ≤ low + high by omega)
    have w4 : IntKind.i64.wrap ((low + high) / 2) = (low + high) / 2 := wrap_small (by omega) (by omega)
    rw [w1, w2, w3, w4]
    have m0 : 0 ≤ (low + high) / 2 := by omega
    have m1 : (low + high) / 2 ≤ 2828427124 := by omega
    have sqm := sq_le m0 m1
    have sqm0 : 0 ≤ (low + high) / 2 * ((low + high) / 2) := Int.mul_nonneg m0 m0
    have w5 : IntKind.i64.wrap ((low + high) / 2 * ((low + high) / 2)) = (low + high) / 2 * ((low + high) / 2) := wrap_small (by omega) (by omega)
    rw [w5]
    refine ifB_of (fun c2 => ?_) (fun c2 => ?_)
    · have c2 := of_decide_eq_true c2
      refine ifB_of (fun c3 => ?_) (fun c3 => ?_)
      · have c3 := of_decide_eq_true c3
        exact ⟨⟨(by trivial), by omega, by omega, by omega, c3, g4⟩, by omega⟩
      · have c3 := of_decide_eq_false c3
        exact ⟨⟨(by trivial), by omega, by omega, by omega, g3, by omega⟩, by omega⟩
    · have c2 := of_decide_eq_false c2
      have e : high = low + 1 := by omega
      subst e
      rw [rootI_eq ⟨g0, g3, g4⟩]
      exact ⟨rfl, rfl⟩)

noncomputable def fs_implVecLen : Fs := ⟨[], fun args H => match args, H with
  | [.agg [.int .i64 aX, .int .i64 aY]], [] => some (none, .int .i64 (vecLen (Vec.mk aX aY)), [])
  | _, _ => none⟩

theorem vc_implVecLen (aX : Int) (aY : Int) (Q : SV → List Ent → Prop) :
    fnVC tt (look [(173, fs_implFixClamp), (178, fs_implRoot), (94, fs_vecClamped), (160, fs_vecSquare)]) L0 Tryz.f162 [.agg [.int .i64 aX, .int .i64 aY]] [] Q =
    (((0 : Int) ≤ square (Vec.mk (withinI aX (1000000000 : Int)) (withinI aY (1000000000 : Int))) ∧ square (Vec.mk (withinI aX (1000000000 : Int)) (withinI aY (1000000000 : Int))) ≤ (2000000000000000000 : Int)) ∧ Q (SV.int IntKind.i64 (clampTo (1000000000 : Int) (rootI (square (Vec.mk (withinI aX (1000000000 : Int)) (withinI aY (1000000000 : Int))))))) []) := by kernel_rfl

theorem ok_implVecLen : FsOk Tryz.prog 162 fs_implVecLen := fsOk_of tt_ok (tabFs_cons ok_implFixClamp (tabFs_cons ok_implRoot (tabFs_cons ok_vecClamped (tabFs_cons ok_vecSquare tabFs_nil)))) mixed Tryz.func162 (by kernel_rfl) (by kernel_rfl) (by
    intro args LL p r HH h hp
    unfold fs_implVecLen at h
    dsimp only at h
    split at h
    case h_2 => cases h
    rename_i aX aY
    simp only [Option.some.injEq, Prod.mk.injEq] at h
    obtain ⟨rfl, rfl, rfl⟩ := h
    refine ⟨by simp [Form, stays], L0, ?_⟩
    rw [vc_implVecLen]
    try dsimp only
    have := square_clamp ⟨aX, aY⟩
    simp only [withinI_big]
    exact ⟨⟨this.2.1, this.2.2⟩, (by trivial), (by trivial)⟩)

noncomputable def fs_implVecUnit : Fs := ⟨[], fun args H => match args, H with
  | [.agg [.int .i64 aX, .int .i64 aY]], [] => some (none, .agg [.int .i64 (vecUnit (Vec.mk aX aY)).X, .int .i64 (vecUnit (Vec.mk aX aY)).Y], [])
  | _, _ => none⟩

theorem vc_implVecUnit (aX : Int) (aY : Int) (Q : SV → List Ent → Prop) :
    fnVC tt (look [(94, fs_vecClamped), (162, fs_implVecLen)]) L0 Tryz.f161 [.agg [.int .i64 aX, .int .i64 aY]] [] Q =
    (ifB (vecLen (Vec.mk (withinI aX (1000000000 : Int)) (withinI aY (1000000000 : Int))) == (0 : Int)) (Q (SV.agg [SV.int IntKind.i64 (0 : Int), SV.int IntKind.i64 (256 : Int)]) []) (vecLen (Vec.mk (withinI aX (1000000000 : Int)) (withinI aY (1000000000 : Int))) ≠ (0 : Int) ∧ vecLen (Vec.mk (withinI aX (1000000000 : Int)) (withinI aY (1000000000 : Int))) ≠ (0 : Int) ∧ Q (SV.agg [SV.int IntKind.i64 (IntKind.wrap IntKind.i64 (Int.tdiv (IntKind.wrap IntKind.i64 (withinI aX (1000000000 : Int) * (256 : Int))) (vecLen (Vec.mk (withinI aX (1000000000 : Int)) (withinI aY (1000000000 : Int)))))), SV.int IntKind.i64 (IntKind.wrap IntKind.i64 (Int.tdiv (IntKind.wrap IntKind.i64 (withinI aY (1000000000 : Int) * (256 : Int))) (vecLen (Vec.mk (withinI aX (1000000000 : Int)) (withinI aY (1000000000 : Int))))))]) [])) := by kernel_rfl

theorem ok_implVecUnit : FsOk Tryz.prog 161 fs_implVecUnit := fsOk_of tt_ok (tabFs_cons ok_vecClamped (tabFs_cons ok_implVecLen tabFs_nil)) mixed Tryz.func161 (by kernel_rfl) (by kernel_rfl) (by
    intro args LL p r HH h hp
    unfold fs_implVecUnit at h
    dsimp only at h
    split at h
    case h_2 => cases h
    rename_i aX aY
    simp only [Option.some.injEq, Prod.mk.injEq] at h
    obtain ⟨rfl, rfl, rfl⟩ := h
    refine ⟨by simp [Form, stays], L0, ?_⟩
    rw [vc_implVecUnit]
    try dsimp only
    simp only [withinI_big]
    unfold vecUnit
    refine ifB_of (fun c => ?_) (fun c => ?_)
    · have c : vecLen (clampV 1000000000 ⟨aX, aY⟩) = 0 := eq_of_beq c
      rw [if_pos c]
      exact ⟨(by trivial), (by trivial)⟩
    · have c : ¬ vecLen (clampV 1000000000 ⟨aX, aY⟩) = 0 := beq_eq_false_iff_ne.1 c
      rw [if_neg c]
      exact ⟨c, c, (by trivial), (by trivial)⟩)

noncomputable def fs_implRounds : Fs := ⟨[], fun args H => match args, H with
  | [.agg [.int .i64 pX, .int .i64 pY], .int .i64 w, .agg [.int .i64 qX, .int .i64 qY], .int .i64 o], [] => some (none, .tup [.agg [.int .i64 ((roundsF (minus (Vec.mk qX qY) (Vec.mk pX pY)) (W (w + o))).1).Way.X, .int .i64 ((roundsF (minus (Vec.mk qX qY) (Vec.mk pX pY)) (W (w + o))).1).Way.Y, .int .i64 ((roundsF (minus (Vec.mk qX qY) (Vec.mk pX pY)) (W (w + o))).1).Deep], .bool ((roundsF (minus (Vec.mk qX qY) (Vec.mk pX pY)) (W (w + o))).2)], [])
  | _, _ => none⟩

theorem vc_implRounds (pX : Int) (pY : Int) (w : Int) (qX : Int) (qY : Int) (o : Int) (Q : SV → List Ent → Prop) :
    fnVC tt (look [(159, fs_vecMinus), (160, fs_vecSquare), (161, fs_implVecUnit), (162, fs_implVecLen)]) L0 Tryz.f137 [.agg [.int .i64 pX, .int .i64 pY], .int .i64 w, .agg [.int .i64 qX, .int .i64 qY], .int .i64 o] [] Q =
    (ifB (decide (square (minus (Vec.mk qX qY) (Vec.mk pX pY)) > IntKind.wrap IntKind.i64 (IntKind.wrap IntKind.i64 (w + o) * IntKind.wrap IntKind.i64 (w + o)))) (Q (SV.tup [SV.agg [SV.int IntKind.i64 (0 : Int), SV.int IntKind.i64 (0 : Int), SV.int IntKind.i64 (0 : Int)], SV.bool false]) []) (Q (SV.tup [SV.agg [SV.int IntKind.i64 (Vec.X (vecUnit (minus (Vec.mk qX qY) (Vec.mk pX pY)))), SV.int IntKind.i64 (Vec.Y (vecUnit (minus (Vec.mk qX qY) (Vec.mk pX pY)))), SV.int IntKind.i64 (IntKind.wrap IntKind.i64 (IntKind.wrap IntKind.i64 (w + o) - vecLen (minus (Vec.mk qX qY) (Vec.mk pX pY))))], SV.bool true]) [])) := by kernel_rfl

theorem ok_implRounds : FsOk Tryz.prog 137 fs_implRounds := fsOk_of tt_ok (tabFs_cons ok_vecMinus (tabFs_cons ok_vecSquare (tabFs_cons ok_implVecUnit (tabFs_cons ok_implVecLen tabFs_nil)))) mixed Tryz.func137 (by kernel_rfl) (by kernel_rfl) (by
    intro args LL p r HH h hp
    unfold fs_implRounds at h
    dsimp only at h
    split at h
    case h_2 => cases h
    rename_i pX pY w qX qY o
    simp only [Option.some.injEq, Prod.mk.injEq] at h
    obtain ⟨rfl, rfl, rfl⟩ := h
    refine ⟨by simp [Form, stays], L0, ?_⟩
    rw [vc_implRounds]
    try dsimp only
    unfold roundsF
    refine ifB_of (fun c => ?_) (fun c => ?_)
    · have c : square (minus ⟨qX, qY⟩ ⟨pX, pY⟩) > W (W (w + o) * W (w + o)) := of_decide_eq_true c
      rw [if_pos c]
      exact ⟨rfl, rfl⟩
    · have c : ¬ square (minus ⟨qX, qY⟩ ⟨pX, pY⟩) > W (W (w + o) * W (w + o)) := of_decide_eq_false c
      rw [if_neg c]
      exact ⟨rfl, rfl⟩)

noncomputable def fs_implOpposite : Fs := ⟨[], fun args H => match args, H with
  | [.agg [.int .i64 aX, .int .i64 aY]], [] => some (none, .agg [.int .i64 (Vec.mk (W (0 - (Vec.mk aX aY).X)) (W (0 - (Vec.mk aX aY).Y))).X, .int .i64 (Vec.mk (W (0 - (Vec.mk aX aY).X)) (W (0 - (Vec.mk aX aY).Y))).Y], [])
  | _, _ => none⟩

theorem vc_implOpposite (aX : Int) (aY : Int) (Q : SV → List Ent → Prop) :
    fnVC tt (look []) L0 Tryz.f91 [.agg [.int .i64 aX, .int .i64 aY]] [] Q =
    (Q (SV.agg [SV.int IntKind.i64 (IntKind.wrap IntKind.i64 ((0 : Int) - aX)), SV.int IntKind.i64 (IntKind.wrap IntKind.i64 ((0 : Int) - aY))]) []) := by kernel_rfl

theorem ok_implOpposite : FsOk Tryz.prog 91 fs_implOpposite := fsOk_of tt_ok tabFs_nil mixed Tryz.func91 (by kernel_rfl) (by kernel_rfl) (by
    intro args LL p r HH h hp
    unfold fs_implOpposite at h
    dsimp only at h
    split at h
    case h_2 => cases h
    rename_i aX aY
    simp only [Option.some.injEq, Prod.mk.injEq] at h
    obtain ⟨rfl, rfl, rfl⟩ := h
    refine ⟨by simp [Form, stays], L0, ?_⟩
    rw [vc_implOpposite]
    try dsimp only
    exact ⟨rfl, rfl⟩)

noncomputable def fs_implNear : Fs := ⟨[], fun args H => match args, H with
  | [.agg [.int .i64 bLX, .int .i64 bLY, .int .i64 bHX, .int .i64 bHY], .agg [.int .i64 pX, .int .i64 pY]], [] => some (none, .agg [.int .i64 (nearV (Box.mk (Vec.mk bLX bLY) (Vec.mk bHX bHY)) (Vec.mk pX pY)).X, .int .i64 (nearV (Box.mk (Vec.mk bLX bLY) (Vec.mk bHX bHY)) (Vec.mk pX pY)).Y], [])
  | _, _ => none⟩

theorem vc_implNear (bLX : Int) (bLY : Int) (bHX : Int) (bHY : Int) (pX : Int) (pY : Int) (Q : SV → List Ent → Prop) :
    fnVC tt (look []) L0 Tryz.f165 [.agg [.int .i64 bLX, .int .i64 bLY, .int .i64 bHX, .int .i64 bHY], .agg [.int .i64 pX, .int .i64 pY]] [] Q =
    (Q (SV.agg [SV.int IntKind.i64 (if (if bHX < pX then bHX else pX) > bLX then if bHX < pX then bHX else pX else bLX), SV.int IntKind.i64 (if (if bHY < pY then bHY else pY) > bLY then if bHY < pY then bHY else pY else bLY)]) []) := by kernel_rfl

theorem ok_implNear : FsOk Tryz.prog 165 fs_implNear := fsOk_of tt_ok tabFs_nil mixed Tryz.func165 (by kernel_rfl) (by kernel_rfl) (by
    intro args LL p r HH h hp
    unfold fs_implNear at h
    dsimp only at h
    split at h
    case h_2 => cases h
    rename_i bLX bLY bHX bHY pX pY
    simp only [Option.some.injEq, Prod.mk.injEq] at h
    obtain ⟨rfl, rfl, rfl⟩ := h
    refine ⟨by simp [Form, stays], L0, ?_⟩
    rw [vc_implNear]
    try dsimp only
    simp only [max_b, min_b]
    exact ⟨(by trivial), (by trivial)⟩)

def LSboxes  : LS where
  S := Hit × Hit × List Hit × Int × Int
  live := [(4, [none]), (6, [none]), (50, [some .hit]), (51, [none]), (52, [none])]
  shape := fun s => ([.ptr 0 0 0, .ptr 1 0 0, .vec 2, .int .i64 s.2.2.2.1, .int .i64 s.2.2.2.2], [(true, .box [.int .i64 s.1.Way.X, .int .i64 s.1.Way.Y, .int .i64 s.1.Deep]), (true, .box [.int .i64 s.2.1.Way.X, .int .i64 s.2.1.Way.Y, .int .i64 s.2.1.Deep]), (true, .vec .hit s.2.2.1)])
  get := fun v h => match v, h with
    | [.ptr 0 0 0, .ptr 1 0 0, .vec 2, .int .i64 n, .int .i64 i], [(true, .box [.int .i64 zX, .int .i64 zY, .int .i64 zD]), (true, .box [.int .i64 bestX, .int .i64 bestY, .int .i64 bestD]), (true, .vec .hit hs)] => some ((Hit.mk (Vec.mk zX zY) zD), (Hit.mk (Vec.mk bestX bestY) bestD), hs, n, i)
    | _, _ => none
  inv := fun s0 s => Holds (s.2.2.1 = s0.2.2.1 ∧ s.2.2.2.1 = s0.2.2.1.length ∧ 0 ≤ s.2.2.2.2 ∧ s.2.2.2.2 ≤ s0.2.2.1.length ∧ (s0.2.2.1.drop s.2.2.2.2.toNat).foldl less2 s.2.1 = (s0.2.2.1.drop s0.2.2.2.2.toNat).foldl less2 s0.2.1 ∧ s0.2.2.1.length ≤ 100)
  mu := fun s => ((s.2.2.1.length : Int) - s.2.2.2.2).toNat
  ok := by
    intro v h s hg
    try dsimp only at hg
    split at hg <;> cases hg
    rfl

def L_boxes : Loops := fun n => match n with
  | 5 => some LSboxes
  | _ => none
noncomputable def fs_implBoxes : Fs := ⟨[], fun args H => match args, H with
  | [.agg [.int .i64 aLX, .int .i64 aLY, .int .i64 aHX, .int .i64 aHY], .agg [.int .i64 bLX, .int .i64 bLY, .int .i64 bHX, .int .i64 bHY]], [] => some (none, .tup [.agg [.int .i64 ((boxesF (Box.mk (Vec.mk aLX aLY) (Vec.mk aHX aHY)) (Box.mk (Vec.mk bLX bLY) (Vec.mk bHX bHY))).1).Way.X, .int .i64 ((boxesF (Box.mk (Vec.mk aLX aLY) (Vec.mk aHX aHY)) (Box.mk (Vec.mk bLX bLY) (Vec.mk bHX bHY))).1).Way.Y, .int .i64 ((boxesF (Box.mk (Vec.mk aLX aLY) (Vec.mk aHX aHY)) (Box.mk (Vec.mk bLX bLY) (Vec.mk bHX bHY))).1).Deep], .bool ((boxesF (Box.mk (Vec.mk aLX aLY) (Vec.mk aHX aHY)) (Box.mk (Vec.mk bLX bLY) (Vec.mk bHX bHY))).2)], [])
  | _, _ => none⟩

theorem vc_implBoxes (aLX : Int) (aLY : Int) (aHX : Int) (aHY : Int) (bLX : Int) (bLY : Int) (bHX : Int) (bHY : Int) (Q : SV → List Ent → Prop) :
    fnVC tt (look [(163, fs_implMeets)]) (L_boxes) Tryz.f138 [.agg [.int .i64 aLX, .int .i64 aLY, .int .i64 aHX, .int .i64 aHY], .agg [.int .i64 bLX, .int .i64 bLY, .int .i64 bHX, .int .i64 bHY]] [] Q =
    (let w_ := IntKind.wrap IntKind.i64; let s_ := SV.int IntKind.i64; let n_ := Int.toNat; let A18_ := (w_ (bHY - aLY)); let A17_ := (w_ (aHY - bLY)); let A16_ := (w_ (bHX - aLX)); let A15_ := (List.drop (n_ (0 : Int)) [Hit.mk (Vec.mk (-256 : Int) (0 : Int)) A16_, Hit.mk (Vec.mk (0 : Int) (256 : Int)) A17_, Hit.mk (Vec.mk (0 : Int) (-256 : Int)) A18_]); let A14_ := (↑(List.length [Hit.mk (Vec.mk (-256 : Int) (0 : Int)) A16_, Hit.mk (Vec.mk (0 : Int) (256 : Int)) A17_, Hit.mk (Vec.mk (0 : Int) (-256 : Int)) A18_]) : Int); ifB (!boxMeets (Box.mk (Vec.mk aLX aLY) (Vec.mk aHX aHY)) (Box.mk (Vec.mk bLX bLY) (Vec.mk bHX bHY))) (Q (SV.tup [SV.agg [s_ (0 : Int), s_ (0 : Int), s_ (0 : Int)], SV.bool false]) []) (Holds ([Hit.mk (Vec.mk (-256 : Int) (0 : Int)) A16_, Hit.mk (Vec.mk (0 : Int) (256 : Int)) A17_, Hit.mk (Vec.mk (0 : Int) (-256 : Int)) A18_] = [Hit.mk (Vec.mk (-256 : Int) (0 : Int)) A16_, Hit.mk (Vec.mk (0 : Int) (256 : Int)) A17_, Hit.mk (Vec.mk (0 : Int) (-256 : Int)) A18_] ∧ A14_ = A14_ ∧ (0 : Int) ≤ (0 : Int) ∧ (0 : Int) ≤ A14_ ∧ List.foldl less2 (Hit.mk (Vec.mk (256 : Int) (0 : Int)) (w_ (aHX - bLX))) A15_ = List.foldl less2 (Hit.mk (Vec.mk (256 : Int) (0 : Int)) (w_ (aHX - bLX))) A15_ ∧ List.length [Hit.mk (Vec.mk (-256 : Int) (0 : Int)) A16_, Hit.mk (Vec.mk (0 : Int) (256 : Int)) A17_, Hit.mk (Vec.mk (0 : Int) (-256 : Int)) A18_] ≤ (100 : Nat)) ∧ ∀ (y1 : Hit × Hit × List Hit × Int × Int), let y1s1_ := Prod.snd y1; let y1f1_ := Prod.fst (Prod.snd y1); let y1s2_ := Prod.snd (Prod.snd y1); let y1f2_ := Prod.fst (Prod.snd (Prod.snd y1)); let y1s3_ := Prod.snd (Prod.snd (Prod.snd y1)); let y1f3_ := Prod.fst (Prod.snd (Prod.snd (Prod.snd y1))); let y1s4_ := Prod.snd (Prod.snd (Prod.snd (Prod.snd y1))); let A13_ := (↑(List.length y1f2_) : Int); let A11_ := (Hit.mk (Vec.mk (256 : Int) (0 : Int)) (w_ (aHX - bLX))); let A10_ := (Prod.snd y1s3_ + (1 : Int)); let A9_ := (Vec.mk (0 : Int) (256 : Int)); let A8_ := (Vec.mk (0 : Int) (-256 : Int)); let A7_ := (Vec.mk (-256 : Int) (0 : Int)); let A6_ := A18_; let A5_ := A17_; let A4_ := A16_; let A12_ := (List.drop (n_ (w_ A10_)) [Hit.mk A7_ A4_, Hit.mk A9_ A5_, Hit.mk A8_ A6_]); let A3_ := (List.drop (n_ (0 : Int)) [Hit.mk A7_ A4_, Hit.mk A9_ A5_, Hit.mk A8_ A6_]); let A2_ := (↑(List.length [Hit.mk A7_ A4_, Hit.mk A9_ A5_, Hit.mk A8_ A6_]) : Int); Holds (Prod.fst y1s2_ = [Hit.mk A7_ A4_, Hit.mk A9_ A5_, Hit.mk A8_ A6_] ∧ y1f3_ = A2_ ∧ (0 : Int) ≤ y1s4_ ∧ y1s4_ ≤ A2_ ∧ List.foldl less2 y1f1_ (List.drop (n_ y1s4_) [Hit.mk A7_ A4_, Hit.mk A9_ A5_, Hit.mk A8_ A6_]) = List.foldl less2 A11_ A3_ ∧ List.length [Hit.mk A7_ A4_, Hit.mk A9_ A5_, Hit.mk A8_ A6_] ≤ (100 : Nat)) → ifB (decide (Prod.snd y1s3_ < y1f3_)) (((0 : Int) ≤ y1s4_ ∧ y1s4_ < A13_) ∧ ifB (decide (Hit.Deep (Ty.ix Ty.hit y1f2_ (n_ y1s4_)) < Hit.Deep y1f1_)) (Holds (Prod.fst y1s2_ = [Hit.mk A7_ A4_, Hit.mk A9_ A5_, Hit.mk A8_ A6_] ∧ y1f3_ = A2_ ∧ (0 : Int) ≤ w_ A10_ ∧ w_ A10_ ≤ A2_ ∧ List.foldl less2 (Ty.ix Ty.hit y1f2_ (n_ y1s4_)) A12_ = List.foldl less2 A11_ A3_ ∧ List.length [Hit.mk A7_ A4_, Hit.mk A9_ A5_, Hit.mk A8_ A6_] ≤ (100 : Nat)) ∧ n_ (A13_ - w_ A10_) < n_ (A13_ - y1s4_)) (Holds (Prod.fst y1s2_ = [Hit.mk A7_ A4_, Hit.mk A9_ A5_, Hit.mk A8_ A6_] ∧ y1f3_ = A2_ ∧ (0 : Int) ≤ w_ A10_ ∧ w_ A10_ ≤ A2_ ∧ List.foldl less2 y1f1_ A12_ = List.foldl less2 A11_ A3_ ∧ List.length [Hit.mk A7_ A4_, Hit.mk A9_ A5_, Hit.mk A8_ A6_] ≤ (100 : Nat)) ∧ n_ (A13_ - w_ A10_) < n_ (A13_ - y1s4_))) (Q (SV.tup [SV.agg [s_ (Vec.X (Hit.Way y1f1_)), s_ (Vec.Y (Hit.Way y1f1_)), s_ (Hit.Deep y1f1_)], SV.bool true]) []))) := by kernel_rfl

theorem ok_implBoxes : FsOk Tryz.prog 138 fs_implBoxes := fsOk_of tt_ok (tabFs_cons ok_implMeets tabFs_nil) mixed Tryz.func138 (by kernel_rfl) (by kernel_rfl) (by
    intro args LL p r HH h hp
    unfold fs_implBoxes at h
    dsimp only at h
    split at h
    case h_2 => cases h
    rename_i aLX aLY aHX aHY bLX bLY bHX bHY
    simp only [Option.some.injEq, Prod.mk.injEq] at h
    obtain ⟨rfl, rfl, rfl⟩ := h
    refine ⟨by simp [Form, stays], (L_boxes), ?_⟩
    rw [vc_implBoxes]
    try dsimp only
    refine ifB_of (fun c => ?_) (fun c => ?_)
    · simp [boxesF, not_true c]
    have c := not_false c
    refine ⟨⟨(by trivial), (by trivial), by omega, by omega, (by trivial), by simp⟩, ?_⟩
    rintro ⟨z, best, hs, n, i⟩ ⟨h⟩
    dsimp only at h ⊢
    obtain ⟨e1, e2, i0, i1, i2, i3⟩ := h
    have w : IntKind.i64.wrap (i + 1) = i + 1 := wrap_small (by omega) (by omega)
    have ht : (i + 1).toNat = i.toNat + 1 := by omega
    rw [w, ht]
    refine ifB_of (fun c3 => ?_) (fun c3 => ?_)
    · have c3 := of_decide_eq_true c3
      rw [← e1] at i2 i1 i3 e2
      have hd := drop_ix (T := .hit) (xs := hs) (i := i.toNat) (by omega)
      rw [hd, List.foldl_cons] at i2
      refine ⟨⟨i0, by omega⟩, ifB_of (fun c4 => ?_) (fun c4 => ?_)⟩
      · have e : less2 best (Ty.ix .hit hs i.toNat) = Ty.ix .hit hs i.toNat := by
          unfold less2
          rw [c4]
          rfl
        rw [e] at i2
        rw [← e1]
        exact ⟨⟨(by trivial), e2, by omega, by omega, i2, i3⟩, by omega⟩
      · have e : less2 best (Ty.ix .hit hs i.toNat) = best := by
          unfold less2
          rw [c4]
          rfl
        rw [e] at i2
        rw [← e1]
        exact ⟨⟨(by trivial), e2, by omega, by omega, i2, i3⟩, by omega⟩
    · have c3 := of_decide_eq_false c3
      rw [drop_end (by omega)] at i2
      have e : boxesF (Box.mk (Vec.mk aLX aLY) (Vec.mk aHX aHY)) (Box.mk (Vec.mk bLX bLY) (Vec.mk bHX bHY)) = (best, true) := by
        unfold boxesF
        rw [c]
        simp only [cond_true]
        rw [show best = _ from i2]
        rfl
      rw [e]
      exact ⟨(by trivial), (by trivial)⟩)

theorem mixed_no {b : Box} {p : Vec} {w : Int} (h : (mixedF b p w).2 = false) : (mixedF b p w).1 = ⟨⟨0, 0⟩, 0⟩ := by
  unfold mixedF at h ⊢
  cases q : hasPoint b p with
  | true =>
    rw [q] at h
    have hm : boxMeets b ⟨p, p⟩ = true := by
      simp only [hasPoint, isIn, Bool.and_eq_true, decide_eq_true_eq] at q
      simp only [boxMeets, Bool.and_eq_true, decide_eq_true_eq]
      omega
    simp only [cond_true, boxesF, hm] at h
    cases h
  | false =>
    rw [q] at h
    simp only [cond_false] at h ⊢
    unfold roundsF at h ⊢
    split
    · rfl
    · rename_i q2
      rw [if_neg q2] at h
      cases h
noncomputable def fs_implBoxRound : Fs := ⟨[], fun args H => match args, H with
  | [.agg [.int .i64 bLX, .int .i64 bLY, .int .i64 bHX, .int .i64 bHY], .agg [.int .i64 pX, .int .i64 pY], .int .i64 w], [] => some ((some (1 ≤ w ∧ w ≤ 25600)), .tup [.agg [.int .i64 ((mixedF (Box.mk (Vec.mk bLX bLY) (Vec.mk bHX bHY)) (Vec.mk pX pY) w).1).Way.X, .int .i64 ((mixedF (Box.mk (Vec.mk bLX bLY) (Vec.mk bHX bHY)) (Vec.mk pX pY) w).1).Way.Y, .int .i64 ((mixedF (Box.mk (Vec.mk bLX bLY) (Vec.mk bHX bHY)) (Vec.mk pX pY) w).1).Deep], .bool ((mixedF (Box.mk (Vec.mk bLX bLY) (Vec.mk bHX bHY)) (Vec.mk pX pY) w).2)], [])
  | _, _ => none⟩

theorem vc_implBoxRound (bLX : Int) (bLY : Int) (bHX : Int) (bHY : Int) (pX : Int) (pY : Int) (w : Int) (Q : SV → List Ent → Prop) :
    fnVC tt (look [(164, fs_implHasPoint), (165, fs_implNear), (137, fs_implRounds), (138, fs_implBoxes)]) L0 Tryz.f140 [.agg [.int .i64 bLX, .int .i64 bLY, .int .i64 bHX, .int .i64 bHY], .agg [.int .i64 pX, .int .i64 pY], .int .i64 w] [] Q =
    (ifB (!hasPoint (Box.mk (Vec.mk bLX bLY) (Vec.mk bHX bHY)) (Vec.mk pX pY)) (Q (SV.tup [SV.agg [SV.int IntKind.i64 (Vec.X (Hit.Way (Prod.fst (roundsF (minus (Vec.mk pX pY) (nearV (Box.mk (Vec.mk bLX bLY) (Vec.mk bHX bHY)) (Vec.mk pX pY))) (W ((0 : Int) + w)))))), SV.int IntKind.i64 (Vec.Y (Hit.Way (Prod.fst (roundsF (minus (Vec.mk pX pY) (nearV (Box.mk (Vec.mk bLX bLY) (Vec.mk bHX bHY)) (Vec.mk pX pY))) (W ((0 : Int) + w)))))), SV.int IntKind.i64 (Hit.Deep (Prod.fst (roundsF (minus (Vec.mk pX pY) (nearV (Box.mk (Vec.mk bLX bLY) (Vec.mk bHX bHY)) (Vec.mk pX pY))) (W ((0 : Int) + w)))))], SV.bool (Prod.snd (roundsF (minus (Vec.mk pX pY) (nearV (Box.mk (Vec.mk bLX bLY) (Vec.mk bHX bHY)) (Vec.mk pX pY))) (W ((0 : Int) + w))))]) []) (Q (SV.tup [SV.agg [SV.int IntKind.i64 (Vec.X (Hit.Way (Prod.fst (boxesF (Box.mk (Vec.mk bLX bLY) (Vec.mk bHX bHY)) (Box.mk (Vec.mk pX pY) (Vec.mk pX pY)))))), SV.int IntKind.i64 (Vec.Y (Hit.Way (Prod.fst (boxesF (Box.mk (Vec.mk bLX bLY) (Vec.mk bHX bHY)) (Box.mk (Vec.mk pX pY) (Vec.mk pX pY)))))), SV.int IntKind.i64 (IntKind.wrap IntKind.i64 (Hit.Deep (Prod.fst (boxesF (Box.mk (Vec.mk bLX bLY) (Vec.mk bHX bHY)) (Box.mk (Vec.mk pX pY) (Vec.mk pX pY)))) + w))], SV.bool (Prod.snd (boxesF (Box.mk (Vec.mk bLX bLY) (Vec.mk bHX bHY)) (Box.mk (Vec.mk pX pY) (Vec.mk pX pY))))]) [])) := by kernel_rfl

theorem ok_implBoxRound : FsOk Tryz.prog 140 fs_implBoxRound := fsOk_of tt_ok (tabFs_cons ok_implHasPoint (tabFs_cons ok_implNear (tabFs_cons ok_implRounds (tabFs_cons ok_implBoxes tabFs_nil)))) mixed Tryz.func140 (by kernel_rfl) (by kernel_rfl) (by
    intro args LL p r HH h hp
    unfold fs_implBoxRound at h
    dsimp only at h
    split at h
    case h_2 => cases h
    rename_i bLX bLY bHX bHY pX pY w
    simp only [Option.some.injEq, Prod.mk.injEq] at h
    obtain ⟨rfl, rfl, rfl⟩ := h
    refine ⟨by simp [Form, stays], L0, ?_⟩
    rw [vc_implBoxRound]
    try dsimp only
    obtain ⟨h1, h2⟩ := hp _ rfl
    have e : W (0 + w) = w := by rw [Int.zero_add]; exact wrap_small (by omega) (by omega)
    rw [e]
    refine ifB_of (fun c => ?_) (fun c => ?_)
    · have c : hasPoint ⟨⟨bLX, bLY⟩, ⟨bHX, bHY⟩⟩ ⟨pX, pY⟩ = false := not_true c
      simp only [mixedF, c, cond_false]
      exact ⟨(by trivial), (by trivial)⟩
    · have c : hasPoint ⟨⟨bLX, bLY⟩, ⟨bHX, bHY⟩⟩ ⟨pX, pY⟩ = true := not_false c
      simp only [mixedF, c, cond_true]
      exact ⟨(by trivial), (by trivial)⟩)

noncomputable def touchI (a : Shape) (p : Vec) (b : Shape) (q : Vec) : Hit × Bool :=
  bif a.Kind == 1 && b.Kind == 1 then roundsF (minus q p) (W (a.Wide + b.Wide))
  else bif a.Kind == 2 && b.Kind == 2 then boxesF (bounds a p) (bounds b q)
  else bif a.Kind == 2 then mixedF (bounds a p) q b.Wide
  else (turnH (mixedF (bounds b q) p a.Wide).1, (mixedF (bounds b q) p a.Wide).2)
theorem touchI_eq (a : Shape) (p : Vec) (b : Shape) (q : Vec) : touchF a p b q = touchI a p b q := by
  unfold touchF touchI
  congr 3
  have hn := mixed_no (b := bounds b q) (p := p) (w := a.Wide)
  generalize mixedF (bounds b q) p a.Wide = u at *
  obtain ⟨h, ok⟩ := u
  cases ok with
  | true => rfl
  | false =>
    have := hn rfl
    dsimp only at this
    subst this
    rfl
noncomputable def fs_implTouch : Fs := ⟨[], fun args H => match args, H with
  | [.agg [.int .i64 aK, .int .i64 aW, .int .i64 aH], .agg [.int .i64 pX, .int .i64 pY], .agg [.int .i64 bK, .int .i64 bW, .int .i64 bH], .agg [.int .i64 qX, .int .i64 qY]], [] => some (none, .tup [.agg [.int .i64 ((touchAll (Shape.mk aK aW aH) (Vec.mk pX pY) (Shape.mk bK bW bH) (Vec.mk qX qY)).1).Way.X, .int .i64 ((touchAll (Shape.mk aK aW aH) (Vec.mk pX pY) (Shape.mk bK bW bH) (Vec.mk qX qY)).1).Way.Y, .int .i64 ((touchAll (Shape.mk aK aW aH) (Vec.mk pX pY) (Shape.mk bK bW bH) (Vec.mk qX qY)).1).Deep], .bool ((touchAll (Shape.mk aK aW aH) (Vec.mk pX pY) (Shape.mk bK bW bH) (Vec.mk qX qY)).2)], [])
  | _, _ => none⟩

theorem vc_implTouch (aK : Int) (aW : Int) (aH : Int) (pX : Int) (pY : Int) (bK : Int) (bW : Int) (bH : Int) (qX : Int) (qY : Int) (Q : SV → List Ent → Prop) :
    fnVC tt (look [(108, fs_implShapeOk), (109, fs_isPlace), (137, fs_implRounds), (138, fs_implBoxes), (139, fs_implBounds), (140, fs_implBoxRound), (91, fs_implOpposite)]) L0 Tryz.f107 [.agg [.int .i64 aK, .int .i64 aW, .int .i64 aH], .agg [.int .i64 pX, .int .i64 pY], .agg [.int .i64 bK, .int .i64 bW, .int .i64 bH], .agg [.int .i64 qX, .int .i64 qY]] [] Q =
    (let s_ := SV.int IntKind.i64; let A4_ := (roundsF (minus (Vec.mk qX qY) (Vec.mk pX pY)) (W (aW + bW))); let A3_ := (boxesF (bounds (Shape.mk aK aW aH) (Vec.mk pX pY)) (bounds (Shape.mk bK bW bH) (Vec.mk qX qY))); let A2_ := (mixedF (bounds (Shape.mk bK bW bH) (Vec.mk qX qY)) (Vec.mk pX pY) aW); let A1_ := (mixedF (bounds (Shape.mk aK aW aH) (Vec.mk pX pY)) (Vec.mk qX qY) bW); ifB (!shapeOk (Shape.mk aK aW aH)) (Q (SV.tup [SV.agg [s_ (0 : Int), s_ (0 : Int), s_ (0 : Int)], SV.bool false]) []) (ifB (!shapeOk (Shape.mk bK bW bH)) (Q (SV.tup [SV.agg [s_ (0 : Int), s_ (0 : Int), s_ (0 : Int)], SV.bool false]) []) (ifB (!placeOk (Vec.mk pX pY)) (Q (SV.tup [SV.agg [s_ (0 : Int), s_ (0 : Int), s_ (0 : Int)], SV.bool false]) []) (ifB (!placeOk (Vec.mk qX qY)) (Q (SV.tup [SV.agg [s_ (0 : Int), s_ (0 : Int), s_ (0 : Int)], SV.bool false]) []) (ifB (aK == (1 : Int)) (ifB (bK == (1 : Int)) (Q (SV.tup [SV.agg [s_ (Vec.X (Hit.Way (Prod.fst A4_))), s_ (Vec.Y (Hit.Way (Prod.fst A4_))), s_ (Hit.Deep (Prod.fst A4_))], SV.bool (Prod.snd A4_)]) []) (ifB (aK == (2 : Int)) (ifB (bK == (2 : Int)) (Q (SV.tup [SV.agg [s_ (Vec.X (Hit.Way (Prod.fst A3_))), s_ (Vec.Y (Hit.Way (Prod.fst A3_))), s_ (Hit.Deep (Prod.fst A3_))], SV.bool (Prod.snd A3_)]) []) (ifB (aK == (2 : Int)) (((1 : Int) ≤ bW ∧ bW ≤ (25600 : Int)) ∧ Q (SV.tup [SV.agg [s_ (Vec.X (Hit.Way (Prod.fst A1_))), s_ (Vec.Y (Hit.Way (Prod.fst A1_))), s_ (Hit.Deep (Prod.fst A1_))], SV.bool (Prod.snd A1_)]) []) (((1 : Int) ≤ aW ∧ aW ≤ (25600 : Int)) ∧ Q (SV.tup [SV.agg [s_ (W ((0 : Int) - Vec.X (Hit.Way (Prod.fst A2_)))), s_ (W ((0 : Int) - Vec.Y (Hit.Way (Prod.fst A2_)))), s_ (Hit.Deep (Prod.fst A2_))], SV.bool (Prod.snd A2_)]) []))) (ifB (aK == (2 : Int)) (((1 : Int) ≤ bW ∧ bW ≤ (25600 : Int)) ∧ Q (SV.tup [SV.agg [s_ (Vec.X (Hit.Way (Prod.fst A1_))), s_ (Vec.Y (Hit.Way (Prod.fst A1_))), s_ (Hit.Deep (Prod.fst A1_))], SV.bool (Prod.snd A1_)]) []) (((1 : Int) ≤ aW ∧ aW ≤ (25600 : Int)) ∧ Q (SV.tup [SV.agg [s_ (W ((0 : Int) - Vec.X (Hit.Way (Prod.fst A2_)))), s_ (W ((0 : Int) - Vec.Y (Hit.Way (Prod.fst A2_)))), s_ (Hit.Deep (Prod.fst A2_))], SV.bool (Prod.snd A2_)]) [])))) (ifB (aK == (2 : Int)) (ifB (bK == (2 : Int)) (Q (SV.tup [SV.agg [s_ (Vec.X (Hit.Way (Prod.fst A3_))), s_ (Vec.Y (Hit.Way (Prod.fst A3_))), s_ (Hit.Deep (Prod.fst A3_))], SV.bool (Prod.snd A3_)]) []) (ifB (aK == (2 : Int)) (((1 : Int) ≤ bW ∧ bW ≤ (25600 : Int)) ∧ Q (SV.tup [SV.agg [s_ (Vec.X (Hit.Way (Prod.fst A1_))), s_ (Vec.Y (Hit.Way (Prod.fst A1_))), s_ (Hit.Deep (Prod.fst A1_))], SV.bool (Prod.snd A1_)]) []) (((1 : Int) ≤ aW ∧ aW ≤ (25600 : Int)) ∧ Q (SV.tup [SV.agg [s_ (W ((0 : Int) - Vec.X (Hit.Way (Prod.fst A2_)))), s_ (W ((0 : Int) - Vec.Y (Hit.Way (Prod.fst A2_)))), s_ (Hit.Deep (Prod.fst A2_))], SV.bool (Prod.snd A2_)]) []))) (ifB (aK == (2 : Int)) (((1 : Int) ≤ bW ∧ bW ≤ (25600 : Int)) ∧ Q (SV.tup [SV.agg [s_ (Vec.X (Hit.Way (Prod.fst A1_))), s_ (Vec.Y (Hit.Way (Prod.fst A1_))), s_ (Hit.Deep (Prod.fst A1_))], SV.bool (Prod.snd A1_)]) []) (((1 : Int) ≤ aW ∧ aW ≤ (25600 : Int)) ∧ Q (SV.tup [SV.agg [s_ (W ((0 : Int) - Vec.X (Hit.Way (Prod.fst A2_)))), s_ (W ((0 : Int) - Vec.Y (Hit.Way (Prod.fst A2_)))), s_ (Hit.Deep (Prod.fst A2_))], SV.bool (Prod.snd A2_)]) [])))))))) := by kernel_rfl

theorem ok_implTouch : FsOk Tryz.prog 107 fs_implTouch := fsOk_of tt_ok (tabFs_cons ok_implShapeOk (tabFs_cons ok_isPlace (tabFs_cons ok_implRounds (tabFs_cons ok_implBoxes (tabFs_cons ok_implBounds (tabFs_cons ok_implBoxRound (tabFs_cons ok_implOpposite tabFs_nil))))))) mixed Tryz.func107 (by kernel_rfl) (by kernel_rfl) (by
    intro args LL p r HH h hp
    unfold fs_implTouch at h
    dsimp only at h
    split at h
    case h_2 => cases h
    rename_i aK aW aH pX pY bK bW bH qX qY
    simp only [Option.some.injEq, Prod.mk.injEq] at h
    obtain ⟨rfl, rfl, rfl⟩ := h
    refine ⟨by simp [Form, stays], L0, ?_⟩
    rw [vc_implTouch]
    try dsimp only
    refine ifB_of (fun c => ?_) (fun c => ifB_of (fun c2 => ?_) (fun c2 => ifB_of (fun c3 => ?_) (fun c3 => ifB_of (fun c4 => ?_) (fun c4 => ?_))))
    · simp [touchAll, not_true c]
    · simp [touchAll, not_true c2]
    · simp [touchAll, not_true c3]
    · simp [touchAll, not_true c4]
    have ha := shapeOk_le (not_false c)
    have hb := shapeOk_le (not_false c2)
    dsimp only at ha hb
    simp only [touchAll, not_false c, not_false c2, not_false c3, not_false c4, Bool.and_self, cond_true]
    rw [touchI_eq]
    unfold touchI
    clear hp
    repeat' (first | refine ifB_of (fun c => ?_) (fun c => ?_) | refine pre_of (by omega) (fun _ => ?_) | fail)
    all_goals
      first
        | (simp only [*, cond_true, cond_false, Bool.true_and, Bool.false_and, Bool.and_true, Bool.and_false, and_self, true_and]; done)
        | (exfalso; simp_all; done)
        | (simp_all [turnH]; done))

noncomputable def fs_implBodyTouch : Fs := ⟨[], fun args H => match args, H with
  | [.agg [.int .i64 aI, .int .i64 aK, .int .i64 aW, .int .i64 aH, .int .i64 aX, .int .i64 aY, .int .i64 aU, .int .i64 aV, .int .i64 aM, .int .i64 aB, .int .i64 aR, .int .i64 aQ], .agg [.int .i64 bI, .int .i64 bK, .int .i64 bW, .int .i64 bH, .int .i64 bX, .int .i64 bY, .int .i64 bU, .int .i64 bV, .int .i64 bM, .int .i64 bB, .int .i64 bR, .int .i64 bQ]], [] => some (none, .tup [.agg [.int .i64 ((touchAll (Body.mk aI (Shape.mk aK aW aH) (Vec.mk aX aY) (Vec.mk aU aV) aM aB aR aQ).Shape (Body.mk aI (Shape.mk aK aW aH) (Vec.mk aX aY) (Vec.mk aU aV) aM aB aR aQ).At (Body.mk bI (Shape.mk bK bW bH) (Vec.mk bX bY) (Vec.mk bU bV) bM bB bR bQ).Shape (Body.mk bI (Shape.mk bK bW bH) (Vec.mk bX bY) (Vec.mk bU bV) bM bB bR bQ).At).1).Way.X, .int .i64 ((touchAll (Body.mk aI (Shape.mk aK aW aH) (Vec.mk aX aY) (Vec.mk aU aV) aM aB aR aQ).Shape (Body.mk aI (Shape.mk aK aW aH) (Vec.mk aX aY) (Vec.mk aU aV) aM aB aR aQ).At (Body.mk bI (Shape.mk bK bW bH) (Vec.mk bX bY) (Vec.mk bU bV) bM bB bR bQ).Shape (Body.mk bI (Shape.mk bK bW bH) (Vec.mk bX bY) (Vec.mk bU bV) bM bB bR bQ).At).1).Way.Y, .int .i64 ((touchAll (Body.mk aI (Shape.mk aK aW aH) (Vec.mk aX aY) (Vec.mk aU aV) aM aB aR aQ).Shape (Body.mk aI (Shape.mk aK aW aH) (Vec.mk aX aY) (Vec.mk aU aV) aM aB aR aQ).At (Body.mk bI (Shape.mk bK bW bH) (Vec.mk bX bY) (Vec.mk bU bV) bM bB bR bQ).Shape (Body.mk bI (Shape.mk bK bW bH) (Vec.mk bX bY) (Vec.mk bU bV) bM bB bR bQ).At).1).Deep], .bool ((touchAll (Body.mk aI (Shape.mk aK aW aH) (Vec.mk aX aY) (Vec.mk aU aV) aM aB aR aQ).Shape (Body.mk aI (Shape.mk aK aW aH) (Vec.mk aX aY) (Vec.mk aU aV) aM aB aR aQ).At (Body.mk bI (Shape.mk bK bW bH) (Vec.mk bX bY) (Vec.mk bU bV) bM bB bR bQ).Shape (Body.mk bI (Shape.mk bK bW bH) (Vec.mk bX bY) (Vec.mk bU bV) bM bB bR bQ).At).2)], [])
  | _, _ => none⟩

theorem vc_implBodyTouch (aI : Int) (aK : Int) (aW : Int) (aH : Int) (aX : Int) (aY : Int) (aU : Int) (aV : Int) (aM : Int) (aB : Int) (aR : Int) (aQ : Int) (bI : Int) (bK : Int) (bW : Int) (bH : Int) (bX : Int) (bY : Int) (bU : Int) (bV : Int) (bM : Int) (bB : Int) (bR : Int) (bQ : Int) (Q : SV → List Ent → Prop) :
    fnVC tt (look [(107, fs_implTouch)]) L0 Tryz.f65 [.agg [.int .i64 aI, .int .i64 aK, .int .i64 aW, .int .i64 aH, .int .i64 aX, .int .i64 aY, .int .i64 aU, .int .i64 aV, .int .i64 aM, .int .i64 aB, .int .i64 aR, .int .i64 aQ], .agg [.int .i64 bI, .int .i64 bK, .int .i64 bW, .int .i64 bH, .int .i64 bX, .int .i64 bY, .int .i64 bU, .int .i64 bV, .int .i64 bM, .int .i64 bB, .int .i64 bR, .int .i64 bQ]] [] Q =
    (Q (SV.tup [SV.agg [SV.int IntKind.i64 (Vec.X (Hit.Way (Prod.fst (touchAll (Shape.mk aK aW aH) (Vec.mk aX aY) (Shape.mk bK bW bH) (Vec.mk bX bY))))), SV.int IntKind.i64 (Vec.Y (Hit.Way (Prod.fst (touchAll (Shape.mk aK aW aH) (Vec.mk aX aY) (Shape.mk bK bW bH) (Vec.mk bX bY))))), SV.int IntKind.i64 (Hit.Deep (Prod.fst (touchAll (Shape.mk aK aW aH) (Vec.mk aX aY) (Shape.mk bK bW bH) (Vec.mk bX bY))))], SV.bool (Prod.snd (touchAll (Shape.mk aK aW aH) (Vec.mk aX aY) (Shape.mk bK bW bH) (Vec.mk bX bY)))]) []) := by kernel_rfl

theorem ok_implBodyTouch : FsOk Tryz.prog 65 fs_implBodyTouch := fsOk_of tt_ok (tabFs_cons ok_implTouch tabFs_nil) mixed Tryz.func65 (by kernel_rfl) (by kernel_rfl) (by
    intro args LL p r HH h hp
    unfold fs_implBodyTouch at h
    dsimp only at h
    split at h
    case h_2 => cases h
    rename_i aI aK aW aH aX aY aU aV aM aB aR aQ bI bK bW bH bX bY bU bV bM bB bR bQ
    simp only [Option.some.injEq, Prod.mk.injEq] at h
    obtain ⟨rfl, rfl, rfl⟩ := h
    refine ⟨by simp [Form, stays], L0, ?_⟩
    rw [vc_implBodyTouch]
    try dsimp only
    exact ⟨(by trivial), (by trivial)⟩)


noncomputable def touchB (a b : Body) : Hit × Bool := touchAll a.Shape a.At b.Shape b.At
noncomputable def conAt (xs : List Body) (i k : Nat) : List Contact :=
  bif (Ty.ix .body xs i).Mass == 0 && (Ty.ix .body xs k).Mass == 0 then [] else bif (touchB (Ty.ix .body xs i) (Ty.ix .body xs k)).2 then [⟨i, k, (touchB (Ty.ix .body xs i) (Ty.ix .body xs k)).1⟩] else []
/-- With the last m of a list. -/
noncomputable def conRow (xs : List Body) (i : Nat) : Nat → List Contact
  | 0 => []
  | m + 1 => conAt xs i (xs.length - (m + 1)) ++ conRow xs i m
noncomputable def conAll (xs : List Body) : Nat → List Contact
  | 0 => []
  | m + 1 => conRow xs (xs.length - (m + 1)) m ++ conAll xs m
noncomputable def contactsF (xs : List Body) : List Contact := conAll xs xs.length
noncomputable def contactsOf (xs : List Body) : List Contact := bif bodiesOk xs then contactsF xs else []
theorem length_conAt (xs : List Body) (i k : Nat) : (conAt xs i k).length ≤ 1 := by
  unfold conAt
  cases (Ty.ix .body xs i).Mass == 0 && (Ty.ix .body xs k).Mass == 0 <;> cases (touchB (Ty.ix .body xs i) (Ty.ix .body xs k)).2 <;> simp
theorem length_conRow (xs : List Body) (i : Nat) : ∀ m, (conRow xs i m).length ≤ m
  | 0 => by simp [conRow]
  | m + 1 => by
    have h1 := length_conAt xs i (xs.length - (m + 1))
    have h2 := length_conRow xs i m
    simp only [conRow, List.length_append]
    omega
theorem length_conAll (xs : List Body) : ∀ m, (conAll xs m).length ≤ m * m
  | 0 => by simp [conAll]
  | m + 1 => by
    have h1 := length_conRow xs (xs.length - (m + 1)) m
    have h2 := length_conAll xs m
    simp only [conAll, List.length_append, Nat.add_mul, Nat.mul_add, Nat.one_mul, Nat.mul_one]
    omega
theorem length_contactsF {xs : List Body} (h : xs.length ≤ 12) : (contactsF xs).length ≤ 144 := by
  have h1 := length_conAll xs xs.length
  have h2 : xs.length * xs.length ≤ 12 * 12 := Nat.mul_le_mul h h
  unfold contactsF
  omega
theorem length_contactsOf (xs : List Body) : (contactsOf xs).length ≤ 144 := by
  unfold contactsOf
  cases h : bodiesOk xs with
  | true => exact length_contactsF (bodiesOk_len h)
  | false => simp
theorem conRow_at {xs : List Body} {i k : Nat} (h : k < xs.length) : conRow xs i (xs.length - k) = conAt xs i k ++ conRow xs i (xs.length - (k + 1)) := by
  have e : xs.length - k = (xs.length - (k + 1)) + 1 := by omega
  rw [e, conRow]
  congr 2
  omega
theorem conAll_at {xs : List Body} {i : Nat} (h : i < xs.length) : conAll xs (xs.length - i) = conRow xs i (xs.length - (i + 1)) ++ conAll xs (xs.length - (i + 1)) := by
  have e : xs.length - i = (xs.length - (i + 1)) + 1 := by omega
  rw [e, conAll]
  congr 2
  omega
/-- One that touches. -/
def isCt (xs : List Body) (c : Contact) : Prop := ∃ i k : Nat, i < k ∧ k < xs.length ∧ c = ⟨i, k, (touchB (Ty.ix .body xs i) (Ty.ix .body xs k)).1⟩ ∧ (touchB (Ty.ix .body xs i) (Ty.ix .body xs k)).2 = true ∧ ¬ ((Ty.ix .body xs i).Mass = 0 ∧ (Ty.ix .body xs k).Mass = 0)
theorem mem_conAt {xs : List Body} {i k : Nat} {c : Contact} (h : c ∈ conAt xs i k) : c = ⟨i, k, (touchB (Ty.ix .body xs i) (Ty.ix .body xs k)).1⟩ ∧ (touchB (Ty.ix .body xs i) (Ty.ix .body xs k)).2 = true ∧ ¬ ((Ty.ix .body xs i).Mass = 0 ∧ (Ty.ix .body xs k).Mass = 0) := by
  unfold conAt at h
  cases q : (Ty.ix .body xs i).Mass == 0 && (Ty.ix .body xs k).Mass == 0 with
  | true => rw [q] at h; simp at h
  | false =>
    cases q2 : (touchB (Ty.ix .body xs i) (Ty.ix .body xs k)).2 with
    | true =>
      rw [q, q2] at h
      simp only [cond_true, cond_false, List.mem_singleton] at h
      refine ⟨h, rfl, fun e => ?_⟩
      rw [e.1, e.2] at q
      simp at q
    | false => rw [q, q2] at h; simp at h
theorem mem_conRow {xs : List Body} {i : Nat} {c : Contact} : ∀ {m : Nat}, i < xs.length - m → m ≤ xs.length → c ∈ conRow xs i m → isCt xs c
  | 0, _, _, h => by simp [conRow] at h
  | m + 1, hi, hm, h => by
    simp only [conRow, List.mem_append] at h
    rcases h with h | h
    · obtain ⟨h1, h2, h3⟩ := mem_conAt h
      exact ⟨i, xs.length - (m + 1), by omega, by omega, h1, h2, h3⟩
    · exact mem_conRow (by omega) (by omega) h
theorem mem_conAll {xs : List Body} {c : Contact} : ∀ {m : Nat}, m ≤ xs.length → c ∈ conAll xs m → isCt xs c
  | 0, _, h => by simp [conAll] at h
  | m + 1, hm, h => by
    simp only [conAll, List.mem_append] at h
    rcases h with h | h
    · exact mem_conRow (by omega) (by omega) h
    · exact mem_conAll (by omega) h
theorem mem_contactsF {xs : List Body} {c : Contact} (h : c ∈ contactsF xs) : isCt xs c := mem_conAll (Nat.le_refl _) h
theorem touch_ok {xs : List Body} (h : bodiesOk xs = true) {i k : Nat} (hi : i < xs.length) (hk : k < xs.length) : touchB (Ty.ix .body xs i) (Ty.ix .body xs k) = touchF (Ty.ix .body xs i).Shape (Ty.ix .body xs i).At (Ty.ix .body xs k).Shape (Ty.ix .body xs k).At ∧
    shapeOk (Ty.ix .body xs i).Shape = true ∧ placeOk (Ty.ix .body xs i).At = true ∧ shapeOk (Ty.ix .body xs k).Shape = true ∧ placeOk (Ty.ix .body xs k).At = true := by
  have h1 := bodiesOk_each h hi
  have h2 := bodiesOk_each h hk
  simp only [bodyOk, Bool.and_eq_true] at h1 h2
  have a1 := h1.1.1.1.1.1.1.1.2
  have a2 := h1.1.1.1.1.1.1.2
  have b1 := h2.1.1.1.1.1.1.1.2
  have b2 := h2.1.1.1.1.1.1.2
  exact ⟨by simp [touchB, touchAll, a1, a2, b1, b2], a1, a2, b1, b2⟩
theorem conAt_fix {xs : List Body} {i k : Nat} (h1 : ((Ty.ix .body xs i).Mass == 0) = true) (h2 : ((Ty.ix .body xs k).Mass == 0) = true) : conAt xs i k = [] := by
  simp only [conAt, h1, h2, Bool.and_self, cond_true]
theorem conAt_hit {xs : List Body} {i k : Int} (hi : 0 ≤ i) (hk : 0 ≤ k) (h1 : ((Ty.ix .body xs i.toNat).Mass == 0) = false ∨ ((Ty.ix .body xs k.toNat).Mass == 0) = false) (h2 : (touchB (Ty.ix .body xs i.toNat) (Ty.ix .body xs k.toNat)).2 = true) : conAt xs i.toNat k.toNat = [⟨i, k, (touchB (Ty.ix .body xs i.toNat) (Ty.ix .body xs k.toNat)).1⟩] := by
  have e : ((Ty.ix .body xs i.toNat).Mass == 0 && (Ty.ix .body xs k.toNat).Mass == 0) = false := by
    rcases h1 with h1 | h1 <;> simp [h1]
  simp only [conAt, e, h2, cond_true, cond_false, Int.toNat_of_nonneg hi, Int.toNat_of_nonneg hk]
theorem conAt_miss {xs : List Body} {i k : Nat} (h2 : (touchB (Ty.ix .body xs i) (Ty.ix .body xs k)).2 = false) : conAt xs i k = [] := by
  simp only [conAt, h2, cond_false]
  cases (Ty.ix .body xs i).Mass == 0 && (Ty.ix .body xs k).Mass == 0 <;> rfl
def LSsc1  : LS where
  S := List Body × Unit × List Contact × Int
  live := [(0, [none]), (3, [some .contact]), (4, [none])]
  shape := fun s => ([.vec 0, .vec 1, .int .i64 s.2.2.2], [(false, .vec .body s.1), (true, .vec .contact s.2.2.1)])
  get := fun v h => match v, h with
    | [.vec 0, .vec 1, .int .i64 i], [(false, .vec .body xs), (true, .vec .contact out)] => some (xs, (), out, i)
    | _, _ => none
  inv := fun s0 s => Holds (s.1 = s0.1 ∧ 0 ≤ s.2.2.2 ∧ s.2.2.2 ≤ s0.1.length ∧ s.2.2.1 ++ conAll s0.1 (s0.1.length - s.2.2.2.toNat) = conAll s0.1 s0.1.length)
  mu := fun s => ((s.1.length : Int) - s.2.2.2).toNat
  ok := by
    intro v h s hg
    try dsimp only at hg
    split at hg <;> cases hg
    rfl

def LSsc2  : LS where
  S := List Body × Unit × List Contact × Int × Int
  live := [(0, [none]), (3, [some .contact]), (4, [none]), (5, [none])]
  shape := fun s => ([.vec 0, .vec 1, .int .i64 s.2.2.2.1, .int .i64 s.2.2.2.2], [(false, .vec .body s.1), (true, .vec .contact s.2.2.1)])
  get := fun v h => match v, h with
    | [.vec 0, .vec 1, .int .i64 i, .int .i64 k], [(false, .vec .body xs), (true, .vec .contact out)] => some (xs, (), out, i, k)
    | _, _ => none
  inv := fun s0 s => Holds (s.1 = s0.1 ∧ s.2.2.2.1 = s0.2.2.2.1 ∧ s0.2.2.2.1 < s.2.2.2.2 ∧ s.2.2.2.2 ≤ s0.1.length ∧ s.2.2.1 ++ conRow s0.1 s0.2.2.2.1.toNat (s0.1.length - s.2.2.2.2.toNat) = s0.2.2.1 ++ conRow s0.1 s0.2.2.2.1.toNat (s0.1.length - s0.2.2.2.2.toNat))
  mu := fun s => ((s.1.length : Int) - s.2.2.2.2).toNat
  ok := by
    intro v h s hg
    try dsimp only at hg
    split at hg <;> cases hg
    rfl

def L_specCon : Loops := fun n => match n with
  | 3 => some LSsc1
  | 6 => some LSsc2
  | _ => none
noncomputable def fs_l7Contacts : Fs := ⟨[], fun args H => match args, H with
  | [.vec 0], [(false, .vec .body xs)] => some ((some (bodiesOk xs = true)), .vec 1, [(false, .vec .body xs), (true, .vec .contact (contactsF xs))])
  | _, _ => none⟩

theorem vc_l7Contacts (xs : List Body) (Q : SV → List Ent → Prop) :
    fnVC tt (look [(121, fs_l5Touch)]) (L_specCon) Tryz.f96 [.vec 0] [(false, .vec .body xs)] Q =
    (let w_ := IntKind.wrap IntKind.i64; let n_ := Int.toNat; Holds (xs = xs ∧ (0 : Int) ≤ (0 : Int) ∧ (0 : Int) ≤ (↑(List.length xs) : Int) ∧ [] ++ conAll xs (List.length xs - n_ (0 : Int)) = conAll xs (List.length xs)) ∧ ∀ (y12 : List Body × Unit × List Contact × Int), let y12f0_ := Prod.fst y12; let y12s1_ := Prod.snd y12; let y12s2_ := Prod.snd (Prod.snd y12); let y12f2_ := Prod.fst (Prod.snd (Prod.snd y12)); let y12s3_ := Prod.snd (Prod.snd (Prod.snd y12)); let A13_ := (List.length y12f0_ - n_ (w_ (Prod.snd y12s2_ + (1 : Int)))); Holds (Prod.fst y12 = xs ∧ (0 : Int) ≤ y12s3_ ∧ y12s3_ ≤ (↑(List.length xs) : Int) ∧ y12f2_ ++ conAll xs (List.length xs - n_ y12s3_) = conAll xs (List.length xs)) → ifB (decide (Prod.snd y12s2_ < (↑(List.length y12f0_) : Int))) (Holds (Prod.fst y12 = y12f0_ ∧ y12s3_ = y12s3_ ∧ y12s3_ < w_ (Prod.snd y12s2_ + (1 : Int)) ∧ w_ (Prod.snd y12s2_ + (1 : Int)) ≤ (↑(List.length y12f0_) : Int) ∧ y12f2_ ++ conRow y12f0_ (n_ y12s3_) A13_ = y12f2_ ++ conRow y12f0_ (n_ y12s3_) A13_) ∧ ∀ (y1 : List Body × Unit × List Contact × Int × Int), let y1f0_ := Prod.fst y1; let y1s1_ := Prod.snd y1; let y1f2_ := Prod.fst (Prod.snd (Prod.snd y1)); let y1s3_ := Prod.snd (Prod.snd (Prod.snd y1)); let y1f3_ := Prod.fst (Prod.snd (Prod.snd (Prod.snd y1))); let y1s4_ := Prod.snd (Prod.snd (Prod.snd (Prod.snd y1))); let A10_ := (↑(List.length y12f0_) : Int); let A9_ := (Ty.ix Ty.body y1f0_ (n_ y1s4_)); let A8_ := (Ty.ix Ty.body y1f0_ (n_ y1f3_)); let A6_ := (Prod.snd y1s3_ + (1 : Int)); let A7_ := (List.length y12f0_ - n_ (w_ A6_)); let A5_ := (n_ y12s3_); let A4_ := (↑(List.length y1f0_) : Int); let A11_ := (A4_ - w_ A6_); let A3_ := A13_; let A2_ := (touchF (Body.Shape A8_) (Body.At A8_) (Body.Shape A9_) (Body.At A9_)); Holds (Prod.fst y1 = y12f0_ ∧ y1f3_ = y12s3_ ∧ y12s3_ < y1s4_ ∧ y1s4_ ≤ A10_ ∧ y1f2_ ++ conRow y12f0_ A5_ (List.length y12f0_ - n_ y1s4_) = y12f2_ ++ conRow y12f0_ A5_ A3_) → ifB (decide (Prod.snd y1s3_ < A4_)) (((0 : Int) ≤ y1f3_ ∧ y1f3_ < A4_) ∧ ifB (Body.Mass A8_ == (0 : Int)) (((0 : Int) ≤ y1s4_ ∧ y1s4_ < A4_) ∧ ifB (Body.Mass A9_ == (0 : Int)) (Holds (Prod.fst y1 = y12f0_ ∧ y1f3_ = y12s3_ ∧ y12s3_ < w_ A6_ ∧ w_ A6_ ≤ A10_ ∧ y1f2_ ++ conRow y12f0_ A5_ A7_ = y12f2_ ++ conRow y12f0_ A5_ A3_) ∧ n_ A11_ < n_ (A4_ - y1s4_)) (((0 : Int) ≤ y1f3_ ∧ y1f3_ < A4_) ∧ ((0 : Int) ≤ y1f3_ ∧ y1f3_ < A4_) ∧ ((0 : Int) ≤ y1s4_ ∧ y1s4_ < A4_) ∧ ((0 : Int) ≤ y1s4_ ∧ y1s4_ < A4_) ∧ (shapeOk (Body.Shape A8_) = true ∧ placeOk (Body.At A8_) = true ∧ shapeOk (Body.Shape A9_) = true ∧ placeOk (Body.At A9_) = true) ∧ ifB (Prod.snd A2_) ((List.length y1f2_ + List.length [Contact.mk y1f3_ y1s4_ (Prod.fst A2_)]) * (40 : Nat) ≤ room ∧ Holds (Prod.fst y1 = y12f0_ ∧ y1f3_ = y12s3_ ∧ y12s3_ < w_ A6_ ∧ w_ A6_ ≤ A10_ ∧ y1f2_ ++ [Contact.mk y1f3_ y1s4_ (Prod.fst A2_)] ++ conRow y12f0_ A5_ A7_ = y12f2_ ++ conRow y12f0_ A5_ A3_) ∧ n_ A11_ < n_ (A4_ - y1s4_)) (Holds (Prod.fst y1 = y12f0_ ∧ y1f3_ = y12s3_ ∧ y12s3_ < w_ A6_ ∧ w_ A6_ ≤ A10_ ∧ y1f2_ ++ conRow y12f0_ A5_ A7_ = y12f2_ ++ conRow y12f0_ A5_ A3_) ∧ n_ A11_ < n_ (A4_ - y1s4_)))) (((0 : Int) ≤ y1f3_ ∧ y1f3_ < A4_) ∧ ((0 : Int) ≤ y1f3_ ∧ y1f3_ < A4_) ∧ ((0 : Int) ≤ y1s4_ ∧ y1s4_ < A4_) ∧ ((0 : Int) ≤ y1s4_ ∧ y1s4_ < A4_) ∧ (shapeOk (Body.Shape A8_) = true ∧ placeOk (Body.At A8_) = true ∧ shapeOk (Body.Shape A9_) = true ∧ placeOk (Body.At A9_) = true) ∧ ifB (Prod.snd A2_) ((List.length y1f2_ + List.length [Contact.mk y1f3_ y1s4_ (Prod.fst A2_)]) * (40 : Nat) ≤ room ∧ Holds (Prod.fst y1 = y12f0_ ∧ y1f3_ = y12s3_ ∧ y12s3_ < w_ A6_ ∧ w_ A6_ ≤ A10_ ∧ y1f2_ ++ [Contact.mk y1f3_ y1s4_ (Prod.fst A2_)] ++ conRow y12f0_ A5_ A7_ = y12f2_ ++ conRow y12f0_ A5_ A3_) ∧ n_ A11_ < n_ (A4_ - y1s4_)) (Holds (Prod.fst y1 = y12f0_ ∧ y1f3_ = y12s3_ ∧ y12s3_ < w_ A6_ ∧ w_ A6_ ≤ A10_ ∧ y1f2_ ++ conRow y12f0_ A5_ A7_ = y12f2_ ++ conRow y12f0_ A5_ A3_) ∧ n_ A11_ < n_ (A4_ - y1s4_)))) (Holds (Prod.fst y1 = xs ∧ (0 : Int) ≤ w_ (Prod.fst y1s3_ + (1 : Int)) ∧ w_ (Prod.fst y1s3_ + (1 : Int)) ≤ (↑(List.length xs) : Int) ∧ y1f2_ ++ conAll xs (List.length xs - n_ (w_ (Prod.fst y1s3_ + (1 : Int)))) = conAll xs (List.length xs)) ∧ n_ (A4_ - w_ (Prod.fst y1s3_ + (1 : Int))) < n_ (A10_ - y12s3_))) (Q (SV.vec (1 : Nat)) [(false, Blk.vec Ty.body y12f0_), (true, Blk.vec Ty.contact y12f2_)])) := by kernel_rfl

theorem ok_l7Contacts : FsOk Tryz.prog 96 fs_l7Contacts := fsOk_of tt_ok (tabFs_cons ok_l5Touch tabFs_nil) mixed Tryz.func96 (by kernel_rfl) (by kernel_rfl) (by
    intro args LL p r HH h hp
    unfold fs_l7Contacts at h
    dsimp only at h
    split at h
    case h_2 => cases h
    rename_i xs
    simp only [Option.some.injEq, Prod.mk.injEq] at h
    obtain ⟨rfl, rfl, rfl⟩ := h
    refine ⟨by simp [Form, stays], (L_specCon), ?_⟩
    rw [vc_l7Contacts]
    try dsimp only
    have hok := hp _ rfl
    have hl := bodiesOk_len hok
    have hq := length_contactsF hl
    unfold contactsF at hq
    refine ⟨⟨(by trivial), by omega, by omega, rfl⟩, ?_⟩
    rintro ⟨xs', u, out, i⟩ ⟨h⟩
    dsimp only at h ⊢
    obtain ⟨rfl, h0, h1, h2⟩ := h
    refine ifB_of (fun c1 => ?_) (fun c1 => ?_)
    · have hi := of_decide_eq_true c1
      have e1 : (i + 1).toNat = i.toNat + 1 := by omega
      have hs2 := congrArg List.length h2
      rw [conAll_at (show i.toNat < xs'.length by omega)] at h2 hs2
      simp only [List.length_append] at hs2
      have hw : IntKind.i64.wrap (i + 1) = i + 1 := wrap_small (by omega) (by omega)
      rw [hw]
      refine ⟨⟨(by trivial), (by trivial), by omega, by omega, (by trivial)⟩, ?_⟩
      rintro ⟨xs'', u', out', i', k⟩ ⟨h⟩
      dsimp only at h ⊢
      obtain ⟨rfl, rfl, g1, g2, g3⟩ := h
      have hs3 := congrArg List.length g3
      rw [e1] at g3 hs3
      simp only [List.length_append] at hs3
      refine ifB_of (fun c2 => ?_) (fun c2 => ?_)
      · have hk := of_decide_eq_true c2
        have e2 : (k + 1).toNat = k.toNat + 1 := by omega
        rw [conRow_at (show k.toNat < xs''.length by omega)] at g3
        have ht := touch_ok hok (i := i'.toNat) (k := k.toNat) (by omega) (by omega)
        rw [← ht.1]
        have hI : 0 ≤ i' ∧ i' < ↑xs''.length := ⟨by omega, by omega⟩
        have hK : 0 ≤ k ∧ k < ↑xs''.length := ⟨by omega, by omega⟩
        have hw2 : IntKind.i64.wrap (k + 1) = k + 1 := wrap_small (by omega) (by omega)
        rw [hw2, e1, e2]
        have fin : ∀ {u : List Contact}, conAt xs'' i'.toNat k.toNat = u → (Holds (xs'' = xs'' ∧ i' = i' ∧ i' < k + 1 ∧ k + 1 ≤ ↑xs''.length ∧ out' ++ u ++ conRow xs'' i'.toNat (xs''.length - (k.toNat + 1)) = out ++ conRow xs'' i'.toNat (xs''.length - (i'.toNat + 1))) ∧ (↑xs''.length - (k + 1)).toNat < (↑xs''.length - k).toNat) := by
          rintro u rfl
          exact ⟨⟨rfl, rfl, by omega, by omega, by rw [← g3, List.append_assoc]⟩, by omega⟩
        have fin0 := @fin []
        rw [List.append_nil] at fin0
        refine ⟨hI, ifB_of (fun c3 => ⟨hK, ifB_of (fun c4 => fin0 (conAt_fix c3 c4)) (fun c4 => ?_)⟩) (fun c3 => ?_)⟩
        · refine ⟨hI, hI, hK, hK, ht.2, ifB_of (fun c5 => ?_) (fun c5 => fin0 (conAt_miss c5))⟩
          exact ⟨by simp only [room, List.length_singleton]; omega, fin (conAt_hit hI.1 hK.1 (.inr c4) c5)⟩
        · refine ⟨hI, hI, hK, hK, ht.2, ifB_of (fun c5 => ?_) (fun c5 => fin0 (conAt_miss c5))⟩
          exact ⟨by simp only [room, List.length_singleton]; omega, fin (conAt_hit hI.1 hK.1 (.inl c3) c5)⟩
      · have hk := of_decide_eq_false c2
        simp (disch := omega) only [wrap_small, e1]
        have e3 : xs''.length - k.toNat = 0 := by omega
        rw [e3] at g3
        refine ⟨⟨(by trivial), by omega, by omega, ?_⟩, by omega⟩
        rw [← h2, ← List.append_assoc, ← g3]
        simp [conRow]
    · have hi := of_decide_eq_false c1
      have e3 : xs'.length - i.toNat = 0 := by omega
      rw [e3] at h2
      simp only [conAll, List.append_nil] at h2
      rw [h2]
      exact ⟨(by trivial), (by trivial)⟩)

def LSic1  : LS where
  S := List Body × Unit × List Contact × Unit × Int × Int
  live := [(0, [none]), (3, [some .contact]), (12, [none]), (13, [none]), (14, [none])]
  shape := fun s => ([.vec 0, .vec 1, .vec 0, .int .i64 s.2.2.2.2.1, .int .i64 s.2.2.2.2.2], [(false, .vec .body s.1), (true, .vec .contact s.2.2.1)])
  get := fun v h => match v, h with
    | [.vec 0, .vec 1, .vec 0, .int .i64 n, .int .i64 i], [(false, .vec .body xs), (true, .vec .contact out)] => some (xs, (), out, (), n, i)
    | _, _ => none
  inv := fun s0 s => Holds (s.1 = s0.1 ∧ s.2.2.2.2.1 = s0.1.length ∧ 0 ≤ s.2.2.2.2.2 ∧ s.2.2.2.2.2 ≤ s0.1.length ∧ s.2.2.1 ++ conAll s0.1 (s0.1.length - s.2.2.2.2.2.toNat) = conAll s0.1 s0.1.length)
  mu := fun s => ((s.1.length : Int) - s.2.2.2.2.2).toNat
  ok := by
    intro v h s hg
    try dsimp only at hg
    split at hg <;> cases hg
    rfl

def LSic2  : LS where
  S := List Body × Unit × List Contact × Int × Body × Int × Unit × Int × Int
  live := [(0, [none]), (3, [some .contact]), (4, [none]), (5, [none]), (6, [none]), (12, [none]), (13, [none]), (14, [none])]
  shape := fun s => ([.vec 0, .vec 1, .int .i64 s.2.2.2.1, .ptr 2 0 0, .int .i64 s.2.2.2.2.2.1, .vec 0, .int .i64 s.2.2.2.2.2.2.2.1, .int .i64 s.2.2.2.2.2.2.2.2], [(false, .vec .body s.1), (true, .vec .contact s.2.2.1), (true, .box [.int .i64 s.2.2.2.2.1.Id, .int .i64 s.2.2.2.2.1.Shape.Kind, .int .i64 s.2.2.2.2.1.Shape.Wide, .int .i64 s.2.2.2.2.1.Shape.High, .int .i64 s.2.2.2.2.1.At.X, .int .i64 s.2.2.2.2.1.At.Y, .int .i64 s.2.2.2.2.1.Drive.X, .int .i64 s.2.2.2.2.1.Drive.Y, .int .i64 s.2.2.2.2.1.Mass, .int .i64 s.2.2.2.2.1.Bounce, .int .i64 s.2.2.2.2.1.Rub, .int .i64 s.2.2.2.2.1.Quiet])])
  get := fun v h => match v, h with
    | [.vec 0, .vec 1, .int .i64 i, .ptr 2 0 0, .int .i64 k, .vec 0, .int .i64 n, .int .i64 j], [(false, .vec .body xs), (true, .vec .contact out), (true, .box [.int .i64 bI, .int .i64 bK, .int .i64 bW, .int .i64 bH, .int .i64 bX, .int .i64 bY, .int .i64 bU, .int .i64 bV, .int .i64 bM, .int .i64 bB, .int .i64 bR, .int .i64 bQ])] => some (xs, (), out, i, (Body.mk bI (Shape.mk bK bW bH) (Vec.mk bX bY) (Vec.mk bU bV) bM bB bR bQ), k, (), n, j)
    | _, _ => none
  inv := fun s0 s => Holds (s.1 = s0.1 ∧ s.2.2.2.1 = s0.2.2.2.1 ∧ s.2.2.2.2.1 = s0.2.2.2.2.1 ∧ s.2.2.2.2.2.2.2.1 = s0.2.2.2.2.2.2.2.1 ∧ s.2.2.2.2.2.2.2.2 = s0.2.2.2.2.2.2.2.2 ∧ s0.2.2.2.1 < s.2.2.2.2.2.1 ∧ s.2.2.2.2.2.1 ≤ s0.1.length ∧ s.2.2.1 ++ conRow s0.1 s0.2.2.2.1.toNat (s0.1.length - s.2.2.2.2.2.1.toNat) = s0.2.2.1 ++ conRow s0.1 s0.2.2.2.1.toNat (s0.1.length - s0.2.2.2.2.2.1.toNat))
  mu := fun s => ((s.1.length : Int) - s.2.2.2.2.2.1).toNat
  ok := by
    intro v h s hg
    try dsimp only at hg
    split at hg <;> cases hg
    rfl

def L_implCon : Loops := fun n => match n with
  | 5 => some LSic1
  | 8 => some LSic2
  | _ => none
noncomputable def fs_implContacts : Fs := ⟨[], fun args H => match args, H with
  | [.vec 0], [(false, .vec .body xs)] => some ((some (xs.length ≤ 1048576)), .vec 1, [(false, .vec .body xs), (true, .vec .contact (contactsOf xs))])
  | _, _ => none⟩

theorem vc_implContacts (xs : List Body) (Q : SV → List Ent → Prop) :
    fnVC tt (look [(47, fs_implBodiesOk), (64, fs_bodyFixed), (65, fs_implBodyTouch)]) (L_implCon) Tryz.f21 [.vec 0] [(false, .vec .body xs)] Q =
    (let w_ := IntKind.wrap IntKind.i64; let n_ := Int.toNat; let ib_ := Ty.ix Ty.body; List.length xs ≤ (4611686018427387904 : Nat) ∧ ifB (!bodiesOk xs) (Q (SV.vec (1 : Nat)) [(false, Blk.vec Ty.body xs), (true, Blk.vec Ty.contact [])]) (Holds (xs = xs ∧ (↑(List.length xs) : Int) = (↑(List.length xs) : Int) ∧ (0 : Int) ≤ (0 : Int) ∧ (0 : Int) ≤ (↑(List.length xs) : Int) ∧ [] ++ conAll xs (List.length xs - n_ (0 : Int)) = conAll xs (List.length xs)) ∧ ∀ (y11 : List Body × Unit × List Contact × Unit × Int × Int), let y11f0_ := Prod.fst y11; let y11s1_ := Prod.snd y11; let y11f2_ := Prod.fst (Prod.snd (Prod.snd y11)); let y11s4_ := Prod.snd (Prod.snd (Prod.snd (Prod.snd y11))); let y11f4_ := Prod.fst (Prod.snd (Prod.snd (Prod.snd (Prod.snd y11)))); let y11s5_ := Prod.snd (Prod.snd (Prod.snd (Prod.snd (Prod.snd y11)))); Holds (Prod.fst y11 = xs ∧ y11f4_ = (↑(List.length xs) : Int) ∧ (0 : Int) ≤ y11s5_ ∧ y11s5_ ≤ (↑(List.length xs) : Int) ∧ y11f2_ ++ conAll xs (List.length xs - n_ y11s5_) = conAll xs (List.length xs)) → ifB (decide (Prod.snd y11s4_ < y11f4_)) (((0 : Int) ≤ y11s5_ ∧ y11s5_ < (↑(List.length y11f0_) : Int)) ∧ Holds (Prod.fst y11 = y11f0_ ∧ y11s5_ = y11s5_ ∧ ib_ y11f0_ (n_ y11s5_) = ib_ y11f0_ (n_ y11s5_) ∧ y11f4_ = y11f4_ ∧ y11s5_ = y11s5_ ∧ y11s5_ < w_ (Prod.snd y11s4_ + (1 : Int)) ∧ w_ (Prod.snd y11s4_ + (1 : Int)) ≤ (↑(List.length y11f0_) : Int) ∧ y11f2_ ++ conRow y11f0_ (n_ y11s5_) (List.length y11f0_ - n_ (w_ (Prod.snd y11s4_ + (1 : Int)))) = y11f2_ ++ conRow y11f0_ (n_ y11s5_) (List.length y11f0_ - n_ (w_ (Prod.snd y11s4_ + (1 : Int))))) ∧ ∀ (y1 : List Body × Unit × List Contact × Int × Body × Int × Unit × Int × Int), let y1f0_ := Prod.fst y1; let y1s1_ := Prod.snd y1; let y1f2_ := Prod.fst (Prod.snd (Prod.snd y1)); let y1f3_ := Prod.fst (Prod.snd (Prod.snd (Prod.snd y1))); let y1f4_ := Prod.fst (Prod.snd (Prod.snd (Prod.snd (Prod.snd y1)))); let y1s5_ := Prod.snd (Prod.snd (Prod.snd (Prod.snd (Prod.snd y1)))); let y1f5_ := Prod.fst (Prod.snd (Prod.snd (Prod.snd (Prod.snd (Prod.snd y1))))); let y1s7_ := Prod.snd (Prod.snd (Prod.snd (Prod.snd (Prod.snd (Prod.snd (Prod.snd y1)))))); let y1f7_ := Prod.fst (Prod.snd (Prod.snd (Prod.snd (Prod.snd (Prod.snd (Prod.snd (Prod.snd y1))))))); let y1s8_ := Prod.snd (Prod.snd (Prod.snd (Prod.snd (Prod.snd (Prod.snd (Prod.snd (Prod.snd y1))))))); let A9_ := (↑(List.length y11f0_) : Int); let A7_ := (↑(List.length y1f0_) : Int); let A4_ := (Prod.fst y1s5_ + (1 : Int)); let A10_ := (A7_ - w_ A4_); let A8_ := (List.length y11f0_ - n_ (w_ A4_)); let A3_ := (touchAll (Body.Shape y1f4_) (Body.At y1f4_) (Body.Shape (ib_ y1f0_ (n_ y1f5_))) (Body.At (ib_ y1f0_ (n_ y1f5_)))); let A2_ := y11s4_; let A6_ := (n_ (Prod.snd A2_)); let A5_ := (List.length y11f0_ - n_ (w_ (Prod.snd A2_ + (1 : Int)))); Holds (Prod.fst y1 = y11f0_ ∧ y1f3_ = Prod.snd A2_ ∧ y1f4_ = ib_ y11f0_ A6_ ∧ y1f7_ = Prod.fst A2_ ∧ y1s8_ = Prod.snd A2_ ∧ Prod.snd A2_ < y1f5_ ∧ y1f5_ ≤ A9_ ∧ y1f2_ ++ conRow y11f0_ A6_ (List.length y11f0_ - n_ y1f5_) = y11f2_ ++ conRow y11f0_ A6_ A5_) → ifB (decide (Prod.fst y1s5_ < A7_)) (ifB (Body.Mass y1f4_ == (0 : Int)) (((0 : Int) ≤ y1f5_ ∧ y1f5_ < A7_) ∧ ifB (Body.Mass (ib_ y1f0_ (n_ y1f5_)) == (0 : Int)) (Holds (Prod.fst y1 = y11f0_ ∧ y1f3_ = Prod.snd A2_ ∧ y1f4_ = ib_ y11f0_ A6_ ∧ y1f7_ = Prod.fst A2_ ∧ y1s8_ = Prod.snd A2_ ∧ Prod.snd A2_ < w_ A4_ ∧ w_ A4_ ≤ A9_ ∧ y1f2_ ++ conRow y11f0_ A6_ A8_ = y11f2_ ++ conRow y11f0_ A6_ A5_) ∧ n_ A10_ < n_ (A7_ - y1f5_)) (((0 : Int) ≤ y1f5_ ∧ y1f5_ < A7_) ∧ ifB (Prod.snd A3_) ((List.length y1f2_ + List.length [Contact.mk y1f3_ y1f5_ (Prod.fst A3_)]) * (40 : Nat) ≤ room ∧ Holds (Prod.fst y1 = y11f0_ ∧ y1f3_ = Prod.snd A2_ ∧ y1f4_ = ib_ y11f0_ A6_ ∧ y1f7_ = Prod.fst A2_ ∧ y1s8_ = Prod.snd A2_ ∧ Prod.snd A2_ < w_ A4_ ∧ w_ A4_ ≤ A9_ ∧ y1f2_ ++ [Contact.mk y1f3_ y1f5_ (Prod.fst A3_)] ++ conRow y11f0_ A6_ A8_ = y11f2_ ++ conRow y11f0_ A6_ A5_) ∧ n_ A10_ < n_ (A7_ - y1f5_)) (Holds (Prod.fst y1 = y11f0_ ∧ y1f3_ = Prod.snd A2_ ∧ y1f4_ = ib_ y11f0_ A6_ ∧ y1f7_ = Prod.fst A2_ ∧ y1s8_ = Prod.snd A2_ ∧ Prod.snd A2_ < w_ A4_ ∧ w_ A4_ ≤ A9_ ∧ y1f2_ ++ conRow y11f0_ A6_ A8_ = y11f2_ ++ conRow y11f0_ A6_ A5_) ∧ n_ A10_ < n_ (A7_ - y1f5_)))) (((0 : Int) ≤ y1f5_ ∧ y1f5_ < A7_) ∧ ifB (Prod.snd A3_) ((List.length y1f2_ + List.length [Contact.mk y1f3_ y1f5_ (Prod.fst A3_)]) * (40 : Nat) ≤ room ∧ Holds (Prod.fst y1 = y11f0_ ∧ y1f3_ = Prod.snd A2_ ∧ y1f4_ = ib_ y11f0_ A6_ ∧ y1f7_ = Prod.fst A2_ ∧ y1s8_ = Prod.snd A2_ ∧ Prod.snd A2_ < w_ A4_ ∧ w_ A4_ ≤ A9_ ∧ y1f2_ ++ [Contact.mk y1f3_ y1f5_ (Prod.fst A3_)] ++ conRow y11f0_ A6_ A8_ = y11f2_ ++ conRow y11f0_ A6_ A5_) ∧ n_ A10_ < n_ (A7_ - y1f5_)) (Holds (Prod.fst y1 = y11f0_ ∧ y1f3_ = Prod.snd A2_ ∧ y1f4_ = ib_ y11f0_ A6_ ∧ y1f7_ = Prod.fst A2_ ∧ y1s8_ = Prod.snd A2_ ∧ Prod.snd A2_ < w_ A4_ ∧ w_ A4_ ≤ A9_ ∧ y1f2_ ++ conRow y11f0_ A6_ A8_ = y11f2_ ++ conRow y11f0_ A6_ A5_) ∧ n_ A10_ < n_ (A7_ - y1f5_)))) (Holds (Prod.fst y1 = xs ∧ y1f7_ = (↑(List.length xs) : Int) ∧ (0 : Int) ≤ w_ (Prod.snd y1s7_ + (1 : Int)) ∧ w_ (Prod.snd y1s7_ + (1 : Int)) ≤ (↑(List.length xs) : Int) ∧ y1f2_ ++ conAll xs (List.length xs - n_ (w_ (Prod.snd y1s7_ + (1 : Int)))) = conAll xs (List.length xs)) ∧ n_ (A7_ - w_ (Prod.snd y1s7_ + (1 : Int))) < n_ (A9_ - Prod.snd A2_))) (Q (SV.vec (1 : Nat)) [(false, Blk.vec Ty.body y11f0_), (true, Blk.vec Ty.contact y11f2_)]))) := by kernel_rfl

theorem ok_implContacts : FsOk Tryz.prog 21 fs_implContacts := fsOk_of tt_ok (tabFs_cons ok_implBodiesOk (tabFs_cons ok_bodyFixed (tabFs_cons ok_implBodyTouch tabFs_nil))) mixed Tryz.func21 (by kernel_rfl) (by kernel_rfl) (by
    intro args LL p r HH h hp
    unfold fs_implContacts at h
    dsimp only at h
    split at h
    case h_2 => cases h
    rename_i xs
    simp only [Option.some.injEq, Prod.mk.injEq] at h
    obtain ⟨rfl, rfl, rfl⟩ := h
    refine ⟨by simp [Form, stays], (L_implCon), ?_⟩
    rw [vc_implContacts]
    try dsimp only
    have hb := hp _ rfl
    refine ⟨by omega, ifB_of (fun c1 => ?_) (fun c1 => ?_)⟩
    · simp [contactsOf, not_true c1]
    have hok := not_false c1
    have hl := bodiesOk_len hok
    have hq := length_contactsF hl
    unfold contactsF at hq
    simp only [contactsOf, hok, cond_true]
    refine ⟨⟨(by trivial), (by trivial), by omega, by omega, (by trivial)⟩, ?_⟩
    rintro ⟨xs', u, out, v, n, i⟩ ⟨h⟩
    dsimp only at h ⊢
    obtain ⟨rfl, rfl, h0, h1, h2⟩ := h
    refine ifB_of (fun c1 => ?_) (fun c1 => ?_)
    · have hi := of_decide_eq_true c1
      have e1 : (i + 1).toNat = i.toNat + 1 := by omega
      have hs2 := congrArg List.length h2
      rw [conAll_at (show i.toNat < xs'.length by omega)] at h2 hs2
      simp only [List.length_append] at hs2
      have hw : IntKind.i64.wrap (i + 1) = i + 1 := wrap_small (by omega) (by omega)
      rw [hw]
      refine ⟨⟨by omega, hi⟩, ⟨(by trivial), (by trivial), (by trivial), (by trivial), (by trivial), by omega, by omega, (by trivial)⟩, ?_⟩
      rintro ⟨xs'', u', out', i', b, k, v', n', j⟩ ⟨h⟩
      dsimp only at h ⊢
      obtain ⟨rfl, rfl, rfl, rfl, rfl, g1, g2, g3⟩ := h
      have hs3 := congrArg List.length g3
      rw [e1] at g3 hs3
      simp only [List.length_append] at hs3
      refine ifB_of (fun c2 => ?_) (fun c2 => ?_)
      · have hk := of_decide_eq_true c2
        have e2 : (k + 1).toNat = k.toNat + 1 := by omega
        rw [conRow_at (show k.toNat < xs''.length by omega)] at g3
        have hK : 0 ≤ k ∧ k < ↑xs''.length := ⟨by omega, by omega⟩
        have hw2 : IntKind.i64.wrap (k + 1) = k + 1 := wrap_small (by omega) (by omega)
        rw [hw2, e1, e2]
        have fin : ∀ {u : List Contact}, conAt xs'' j.toNat k.toNat = u → (Holds (xs'' = xs'' ∧ j = j ∧ Ty.ix .body xs'' j.toNat = Ty.ix .body xs'' j.toNat ∧ (xs''.length : Int) = xs''.length ∧ j = j ∧ j < k + 1 ∧ k + 1 ≤ ↑xs''.length ∧ out' ++ u ++ conRow xs'' j.toNat (xs''.length - (k.toNat + 1)) = out ++ conRow xs'' j.toNat (xs''.length - (j.toNat + 1))) ∧ (↑xs''.length - (k + 1)).toNat < (↑xs''.length - k).toNat) := by
          rintro u rfl
          exact ⟨⟨rfl, rfl, rfl, rfl, rfl, by omega, by omega, by rw [← g3, List.append_assoc]⟩, by omega⟩
        have fin0 := @fin []
        rw [List.append_nil] at fin0
        refine ifB_of (fun c3 => ⟨hK, ifB_of (fun c4 => fin0 (conAt_fix c3 c4)) (fun c4 => ?_)⟩) (fun c3 => ?_)
        · refine ⟨hK, ifB_of (fun c5 => ?_) (fun c5 => fin0 (conAt_miss c5))⟩
          exact ⟨by simp only [room, List.length_singleton]; omega, fin (conAt_hit h0 hK.1 (.inr c4) c5)⟩
        · refine ⟨hK, ifB_of (fun c5 => ?_) (fun c5 => fin0 (conAt_miss c5))⟩
          exact ⟨by simp only [room, List.length_singleton]; omega, fin (conAt_hit h0 hK.1 (.inl c3) c5)⟩
      · have hk := of_decide_eq_false c2
        simp (disch := omega) only [wrap_small, e1]
        have e3 : xs''.length - k.toNat = 0 := by omega
        rw [e3] at g3
        refine ⟨⟨(by trivial), (by trivial), by omega, by omega, ?_⟩, by omega⟩
        rw [← h2, ← List.append_assoc, ← g3]
        simp [conRow]
    · have hi := of_decide_eq_false c1
      have e3 : xs'.length - i.toNat = 0 := by omega
      rw [e3] at h2
      simp only [conAll, List.append_nil] at h2
      rw [h2]
      exact ⟨(by trivial), (by trivial)⟩)

end Go.Proofs.YtnahfbjdicjdpaaGreat.Sym

namespace Go.Proofs.YtnahfbjdicjdpaaGreat.Grp
set_option linter.unusedVariables false
set_option linter.unusedSimpArgs false

abbrev Edge := Nat × Nat
def upd (f : Nat → Int) (a : Nat) (g : Int) : Nat → Int := fun i => if i = a then g else f i
def relax (f : Nat → Int) (e : Edge) : Nat → Int := upd (upd f e.1 (min (f e.1) (f e.2))) e.2 (min (f e.1) (f e.2))
def round (E : List Edge) (f : Nat → Int) : Nat → Int := E.foldl relax f
def rounds (E : List Edge) : Nat → (Nat → Int) → (Nat → Int)
  | 0, f => f
  | n + 1, f => rounds E n (round E f)
theorem rounds_succ (E : List Edge) : ∀ (n : Nat) (f : Nat → Int), rounds E (n + 1) f = round E (rounds E n f)
  | 0, f => rfl
  | n + 1, f => rounds_succ E n (round E f)
def closed (E : List Edge) (C : Nat → Prop) : Prop := ∀ e, e ∈ E → (C e.1 ↔ C e.2)
def conn (E : List Edge) (i j : Nat) : Prop := ∀ C, closed E C → C i → C j
theorem conn_refl {E : List Edge} (i : Nat) : conn E i i := fun _ _ h => h
theorem conn_trans {E : List Edge} {i j k : Nat} (h : conn E i j) (g : conn E j k) : conn E i k := fun C hC hi => g C hC (h C hC hi)
theorem conn_symm {E : List Edge} {i j : Nat} (h : conn E i j) : conn E j i := fun C hC hj => Classical.byContradiction fun hi => h (fun x => ¬ C x) (fun e he => not_congr (hC e he)) hi hj
theorem conn_edge {E : List Edge} {e : Edge} (h : e ∈ E) : conn E e.1 e.2 := fun _ hC h1 => (hC e h).1 h1
theorem cm_ex (E : List Edge) (i : Nat) : ∃ m, conn E i m ∧ ∀ j, conn E i j → m ≤ j := by
  refine Classical.byContradiction fun hn => ?_
  have : ∀ k, ¬ conn E i k := by
    intro k
    induction k using Nat.strongRecOn with
    | ind k ih =>
      intro hk
      exact hn ⟨k, hk, fun j hj => Nat.le_of_not_lt fun hlt => ih j hlt hj⟩
  exact this i (conn_refl i)
noncomputable def cm (E : List Edge) (i : Nat) : Nat := Classical.choose (cm_ex E i)
theorem cm_conn (E : List Edge) (i : Nat) : conn E i (cm E i) := (Classical.choose_spec (cm_ex E i)).1
theorem cm_least {E : List Edge} {i j : Nat} (h : conn E i j) : cm E i ≤ j := (Classical.choose_spec (cm_ex E i)).2 j h
theorem cm_le (E : List Edge) (i : Nat) : cm E i ≤ i := cm_least (conn_refl i)
theorem cm_eq {E : List Edge} {i j : Nat} (h : conn E i j) : cm E i = cm E j :=
  Nat.le_antisymm (cm_least (conn_trans h (cm_conn E j))) (cm_least (conn_trans (conn_symm h) (cm_conn E i)))
theorem conn_iff {E : List Edge} {i j : Nat} : conn E i j ↔ cm E i = cm E j :=
  ⟨cm_eq, fun h => conn_trans (cm_conn E i) (by rw [h]; exact conn_symm (cm_conn E j))⟩
theorem cm_cm (E : List Edge) (i : Nat) : cm E (cm E i) = cm E i := (cm_eq (cm_conn E i)).symm
/-- Labels of one's own part, none behind one. -/
def Lab (E : List Edge) (f : Nat → Int) : Prop := ∀ i, ∃ j : Nat, f i = j ∧ conn E i j ∧ j ≤ i
def set (E : List Edge) (f : Nat → Int) (i : Nat) : Prop := f i = cm E i
theorem lab_ge {E : List Edge} {f : Nat → Int} (h : Lab E f) (i : Nat) : (cm E i : Int) ≤ f i := by
  obtain ⟨j, h1, h2, _⟩ := h i
  have := cm_least h2
  omega
theorem lab_id (E : List Edge) : Lab E (fun i => i) := fun i => ⟨i, rfl, conn_refl i, Nat.le_refl _⟩
theorem relax_at (f : Nat → Int) (e : Edge) (i : Nat) : relax f e i = if i = e.2 ∨ i = e.1 then min (f e.1) (f e.2) else f i := by
  unfold relax upd
  by_cases h : i = e.2 <;> by_cases g : i = e.1 <;> simp [h, g]
theorem relax_lab {E : List Edge} {f : Nat → Int} {e : Edge} (he : e ∈ E) (h : Lab E f) : Lab E (relax f e) := by
  intro i
  rw [relax_at]
  obtain ⟨a, a1, a2, a3⟩ := h e.1
  obtain ⟨b, b1, b2, b3⟩ := h e.2
  split
  · rename_i q
    by_cases hab : a ≤ b
    · refine ⟨a, by rw [a1, b1]; omega, ?_, ?_⟩
      · rcases q with q | q
        · rw [q]; exact conn_trans (conn_symm (conn_edge he)) a2
        · rw [q]; exact a2
      · rcases q with q | q <;> omega
    · refine ⟨b, by rw [a1, b1]; omega, ?_, ?_⟩
      · rcases q with q | q
        · rw [q]; exact b2
        · rw [q]; exact conn_trans (conn_edge he) b2
      · rcases q with q | q <;> omega
  · exact h i
theorem relax_set {E : List Edge} {f : Nat → Int} {e : Edge} (he : e ∈ E) (h : Lab E f) {i : Nat} (hi : set E f i) : set E (relax f e) i := by
  unfold set at hi ⊢
  rw [relax_at]
  split
  · rename_i q
    have c := cm_eq (conn_edge he)
    have g1 := lab_ge h e.1
    have g2 := lab_ge h e.2
    rcases q with q | q <;> rw [q] at hi ⊢ <;> omega
  · exact hi
theorem relax_hit {E : List Edge} {f : Nat → Int} {e : Edge} (he : e ∈ E) (h : Lab E f) (hs : set E f e.1 ∨ set E f e.2) : set E (relax f e) e.1 ∧ set E (relax f e) e.2 := by
  have c := cm_eq (conn_edge he)
  have g1 := lab_ge h e.1
  have g2 := lab_ge h e.2
  unfold set at hs ⊢
  rw [relax_at, relax_at, if_pos (.inr rfl), if_pos (.inl rfl)]
  rcases hs with hs | hs <;> constructor <;> omega
theorem fold_lab {E : List Edge} : ∀ (F : List Edge) (f : Nat → Int), (∀ e, e ∈ F → e ∈ E) → Lab E f → Lab E (F.foldl relax f)
  | [], _, _, h => h
  | e :: F, f, hF, h => fold_lab F (relax f e) (fun d hd => hF d (List.mem_cons_of_mem _ hd)) (relax_lab (hF e List.mem_cons_self) h)
theorem fold_set {E : List Edge} {i : Nat} : ∀ (F : List Edge) (f : Nat → Int), (∀ e, e ∈ F → e ∈ E) → Lab E f → set E f i → set E (F.foldl relax f) i
  | [], _, _, _, hi => hi
  | e :: F, f, hF, h, hi => fold_set F (relax f e) (fun d hd => hF d (List.mem_cons_of_mem _ hd)) (relax_lab (hF e List.mem_cons_self) h) (relax_set (hF e List.mem_cons_self) h hi)
theorem fold_hit {E : List Edge} {e : Edge} : ∀ (F : List Edge) (f : Nat → Int), (∀ e, e ∈ F → e ∈ E) → Lab E f → e ∈ F → (set E f e.1 ∨ set E f e.2) → set E (F.foldl relax f) e.1 ∧ set E (F.foldl relax f) e.2
  | d :: F, f, hF, h, he, hs => by
    have hd := hF d List.mem_cons_self
    have hF' : ∀ c, c ∈ F → c ∈ E := fun c hc => hF c (List.mem_cons_of_mem _ hc)
    rw [List.foldl_cons]
    rcases List.mem_cons.1 he with rfl | he'
    · have := relax_hit hd h hs
      exact ⟨fold_set F _ hF' (relax_lab hd h) this.1, fold_set F _ hF' (relax_lab hd h) this.2⟩
    · exact fold_hit F _ hF' (relax_lab hd h) he' (hs.imp (relax_set hd h) (relax_set hd h))
theorem round_lab {E : List Edge} {f : Nat → Int} (h : Lab E f) : Lab E (round E f) := fold_lab E f (fun _ he => he) h
theorem round_set {E : List Edge} {f : Nat → Int} (h : Lab E f) {i : Nat} (hi : set E f i) : set E (round E f) i := fold_set E f (fun _ he => he) h hi
/-- Where not all are set, a round sets one more. -/
theorem round_new {E : List Edge} {f : Nat → Int} (h : Lab E f) {i : Nat} (hi : ¬ set E f i) : ∃ e, e ∈ E ∧ ((set E f e.1 ∧ ¬ set E f e.2) ∨ (¬ set E f e.1 ∧ set E f e.2)) := by
  refine Classical.byContradiction fun hn => hi ?_
  have hC : closed E fun j => conn E i j ∧ set E f j := by
    intro e he
    have c := conn_edge he
    have hs : set E f e.1 ↔ set E f e.2 := by
      refine ⟨fun h1 => Classical.byContradiction fun h2 => hn ⟨e, he, .inl ⟨h1, h2⟩⟩, fun h2 => Classical.byContradiction fun h1 => hn ⟨e, he, .inr ⟨h1, h2⟩⟩⟩
    exact ⟨fun x => ⟨conn_trans x.1 c, hs.1 x.2⟩, fun x => ⟨conn_trans x.1 (conn_symm c), hs.2 x.2⟩⟩
  have hm : set E f (cm E i) := by
    have g := lab_ge h (cm E i)
    obtain ⟨j, j1, j2, j3⟩ := h (cm E i)
    unfold set
    rw [cm_cm] at g ⊢
    omega
  exact (conn_symm (cm_conn E i) _ hC ⟨cm_conn E i, hm⟩).2
noncomputable def many (P : Nat → Prop) : Nat → Nat
  | 0 => 0
  | n + 1 => many P n + (if (Classical.propDecidable (P n)).decide then 1 else 0)
theorem many_mono {P Q : Nat → Prop} (h : ∀ i, P i → Q i) : ∀ n, many P n ≤ many Q n
  | 0 => Nat.le_refl _
  | n + 1 => by
    have := many_mono h n
    unfold many
    by_cases p : P n
    · have q := h n p
      simp [p, q]
      exact this
    · simp [p]
      omega
theorem many_lt {P Q : Nat → Prop} (h : ∀ i, P i → Q i) {k : Nat} (hk : Q k) (hn : ¬ P k) : ∀ n, k < n → many P n < many Q n
  | n + 1, hlt => by
    have m := many_mono h n
    unfold many
    by_cases e : k = n
    · subst e
      simp [hk, hn]
      omega
    · have := many_lt h hk hn n (by omega)
      by_cases p : P n
      · have q := h n p
        simp [p, q]
        exact this
      · simp [p]
        omega
theorem many_le (P : Nat → Prop) : ∀ n, many P n ≤ n
  | 0 => Nat.le_refl _
  | n + 1 => by
    have := many_le P n
    unfold many
    split <;> omega
theorem many_all {P : Nat → Prop} : ∀ n, many P n = n → ∀ i, i < n → P i
  | n + 1, h, i, hi => by
    have g := many_le P n
    unfold many at h
    by_cases p : P n
    · by_cases e : i = n
      · rw [e]; exact p
      · exact many_all n (by simp [p] at h; exact h) i (by omega)
    · simp [p] at h
      omega
theorem rounds_lab {E : List Edge} {f : Nat → Int} (h : Lab E f) (r : Nat) : Lab E (rounds E r f) := by
  induction r with
  | zero => exact h
  | succ r ih => rw [rounds_succ]; exact round_lab ih
theorem rounds_many {E : List Edge} {f : Nat → Int} {n : Nat} (hE : ∀ e, e ∈ E → e.1 < n ∧ e.2 < n) (h : Lab E f) (r : Nat) : (∀ i, set E (rounds E r f) i) ∨ r ≤ many (set E (rounds E r f)) n := by
  induction r with
  | zero => exact .inr (Nat.zero_le _)
  | succ r ih =>
    rw [rounds_succ]
    have hl := rounds_lab h r
    rcases ih with ih | ih
    · exact .inl fun i => round_set hl (ih i)
    · by_cases hall : ∀ i, set E (rounds E r f) i
      · exact .inl fun i => round_set hl (hall i)
      · right
        obtain ⟨i, hi⟩ := Classical.not_forall.1 hall
        obtain ⟨e, he, hs⟩ := round_new hl hi
        have hit := fold_hit (e := e) E _ (fun _ x => x) hl he (hs.imp (·.1) (·.2))
        have hlt : many (set E (rounds E r f)) n < many (set E (round E (rounds E r f))) n := by
          rcases hs with hs | hs
          · exact many_lt (P := set E (rounds E r f)) (Q := set E (round E (rounds E r f))) (fun i x => round_set hl x) hit.2 hs.2 n (hE e he).2
          · exact many_lt (P := set E (rounds E r f)) (Q := set E (round E (rounds E r f))) (fun i x => round_set hl x) hit.1 hs.1 n (hE e he).1
        omega
/-- Behind n rounds each label is the least of its part. -/
theorem rounds_cm {E : List Edge} {n : Nat} (hE : ∀ e, e ∈ E → e.1 < n ∧ e.2 < n) {i : Nat} (hi : i < n) : rounds E n (fun j => j) i = cm E i := by
  rcases rounds_many hE (lab_id E) n with h | h
  · exact h i
  · exact many_all n (Nat.le_antisymm (many_le _ _) h) i hi

/-- The first of a part. -/
def lead (free : Nat → Bool) (c : Nat → Nat) (k : Nat) : Bool := free k && c k == k
def num (free : Nat → Bool) (c : Nat → Nat) : Nat → Nat
  | 0 => 0
  | m + 1 => num free c m + (bif lead free c m then 1 else 0)
def firsts (free : Nat → Bool) (c : Nat → Nat) : Nat → List Nat
  | 0 => []
  | m + 1 => firsts free c m ++ (bif lead free c m then [m] else [])
theorem length_firsts (free : Nat → Bool) (c : Nat → Nat) : ∀ m, (firsts free c m).length = num free c m
  | 0 => rfl
  | m + 1 => by
    simp only [firsts, num, List.length_append, length_firsts free c m]
    cases lead free c m <;> rfl
theorem firsts_lt (free : Nat → Bool) (c : Nat → Nat) : ∀ m k, k ∈ firsts free c m → k < m
  | m + 1, k, h => by
    simp only [firsts, List.mem_append] at h
    rcases h with h | h
    · exact Nat.lt_succ_of_lt (firsts_lt free c m k h)
    · cases q : lead free c m with
      | true => rw [q] at h; simp at h; omega
      | false => rw [q] at h; simp at h
theorem num_mono (free : Nat → Bool) (c : Nat → Nat) {a b : Nat} (h : a ≤ b) : num free c a ≤ num free c b := by
  induction h with
  | refl => exact Nat.le_refl _
  | step h ih => exact Nat.le_trans ih (Nat.le_add_right _ _)
theorem num_lt {free : Nat → Bool} {c : Nat → Nat} {a b : Nat} (hl : lead free c a = true) (h : a < b) : num free c a < num free c b := by
  have h1 : num free c (a + 1) = num free c a + 1 := by simp [num, hl]
  have := num_mono free c (show a + 1 ≤ b from h)
  omega
theorem num_inj {free : Nat → Bool} {c : Nat → Nat} {a b : Nat} (ha : lead free c a = true) (hb : lead free c b = true) (h : num free c a = num free c b) : a = b := by
  rcases Nat.lt_trichotomy a b with x | x | x
  · have := num_lt ha x; omega
  · exact x
  · have := num_lt hb x; omega
theorem firsts_at {free : Nat → Bool} {c : Nat → Nat} {k : Nat} (hk : lead free c k = true) : ∀ m, k < m → (firsts free c m)[num free c k]? = some k
  | m + 1, h => by
    have hl := length_firsts free c m
    by_cases e : k = m
    · subst e
      simp only [firsts, hk, cond_true]
      rw [List.getElem?_append_right (by omega), hl, Nat.sub_self]
      rfl
    · have hlt := num_lt hk (show k < m by omega)
      simp only [firsts]
      rw [List.getElem?_append_left (by omega)]
      exact firsts_at hk m (by omega)
theorem firsts_lead (free : Nat → Bool) (c : Nat → Nat) : ∀ m k, k ∈ firsts free c m → lead free c k = true
  | m + 1, k, h => by
    simp only [firsts, List.mem_append] at h
    rcases h with h | h
    · exact firsts_lead free c m k h
    · cases q : lead free c m with
      | true => rw [q] at h; simp at h; rw [h]; exact q
      | false => rw [q] at h; simp at h
/-- The place of one of the firsts tells which it is. -/
theorem firsts_pos {free : Nat → Bool} {c : Nat → Nat} {m p k : Nat} (h : (firsts free c m)[p]? = some k) : p = num free c k := by
  have hm := List.mem_of_getElem? h
  have hk := firsts_lead free c m k hm
  have hlt := firsts_lt free c m k hm
  have hp := (List.getElem?_eq_some_iff.1 h).1
  rw [length_firsts] at hp
  -- the leaders below p are as many
  have key : ∀ m p, (firsts free c m)[p]? = some k → p = num free c k := by
    intro m
    induction m with
    | zero => intro p h; simp [firsts] at h
    | succ m ih =>
      intro p h
      simp only [firsts] at h
      by_cases hlt : p < (firsts free c m).length
      · rw [List.getElem?_append_left hlt] at h
        exact ih p h
      · rw [List.getElem?_append_right (by omega)] at h
        cases q : lead free c m with
        | false => rw [q] at h; simp at h
        | true =>
          rw [q] at h
          simp only [cond_true] at h
          have hp := (List.getElem?_eq_some_iff.1 h).1
          simp only [List.length_singleton] at hp
          have e : p - (firsts free c m).length = 0 := by omega
          rw [e] at h
          simp at h
          rw [← h, ← length_firsts free c m]
          omega
  exact key m p h
end Go.Proofs.YtnahfbjdicjdpaaGreat.Grp

namespace Go.Proofs.YtnahfbjdicjdpaaGreat.Sym
open Go
set_option linter.unusedVariables false
set_option linter.unusedSimpArgs false
set_option maxRecDepth 100000

def gi (gs : List Int) (j : Nat) : Int := Ty.ix .int gs j
theorem gi_set {gs : List Int} {a j : Nat} {g : Int} (h : a < gs.length) : gi (gs.set a g) j = if a = j then g else gi gs j := by
  unfold gi
  split
  · rename_i e
    subst e
    exact ix_set_self (T := .int) h
  · rename_i e
    exact ix_set_ne (T := .int) e
def freeB (xs : List Body) (k : Nat) : Bool := !((Ty.ix .body xs k).Mass == 0)
def edgeC (c : Contact) : Grp.Edge := (c.A.toNat, c.B.toNat)
noncomputable def edgesX (xs : List Body) : List Grp.Edge := ((contactsF xs).filter fun c => freeB xs c.A.toNat && freeB xs c.B.toNat).map edgeC
noncomputable def cmX (xs : List Body) (i : Nat) : Nat := Grp.cm (edgesX xs) i
noncomputable def numX (xs : List Body) (i : Nat) : Nat := Grp.num (freeB xs) (cmX xs) i
theorem mem_edges {xs : List Body} {c : Contact} (h : c ∈ contactsF xs) (ha : freeB xs c.A.toNat = true) (hb : freeB xs c.B.toNat = true) : edgeC c ∈ edgesX xs :=
  List.mem_map.2 ⟨c, List.mem_filter.2 ⟨h, by rw [ha, hb]; rfl⟩, rfl⟩
theorem of_edges {xs : List Body} {e : Grp.Edge} (h : e ∈ edgesX xs) : ∃ c, c ∈ contactsF xs ∧ edgeC c = e ∧ freeB xs e.1 = true ∧ freeB xs e.2 = true ∧ e.1 < xs.length ∧ e.2 < xs.length := by
  obtain ⟨c, hc, rfl⟩ := List.mem_map.1 h
  obtain ⟨h1, h2⟩ := List.mem_filter.1 hc
  rw [Bool.and_eq_true] at h2
  obtain ⟨a, b, q1, q2, q3, _⟩ := mem_contactsF h1
  refine ⟨c, h1, rfl, h2.1, h2.2, ?_, ?_⟩
  · rw [q3]; simp only [edgeC]; omega
  · rw [q3]; simp only [edgeC]; omega
theorem free_cm {xs : List Body} {i : Nat} (h : freeB xs i = true) : freeB xs (cmX xs i) = true :=
  Grp.cm_conn (edgesX xs) i (fun k => freeB xs k = true) (fun e he => by
    obtain ⟨c, _, _, h1, h2, _⟩ := of_edges he
    exact ⟨fun _ => h2, fun _ => h1⟩) h
theorem cm_cmX (xs : List Body) (i : Nat) : cmX xs (cmX xs i) = cmX xs i := Grp.cm_cm _ _
theorem cmX_le (xs : List Body) (i : Nat) : cmX xs i ≤ i := Grp.cm_le _ _
theorem lead_cm {xs : List Body} {i : Nat} (h : freeB xs i = true) : Grp.lead (freeB xs) (cmX xs) (cmX xs i) = true := by
  unfold Grp.lead
  rw [free_cm h, cm_cmX]
  simp
theorem lead_iff {xs : List Body} {i : Nat} : Grp.lead (freeB xs) (cmX xs) i = true ↔ freeB xs i = true ∧ cmX xs i = i := by
  simp [Grp.lead]
/-- What is known of j's group when all in front of i have one. -/
noncomputable def gOf (xs : List Body) (i j : Nat) : Int := bif freeB xs j && decide (cmX xs j < i) then (numX xs (cmX xs j) : Int) else -1
theorem gOf_ne (xs : List Body) (i j : Nat) : gOf xs i j ≠ numX xs i := by
  unfold gOf
  cases q : freeB xs j && decide (cmX xs j < i) with
  | true =>
    rw [Bool.and_eq_true, decide_eq_true_eq] at q
    have := Grp.num_lt (lead_cm q.1) q.2
    simp only [cond_true]
    unfold numX
    omega
  | false =>
    simp only [cond_false]
    omega
def GInv (xs : List Body) (i : Nat) (gs : List Int) : Prop := gs.length = xs.length ∧ ∀ j, j < xs.length → gi gs j = gOf xs i j
def FInv (xs : List Body) (i : Nat) (gs : List Int) : Prop := gs.length = xs.length ∧ gi gs i = numX xs i ∧ ∀ j, j < xs.length → gi gs j = gOf xs i j ∨ (gi gs j = numX xs i ∧ freeB xs j = true ∧ cmX xs j = i)
theorem finv_in {xs : List Body} {i j : Nat} {gs : List Int} (h : FInv xs i gs) (hj : j < xs.length) (hg : gi gs j = numX xs i) : freeB xs j = true ∧ cmX xs j = i := by
  rcases h.2.2 j hj with q | q
  · exact absurd (q.symm.trans hg) (gOf_ne xs i j)
  · exact q.2
theorem finv_start {xs : List Body} {i : Nat} {gs : List Int} (h : GInv xs i gs) (hi : i < xs.length) (hf : freeB xs i = true) (hc : cmX xs i = i) : FInv xs i (gs.set i (numX xs i)) := by
  have hl : i < gs.length := by rw [h.1]; exact hi
  refine ⟨by rw [List.length_set]; exact h.1, by rw [gi_set hl, if_pos rfl], fun j hj => ?_⟩
  rw [gi_set hl]
  split
  · rename_i e
    subst e
    exact .inr ⟨rfl, hf, hc⟩
  · exact .inl (h.2 j hj)
noncomputable def cntG (xs : List Body) (i : Nat) (gs : List Int) : Nat := Grp.many (fun j => gi gs j ≠ numX xs i) xs.length
theorem finv_step {xs : List Body} {i : Nat} {gs : List Int} {e : Grp.Edge} (h : FInv xs i gs) (he : e ∈ edgesX xs) (hx : gi gs e.1 = numX xs i ∨ gi gs e.2 = numX xs i) :
    FInv xs i ((gs.set e.1 (numX xs i)).set e.2 (numX xs i)) := by
  obtain ⟨c, _, _, f1, f2, l1, l2⟩ := of_edges he
  have hcm : cmX xs e.1 = cmX xs e.2 := Grp.cm_eq (Grp.conn_edge he)
  have hci : cmX xs e.1 = i := by
    rcases hx with hx | hx
    · exact (finv_in h l1 hx).2
    · rw [hcm]; exact (finv_in h l2 hx).2
  have k1 : e.1 < gs.length := by rw [h.1]; exact l1
  have k2 : e.2 < (gs.set e.1 (numX xs i : Int)).length := by rw [List.length_set, h.1]; exact l2
  refine ⟨by rw [List.length_set, List.length_set]; exact h.1, ?_, fun j hj => ?_⟩
  · rw [gi_set k2, gi_set k1]
    split
    · rfl
    · split
      · rfl
      · exact h.2.1
  · rw [gi_set k2, gi_set k1]
    split
    · rename_i q
      subst q
      exact .inr ⟨rfl, f2, by rw [← hcm]; exact hci⟩
    · split
      · rename_i q
        subst q
        exact .inr ⟨rfl, f1, hci⟩
      · exact h.2.2 j hj
theorem cnt_step {xs : List Body} {i : Nat} {gs : List Int} {a b : Nat} (ha : a < xs.length) (hb : b < xs.length) (hl : gs.length = xs.length) (hx : gi gs a ≠ numX xs i ∨ gi gs b ≠ numX xs i) :
    cntG xs i ((gs.set a (numX xs i)).set b (numX xs i)) < cntG xs i gs := by
  have k1 : a < gs.length := by rw [hl]; exact ha
  have k2 : b < (gs.set a (numX xs i : Int)).length := by rw [List.length_set, hl]; exact hb
  have hm : ∀ j, gi ((gs.set a (numX xs i)).set b (numX xs i)) j ≠ numX xs i → gi gs j ≠ numX xs i := by
    intro j hj
    rw [gi_set k2, gi_set k1] at hj
    split at hj
    · exact absurd rfl hj
    · split at hj
      · exact absurd rfl hj
      · exact hj
  unfold cntG
  rcases hx with hx | hx
  · refine Grp.many_lt (P := fun j => gi ((gs.set a (numX xs i)).set b (numX xs i)) j ≠ numX xs i) (Q := fun j => gi gs j ≠ numX xs i) hm (k := a) hx (fun q => q ?_) _ ha
    rw [gi_set k2, gi_set k1]
    split
    · rfl
    · rw [if_pos rfl]
  · refine Grp.many_lt (P := fun j => gi ((gs.set a (numX xs i)).set b (numX xs i)) j ≠ numX xs i) (Q := fun j => gi gs j ≠ numX xs i) hm (k := b) hx (fun q => q ?_) _ hb
    rw [gi_set k2, if_pos rfl]
theorem num_succ (xs : List Body) (i : Nat) : numX xs (i + 1) = numX xs i + (bif Grp.lead (freeB xs) (cmX xs) i then 1 else 0) := rfl
/-- Behind the flood. -/
theorem flood_done {xs : List Body} {i : Nat} {gs : List Int} (h : FInv xs i gs) (hi : i < xs.length) (hf : freeB xs i = true) (hc : cmX xs i = i) (hE : ∀ e, e ∈ edgesX xs → (gi gs e.1 = numX xs i ↔ gi gs e.2 = numX xs i)) : GInv xs (i + 1) gs := by
  refine ⟨h.1, fun j hj => ?_⟩
  by_cases q : freeB xs j = true ∧ cmX xs j = i
  · have hcon : Grp.conn (edgesX xs) i j := Grp.conn_iff.2 (by show cmX xs i = cmX xs j; rw [hc, q.2])
    have hg : gi gs j = numX xs i := hcon (fun k => gi gs k = numX xs i) hE h.2.1
    rw [hg]
    unfold gOf
    rw [q.1, q.2, decide_eq_true (Nat.lt_succ_self i)]
    rfl
  · rcases h.2.2 j hj with g | g
    · rw [g]
      unfold gOf
      congr 1
      cases f : freeB xs j with
      | false => rfl
      | true =>
        have : cmX xs j ≠ i := fun e => q ⟨f, e⟩
        rw [Bool.true_and, Bool.true_and, decide_eq_decide]
        omega
    · exact absurd g.2 q
/-- Where i is not the first of a part. -/
theorem ginv_skip {xs : List Body} {i : Nat} {gs : List Int} (h : GInv xs i gs) (hl : Grp.lead (freeB xs) (cmX xs) i = false) : GInv xs (i + 1) gs ∧ numX xs (i + 1) = numX xs i := by
  refine ⟨⟨h.1, fun j hj => ?_⟩, by rw [num_succ, hl]; rfl⟩
  rw [h.2 j hj]
  unfold gOf
  congr 1
  cases f : freeB xs j with
  | false => rfl
  | true =>
    have : cmX xs j ≠ i := fun e => by
      have := lead_cm f
      rw [e, hl] at this
      cases this
    rw [Bool.true_and, Bool.true_and, decide_eq_decide]
    omega
/-- A body without a group is the first of its part; one with a group, or fixed, is not. -/
theorem ginv_lead {xs : List Body} {i : Nat} {gs : List Int} (h : GInv xs i gs) (hi : i < xs.length) : Grp.lead (freeB xs) (cmX xs) i = (freeB xs i && decide (gi gs i < 0)) := by
  rw [h.2 i hi]
  unfold Grp.lead gOf
  cases f : freeB xs i with
  | false => rfl
  | true =>
    rw [Bool.true_and, Bool.true_and]
    have hle := cmX_le xs i
    by_cases e : cmX xs i = i
    · rw [e, decide_eq_false (Nat.lt_irrefl i)]
      simp
    · rw [decide_eq_true (show cmX xs i < i by omega), beq_eq_false_iff_ne.2 e]
      simp
end Go.Proofs.YtnahfbjdicjdpaaGreat.Sym

namespace Go.Proofs.YtnahfbjdicjdpaaGreat.Sym
open Go
set_option linter.unusedVariables false
set_option linter.unusedSimpArgs false
set_option maxRecDepth 100000
noncomputable section

noncomputable def fs_implQuiet : Fs := ⟨[], fun args H => match args, H with
  | [.agg [.int .i64 vX, .int .i64 vY]], [] => some (none, .bool (isIn (Vec.mk vX vY).X (-8) 8 && isIn (Vec.mk vX vY).Y (-8) 8), [])
  | _, _ => none⟩

theorem vc_implQuiet (vX : Int) (vY : Int) (Q : SV → List Ent → Prop) :
    fnVC tt (look [(52, fs_in_)]) L0 Tryz.f60 [.agg [.int .i64 vX, .int .i64 vY]] [] Q =
    (ifB (isIn vX (-8 : Int) (8 : Int)) (Q (SV.bool (isIn vY (-8 : Int) (8 : Int))) []) (Q (SV.bool false) [])) := by kernel_rfl

theorem ok_implQuiet : FsOk Tryz.prog 60 fs_implQuiet := fsOk_of tt_ok (tabFs_cons ok_in_ tabFs_nil) mixed Tryz.func60 (by kernel_rfl) (by kernel_rfl) (by
    intro args LL p r HH h hp
    unfold fs_implQuiet at h
    dsimp only at h
    split at h
    case h_2 => cases h
    rename_i vX vY
    simp only [Option.some.injEq, Prod.mk.injEq] at h
    obtain ⟨rfl, rfl, rfl⟩ := h
    refine ⟨by simp [Form, stays], L0, ?_⟩
    rw [vc_implQuiet]
    try dsimp only
    refine ifB_of (fun c => ?_) (fun c => ?_)
    · rw [c]; exact ⟨rfl, rfl⟩
    · rw [c]; exact ⟨rfl, rfl⟩)

theorem contact_ok0 {xs : List Body} {i : Nat} (h : i < (contactsF xs).length) : 0 ≤ (Ty.ix .contact (contactsF xs) i).A ∧ (Ty.ix .contact (contactsF xs) i).A < xs.length ∧ 0 ≤ (Ty.ix .contact (contactsF xs) i).B ∧ (Ty.ix .contact (contactsF xs) i).B < xs.length ∧ (Ty.ix .contact (contactsF xs) i) ∈ contactsF xs := by
  have hm : Ty.ix .contact (contactsF xs) i ∈ contactsF xs := List.mem_of_getElem? (ix_get (T := .contact) h)
  obtain ⟨a, b, h1, h2, h3, _⟩ := mem_contactsF hm
  refine ⟨?_, ?_, ?_, ?_, hm⟩ <;> rw [h3] <;> dsimp only <;> omega
def groupsX (xs : List Body) : List Int := gen (fun j => gOf xs xs.length j) xs.length
def groupsOf (xs : List Body) : List Int := bif bodiesOk xs then groupsX xs else []
theorem num_le (xs : List Body) : ∀ i, numX xs i ≤ i
  | 0 => Nat.le_refl _
  | i + 1 => by
    have := num_le xs i
    rw [num_succ]
    cases Grp.lead (freeB xs) (cmX xs) i <;> simp only [cond_true, cond_false] <;> omega
theorem groups_done {xs : List Body} {gs : List Int} (h : GInv xs xs.length gs) : gs = groupsX xs := by
  apply List.ext_getElem?
  intro j
  by_cases hj : j < xs.length
  · have h1 : gs[j]? = some (Ty.ix .int gs j) := ix_get (T := .int) (by rw [h.1]; exact hj)
    rw [h1, show Ty.ix .int gs j = gOf xs xs.length j from h.2 j hj]
    simp [groupsX, gen, hj]
  · rw [List.getElem?_eq_none (by rw [h.1]; omega), List.getElem?_eq_none (by simp only [groupsX, length_gen]; omega)]
def LSgr1  : LS where
  S := List Body × Unit × List Int × Int × Int
  live := [(0, [none]), (3, [some .int]), (21, [none]), (22, [none])]
  shape := fun s => ([.vec 0, .vec 1, .int .i64 s.2.2.2.1, .int .i64 s.2.2.2.2], [(false, .vec .body s.1), (true, .vec .int s.2.2.1)])
  get := fun v h => match v, h with
    | [.vec 0, .vec 1, .int .i64 n, .int .i64 i], [(false, .vec .body xs), (true, .vec .int gs)] => some (xs, (), gs, n, i)
    | _, _ => none
  inv := fun s0 s => Holds (s.1 = s0.1 ∧ s.2.2.2.1 = s0.1.length ∧ s.2.2.1.length = s0.1.length ∧ 0 ≤ s.2.2.2.2 ∧ s.2.2.2.2 ≤ s0.1.length ∧ (∀ j, j < s.2.2.2.2.toNat → gi s.2.2.1 j = -1))
  mu := fun s => ((s.1.length : Int) - s.2.2.2.2).toNat
  ok := by
    intro v h s hg
    try dsimp only at hg
    split at hg <;> cases hg
    rfl

def LSgr2  : LS where
  S := List Body × Unit × List Int × List Contact × Int × Unit × Int × Int
  live := [(0, [none]), (3, [some .int]), (5, [some .contact]), (6, [none]), (31, [none]), (32, [none]), (33, [none])]
  shape := fun s => ([.vec 0, .vec 1, .vec 2, .int .i64 s.2.2.2.2.1, .vec 0, .int .i64 s.2.2.2.2.2.2.1, .int .i64 s.2.2.2.2.2.2.2], [(false, .vec .body s.1), (true, .vec .int s.2.2.1), (true, .vec .contact s.2.2.2.1)])
  get := fun v h => match v, h with
    | [.vec 0, .vec 1, .vec 2, .int .i64 g, .vec 0, .int .i64 n, .int .i64 i], [(false, .vec .body xs), (true, .vec .int gs), (true, .vec .contact cs)] => some (xs, (), gs, cs, g, (), n, i)
    | _, _ => none
  inv := fun s0 s => Holds (s.1 = s0.1 ∧ s.2.2.2.1 = s0.2.2.2.1 ∧ s.2.2.2.2.2.2.1 = s0.1.length ∧ 0 ≤ s.2.2.2.2.2.2.2 ∧ s.2.2.2.2.2.2.2 ≤ s0.1.length ∧ s.2.2.2.2.1 = numX s0.1 s.2.2.2.2.2.2.2.toNat ∧ GInv s0.1 s.2.2.2.2.2.2.2.toNat s.2.2.1)
  mu := fun s => ((s.1.length : Int) - s.2.2.2.2.2.2.2).toNat
  ok := by
    intro v h s hg
    try dsimp only at hg
    split at hg <;> cases hg
    rfl

def LSgr3  : LS where
  S := List Body × Unit × List Int × List Contact × Int × Bool × Unit × Int × Int
  live := [(0, [none]), (3, [some .int]), (5, [some .contact]), (6, [none]), (9, [none]), (31, [none]), (32, [none]), (33, [none])]
  shape := fun s => ([.vec 0, .vec 1, .vec 2, .int .i64 s.2.2.2.2.1, .bool s.2.2.2.2.2.1, .vec 0, .int .i64 s.2.2.2.2.2.2.2.1, .int .i64 s.2.2.2.2.2.2.2.2], [(false, .vec .body s.1), (true, .vec .int s.2.2.1), (true, .vec .contact s.2.2.2.1)])
  get := fun v h => match v, h with
    | [.vec 0, .vec 1, .vec 2, .int .i64 g, .bool ch, .vec 0, .int .i64 n, .int .i64 i], [(false, .vec .body xs), (true, .vec .int gs), (true, .vec .contact cs)] => some (xs, (), gs, cs, g, ch, (), n, i)
    | _, _ => none
  inv := fun s0 s => Holds (s.1 = s0.1 ∧ s.2.2.2.1 = s0.2.2.2.1 ∧ s.2.2.2.2.2.2.2.1 = s0.2.2.2.2.2.2.2.1 ∧ s.2.2.2.2.1 = s0.2.2.2.2.1 ∧ s.2.2.2.2.2.2.2.2 = s0.2.2.2.2.2.2.2.2 ∧ FInv s0.1 s0.2.2.2.2.2.2.2.2.toNat s.2.2.1 ∧ (s.2.2.2.2.2.1 = false → ∀ e, e ∈ edgesX s0.1 → (gi s.2.2.1 e.1 = s0.2.2.2.2.1 ↔ gi s.2.2.1 e.2 = s0.2.2.2.2.1)))
  mu := fun s => 2 * cntG s.1 s.2.2.2.2.2.2.2.2.toNat s.2.2.1 + (bif s.2.2.2.2.2.1 then 1 else 0)
  ok := by
    intro v h s hg
    try dsimp only at hg
    split at hg <;> cases hg
    rfl

def LSgr4  : LS where
  S := List Body × Unit × List Int × List Contact × Int × Bool × Unit × Int × Int × Unit × Int × Int
  live := [(0, [none]), (3, [some .int]), (5, [some .contact]), (6, [none]), (9, [none]), (31, [none]), (32, [none]), (33, [none]), (52, [none]), (53, [none]), (54, [none])]
  shape := fun s => ([.vec 0, .vec 1, .vec 2, .int .i64 s.2.2.2.2.1, .bool s.2.2.2.2.2.1, .vec 0, .int .i64 s.2.2.2.2.2.2.2.1, .int .i64 s.2.2.2.2.2.2.2.2.1, .vec 2, .int .i64 s.2.2.2.2.2.2.2.2.2.2.1, .int .i64 s.2.2.2.2.2.2.2.2.2.2.2], [(false, .vec .body s.1), (true, .vec .int s.2.2.1), (true, .vec .contact s.2.2.2.1)])
  get := fun v h => match v, h with
    | [.vec 0, .vec 1, .vec 2, .int .i64 g, .bool ch, .vec 0, .int .i64 n, .int .i64 i, .vec 2, .int .i64 m, .int .i64 k], [(false, .vec .body xs), (true, .vec .int gs), (true, .vec .contact cs)] => some (xs, (), gs, cs, g, ch, (), n, i, (), m, k)
    | _, _ => none
  inv := fun s0 s => Holds (s.1 = s0.1 ∧ s.2.2.2.1 = s0.2.2.2.1 ∧ s.2.2.2.2.2.2.2.1 = s0.2.2.2.2.2.2.2.1 ∧ s.2.2.2.2.1 = s0.2.2.2.2.1 ∧ s.2.2.2.2.2.2.2.2.1 = s0.2.2.2.2.2.2.2.2.1 ∧ s.2.2.2.2.2.2.2.2.2.2.1 = s0.2.2.2.1.length ∧ 0 ≤ s.2.2.2.2.2.2.2.2.2.2.2 ∧ s.2.2.2.2.2.2.2.2.2.2.2 ≤ s0.2.2.2.1.length ∧ FInv s0.1 s0.2.2.2.2.2.2.2.2.1.toNat s.2.2.1 ∧ (s.2.2.2.2.2.1 = true → cntG s0.1 s0.2.2.2.2.2.2.2.2.1.toNat s.2.2.1 < cntG s0.1 s0.2.2.2.2.2.2.2.2.1.toNat s0.2.2.1) ∧ (s.2.2.2.2.2.1 = false → s.2.2.1 = s0.2.2.1 ∧ ∀ j, j < s.2.2.2.2.2.2.2.2.2.2.2.toNat → freeB s0.1 (Ty.ix .contact s0.2.2.2.1 j).A.toNat = true → freeB s0.1 (Ty.ix .contact s0.2.2.2.1 j).B.toNat = true → (gi s.2.2.1 (Ty.ix .contact s0.2.2.2.1 j).A.toNat = s0.2.2.2.2.1 ↔ gi s.2.2.1 (Ty.ix .contact s0.2.2.2.1 j).B.toNat = s0.2.2.2.2.1)))
  mu := fun s => ((s.2.2.2.1.length : Int) - s.2.2.2.2.2.2.2.2.2.2.2).toNat
  ok := by
    intro v h s hg
    try dsimp only at hg
    split at hg <;> cases hg
    rfl

def L_groups : Loops := fun n => match n with
  | 5 => some LSgr1
  | 12 => some LSgr2
  | 17 => some LSgr3
  | 20 => some LSgr4
  | _ => none
noncomputable def fs_implGroups : Fs := ⟨[], fun args H => match args, H with
  | [.vec 0], [(false, .vec .body xs)] => some ((some (xs.length ≤ 1048576)), .vec 1, [(false, .vec .body xs), (true, .vec .int (groupsOf xs))])
  | _, _ => none⟩

theorem vc_implGroups (xs : List Body) (Q : SV → List Ent → Prop) :
    fnVC tt (look [(47, fs_implBodiesOk), (21, fs_implContacts), (64, fs_bodyFixed)]) (L_groups) Tryz.f19 [.vec 0] [(false, .vec .body xs)] Q =
    (let w_ := IntKind.wrap IntKind.i64; let n_ := Int.toNat; let ic_ := Ty.ix Ty.contact; let A24_ := (↑(List.length xs) : Int); List.length xs ≤ (4611686018427387904 : Nat) ∧ ifB (!bodiesOk xs) (Q (SV.vec (1 : Nat)) [(false, Blk.vec Ty.body xs), (true, Blk.vec Ty.int [])]) (((0 : Int) ≤ A24_ ∧ A24_ = A24_ ∧ n_ A24_ * (8 : Nat) ≤ room) ∧ Holds (xs = xs ∧ (↑(List.length (List.replicate (n_ A24_) (0 : Int))) : Int) = A24_ ∧ List.length (List.replicate (n_ A24_) (0 : Int)) = List.length xs ∧ (0 : Int) ≤ (0 : Int) ∧ (0 : Int) ≤ A24_ ∧ ∀ (j : Nat), j < n_ (0 : Int) → gi (List.replicate (n_ A24_) (0 : Int)) j = (-1 : Int)) ∧ ∀ (y22 : List Body × Unit × List Int × Int × Int), let y22f0_ := Prod.fst y22; let y22s1_ := Prod.snd y22; let y22f2_ := Prod.fst (Prod.snd (Prod.snd y22)); let y22s3_ := Prod.snd (Prod.snd (Prod.snd y22)); let y22f3_ := Prod.fst (Prod.snd (Prod.snd (Prod.snd y22))); let y22s4_ := Prod.snd (Prod.snd (Prod.snd (Prod.snd y22))); let A23_ := (↑(List.length y22f0_) : Int); Holds (Prod.fst y22 = xs ∧ y22f3_ = A24_ ∧ List.length y22f2_ = List.length xs ∧ (0 : Int) ≤ y22s4_ ∧ y22s4_ ≤ A24_ ∧ ∀ (j : Nat), j < n_ y22s4_ → gi y22f2_ j = (-1 : Int)) → ifB (decide (Prod.snd y22s3_ < y22f3_)) (((0 : Int) ≤ y22s4_ ∧ y22s4_ < (↑(List.length y22f2_) : Int)) ∧ Holds (Prod.fst y22 = xs ∧ y22f3_ = A24_ ∧ List.length (List.set y22f2_ (n_ y22s4_) (-1 : Int)) = List.length xs ∧ (0 : Int) ≤ w_ (Prod.snd y22s3_ + (1 : Int)) ∧ w_ (Prod.snd y22s3_ + (1 : Int)) ≤ A24_ ∧ ∀ (j : Nat), j < n_ (w_ (Prod.snd y22s3_ + (1 : Int))) → gi (List.set y22f2_ (n_ y22s4_) (-1 : Int)) j = (-1 : Int)) ∧ n_ (A23_ - w_ (Prod.snd y22s3_ + (1 : Int))) < n_ (A23_ - y22s4_)) (List.length y22f0_ ≤ (1048576 : Nat) ∧ Holds (Prod.fst y22 = y22f0_ ∧ contactsOf y22f0_ = contactsOf y22f0_ ∧ A23_ = A23_ ∧ (0 : Int) ≤ (0 : Int) ∧ (0 : Int) ≤ A23_ ∧ (0 : Int) = (↑(numX y22f0_ (n_ (0 : Int))) : Int) ∧ GInv y22f0_ (n_ (0 : Int)) y22f2_) ∧ ∀ (y17 : List Body × Unit × List Int × List Contact × Int × Unit × Int × Int), let y17f0_ := Prod.fst y17; let y17s1_ := Prod.snd y17; let y17f2_ := Prod.fst (Prod.snd (Prod.snd y17)); let y17f3_ := Prod.fst (Prod.snd (Prod.snd (Prod.snd y17))); let y17f4_ := Prod.fst (Prod.snd (Prod.snd (Prod.snd (Prod.snd y17)))); let y17s6_ := Prod.snd (Prod.snd (Prod.snd (Prod.snd (Prod.snd (Prod.snd y17))))); let y17f6_ := Prod.fst (Prod.snd (Prod.snd (Prod.snd (Prod.snd (Prod.snd (Prod.snd y17)))))); let y17s7_ := Prod.snd (Prod.snd (Prod.snd (Prod.snd (Prod.snd (Prod.snd (Prod.snd y17)))))); let A20_ := (↑(List.length y17f0_) : Int); let A19_ := A23_; let A18_ := (Prod.snd y17s6_ + (1 : Int)); let A21_ := (n_ (w_ A18_)); Holds (Prod.fst y17 = y22f0_ ∧ y17f3_ = contactsOf y22f0_ ∧ y17f6_ = A19_ ∧ (0 : Int) ≤ y17s7_ ∧ y17s7_ ≤ A19_ ∧ y17f4_ = (↑(numX y22f0_ (n_ y17s7_)) : Int) ∧ GInv y22f0_ (n_ y17s7_) y17f2_) → ifB (decide (Prod.snd y17s6_ < y17f6_)) (((0 : Int) ≤ y17s7_ ∧ y17s7_ < A20_) ∧ ifB (Body.Mass (Ty.ix Ty.body y17f0_ (n_ y17s7_)) == (0 : Int)) (Holds (Prod.fst y17 = y22f0_ ∧ y17f3_ = contactsOf y22f0_ ∧ y17f6_ = A19_ ∧ (0 : Int) ≤ w_ A18_ ∧ w_ A18_ ≤ A19_ ∧ y17f4_ = (↑(numX y22f0_ A21_) : Int) ∧ GInv y22f0_ A21_ y17f2_) ∧ n_ (A20_ - w_ A18_) < n_ (A20_ - y17s7_)) (((0 : Int) ≤ y17s7_ ∧ y17s7_ < (↑(List.length y17f2_) : Int)) ∧ ifB (decide (Ty.ix Ty.int y17f2_ (n_ y17s7_) ≥ (0 : Int))) (Holds (Prod.fst y17 = y22f0_ ∧ y17f3_ = contactsOf y22f0_ ∧ y17f6_ = A19_ ∧ (0 : Int) ≤ w_ A18_ ∧ w_ A18_ ≤ A19_ ∧ y17f4_ = (↑(numX y22f0_ A21_) : Int) ∧ GInv y22f0_ A21_ y17f2_) ∧ n_ (A20_ - w_ A18_) < n_ (A20_ - y17s7_)) (((0 : Int) ≤ y17s7_ ∧ y17s7_ < (↑(List.length y17f2_) : Int)) ∧ Holds (Prod.fst y17 = y17f0_ ∧ y17f3_ = y17f3_ ∧ y17f6_ = y17f6_ ∧ y17f4_ = y17f4_ ∧ y17s7_ = y17s7_ ∧ FInv y17f0_ (n_ y17s7_) (List.set y17f2_ (n_ y17s7_) y17f4_) ∧ (true = false → ∀ (e : Grp.Edge), e ∈ edgesX y17f0_ → (gi (List.set y17f2_ (n_ y17s7_) y17f4_) (Prod.fst e) = y17f4_ ↔ gi (List.set y17f2_ (n_ y17s7_) y17f4_) (Prod.snd e) = y17f4_))) ∧ ∀ (y14 : List Body × Unit × List Int × List Contact × Int × Bool × Unit × Int × Int), let y14f0_ := Prod.fst y14; let y14s1_ := Prod.snd y14; let y14f2_ := Prod.fst (Prod.snd (Prod.snd y14)); let y14f3_ := Prod.fst (Prod.snd (Prod.snd (Prod.snd y14))); let y14s4_ := Prod.snd (Prod.snd (Prod.snd (Prod.snd y14))); let y14f4_ := Prod.fst (Prod.snd (Prod.snd (Prod.snd (Prod.snd y14)))); let y14f5_ := Prod.fst (Prod.snd (Prod.snd (Prod.snd (Prod.snd (Prod.snd y14))))); let y14s7_ := Prod.snd (Prod.snd (Prod.snd (Prod.snd (Prod.snd (Prod.snd (Prod.snd y14)))))); let y14f7_ := Prod.fst (Prod.snd (Prod.snd (Prod.snd (Prod.snd (Prod.snd (Prod.snd (Prod.snd y14))))))); let y14s8_ := Prod.snd (Prod.snd (Prod.snd (Prod.snd (Prod.snd (Prod.snd (Prod.snd (Prod.snd y14))))))); let A16_ := (Prod.snd y14s7_ + (1 : Int)); let A15_ := (Prod.snd (Prod.snd (Prod.snd y17s1_))); Holds (Prod.fst y14 = y17f0_ ∧ y14f3_ = y17f3_ ∧ y14f7_ = Prod.fst (Prod.snd (Prod.snd A15_)) ∧ y14f4_ = Prod.fst A15_ ∧ y14s8_ = Prod.snd (Prod.snd (Prod.snd A15_)) ∧ FInv y17f0_ (n_ (Prod.snd (Prod.snd (Prod.snd A15_)))) y14f2_ ∧ (Prod.fst (Prod.snd y14s4_) = false → ∀ (e : Grp.Edge), e ∈ edgesX y17f0_ → (gi y14f2_ (Prod.fst e) = Prod.fst A15_ ↔ gi y14f2_ (Prod.snd e) = Prod.fst A15_))) → ifB y14f5_ (Holds (Prod.fst y14 = y14f0_ ∧ y14f3_ = y14f3_ ∧ y14f7_ = y14f7_ ∧ y14f4_ = y14f4_ ∧ y14s8_ = y14s8_ ∧ (↑(List.length y14f3_) : Int) = (↑(List.length y14f3_) : Int) ∧ (0 : Int) ≤ (0 : Int) ∧ (0 : Int) ≤ (↑(List.length y14f3_) : Int) ∧ FInv y14f0_ (n_ y14s8_) y14f2_ ∧ (false = true → cntG y14f0_ (n_ y14s8_) y14f2_ < cntG y14f0_ (n_ y14s8_) y14f2_) ∧ (false = false → y14f2_ = y14f2_ ∧ ∀ (j : Nat), j < n_ (0 : Int) → freeB y14f0_ (n_ (Contact.A (ic_ y14f3_ j))) = true → freeB y14f0_ (n_ (Contact.B (ic_ y14f3_ j))) = true → (gi y14f2_ (n_ (Contact.A (ic_ y14f3_ j))) = y14f4_ ↔ gi y14f2_ (n_ (Contact.B (ic_ y14f3_ j))) = y14f4_))) ∧ ∀ (y1 : List Body × Unit × List Int × List Contact × Int × Bool × Unit × Int × Int × Unit × Int × Int), let y1f0_ := Prod.fst y1; let y1s1_ := Prod.snd y1; let y1f2_ := Prod.fst (Prod.snd (Prod.snd y1)); let y1f3_ := Prod.fst (Prod.snd (Prod.snd (Prod.snd y1))); let y1f4_ := Prod.fst (Prod.snd (Prod.snd (Prod.snd (Prod.snd y1)))); let y1s5_ := Prod.snd (Prod.snd (Prod.snd (Prod.snd (Prod.snd y1)))); let y1f5_ := Prod.fst (Prod.snd (Prod.snd (Prod.snd (Prod.snd (Prod.snd y1))))); let y1f7_ := Prod.fst (Prod.snd (Prod.snd (Prod.snd (Prod.snd (Prod.snd (Prod.snd (Prod.snd y1))))))); let y1f8_ := Prod.fst (Prod.snd (Prod.snd (Prod.snd (Prod.snd (Prod.snd (Prod.snd (Prod.snd (Prod.snd y1)))))))); let y1s10_ := Prod.snd (Prod.snd (Prod.snd (Prod.snd (Prod.snd (Prod.snd (Prod.snd (Prod.snd (Prod.snd (Prod.snd y1))))))))); let y1f10_ := Prod.fst (Prod.snd (Prod.snd (Prod.snd (Prod.snd (Prod.snd (Prod.snd (Prod.snd (Prod.snd (Prod.snd (Prod.snd y1)))))))))); let y1s11_ := Prod.snd (Prod.snd (Prod.snd (Prod.snd (Prod.snd (Prod.snd (Prod.snd (Prod.snd (Prod.snd (Prod.snd (Prod.snd y1)))))))))); let A12_ := (Prod.snd y14s1_); let A11_ := (↑(List.length y1f3_) : Int); let A9_ := A15_; let A6_ := (Prod.snd y1s10_ + (1 : Int)); let A13_ := (A11_ - w_ A6_); let A4_ := (ic_ y1f3_ (n_ y1s11_)); let A8_ := (List.set (List.set y1f2_ (n_ (Contact.A A4_)) y1f4_) (n_ (Contact.B A4_)) y1f4_); let A2_ := (Prod.snd A12_); let A7_ := (↑(List.length (Prod.fst A2_)) : Int); let A3_ := (Prod.snd (Prod.snd (Prod.snd (Prod.snd A2_)))); let A10_ := (n_ (Prod.snd A3_)); let A5_ := (Prod.fst y1s5_ = true → cntG y14f0_ A10_ y1f2_ < cntG y14f0_ A10_ (Prod.fst A12_)); Holds (Prod.fst y1 = y14f0_ ∧ y1f3_ = Prod.fst A2_ ∧ y1f7_ = Prod.fst A3_ ∧ y1f4_ = Prod.fst (Prod.snd A2_) ∧ y1f8_ = Prod.snd A3_ ∧ y1f10_ = A7_ ∧ (0 : Int) ≤ y1s11_ ∧ y1s11_ ≤ A7_ ∧ FInv y14f0_ A10_ y1f2_ ∧ A5_ ∧ (Prod.fst y1s5_ = false → y1f2_ = Prod.fst A12_ ∧ ∀ (j : Nat), j < n_ y1s11_ → freeB y14f0_ (n_ (Contact.A (ic_ (Prod.fst A2_) j))) = true → freeB y14f0_ (n_ (Contact.B (ic_ (Prod.fst A2_) j))) = true → (gi y1f2_ (n_ (Contact.A (ic_ (Prod.fst A2_) j))) = Prod.fst (Prod.snd A2_) ↔ gi y1f2_ (n_ (Contact.B (ic_ (Prod.fst A2_) j))) = Prod.fst (Prod.snd A2_)))) → ifB (decide (Prod.snd y1s10_ < y1f10_)) (((0 : Int) ≤ y1s11_ ∧ y1s11_ < A11_) ∧ ((0 : Int) ≤ Contact.A A4_ ∧ Contact.A A4_ < (↑(List.length y1f0_) : Int)) ∧ ifB (Body.Mass (Ty.ix Ty.body y1f0_ (n_ (Contact.A A4_))) == (0 : Int)) (Holds (Prod.fst y1 = y14f0_ ∧ y1f3_ = Prod.fst A2_ ∧ y1f7_ = Prod.fst A3_ ∧ y1f4_ = Prod.fst (Prod.snd A2_) ∧ y1f8_ = Prod.snd A3_ ∧ y1f10_ = A7_ ∧ (0 : Int) ≤ w_ A6_ ∧ w_ A6_ ≤ A7_ ∧ FInv y14f0_ A10_ y1f2_ ∧ A5_ ∧ (Prod.fst y1s5_ = false → y1f2_ = Prod.fst A12_ ∧ ∀ (j : Nat), j < n_ (w_ A6_) → freeB y14f0_ (n_ (Contact.A (ic_ (Prod.fst A2_) j))) = true → freeB y14f0_ (n_ (Contact.B (ic_ (Prod.fst A2_) j))) = true → (gi y1f2_ (n_ (Contact.A (ic_ (Prod.fst A2_) j))) = Prod.fst (Prod.snd A2_) ↔ gi y1f2_ (n_ (Contact.B (ic_ (Prod.fst A2_) j))) = Prod.fst (Prod.snd A2_)))) ∧ n_ A13_ < n_ (A11_ - y1s11_)) (((0 : Int) ≤ Contact.B A4_ ∧ Contact.B A4_ < (↑(List.length y1f0_) : Int)) ∧ ifB (Body.Mass (Ty.ix Ty.body y1f0_ (n_ (Contact.B A4_))) == (0 : Int)) (Holds (Prod.fst y1 = y14f0_ ∧ y1f3_ = Prod.fst A2_ ∧ y1f7_ = Prod.fst A3_ ∧ y1f4_ = Prod.fst (Prod.snd A2_) ∧ y1f8_ = Prod.snd A3_ ∧ y1f10_ = A7_ ∧ (0 : Int) ≤ w_ A6_ ∧ w_ A6_ ≤ A7_ ∧ FInv y14f0_ A10_ y1f2_ ∧ A5_ ∧ (Prod.fst y1s5_ = false → y1f2_ = Prod.fst A12_ ∧ ∀ (j : Nat), j < n_ (w_ A6_) → freeB y14f0_ (n_ (Contact.A (ic_ (Prod.fst A2_) j))) = true → freeB y14f0_ (n_ (Contact.B (ic_ (Prod.fst A2_) j))) = true → (gi y1f2_ (n_ (Contact.A (ic_ (Prod.fst A2_) j))) = Prod.fst (Prod.snd A2_) ↔ gi y1f2_ (n_ (Contact.B (ic_ (Prod.fst A2_) j))) = Prod.fst (Prod.snd A2_)))) ∧ n_ A13_ < n_ (A11_ - y1s11_)) (((0 : Int) ≤ Contact.A A4_ ∧ Contact.A A4_ < (↑(List.length y1f2_) : Int)) ∧ ((0 : Int) ≤ Contact.B A4_ ∧ Contact.B A4_ < (↑(List.length y1f2_) : Int)) ∧ ifB ((Ty.ix Ty.int y1f2_ (n_ (Contact.A A4_)) == y1f4_) == (Ty.ix Ty.int y1f2_ (n_ (Contact.B A4_)) == y1f4_)) (Holds (Prod.fst y1 = y14f0_ ∧ y1f3_ = Prod.fst A2_ ∧ y1f7_ = Prod.fst A3_ ∧ y1f4_ = Prod.fst (Prod.snd A2_) ∧ y1f8_ = Prod.snd A3_ ∧ y1f10_ = A7_ ∧ (0 : Int) ≤ w_ A6_ ∧ w_ A6_ ≤ A7_ ∧ FInv y14f0_ A10_ y1f2_ ∧ A5_ ∧ (Prod.fst y1s5_ = false → y1f2_ = Prod.fst A12_ ∧ ∀ (j : Nat), j < n_ (w_ A6_) → freeB y14f0_ (n_ (Contact.A (ic_ (Prod.fst A2_) j))) = true → freeB y14f0_ (n_ (Contact.B (ic_ (Prod.fst A2_) j))) = true → (gi y1f2_ (n_ (Contact.A (ic_ (Prod.fst A2_) j))) = Prod.fst (Prod.snd A2_) ↔ gi y1f2_ (n_ (Contact.B (ic_ (Prod.fst A2_) j))) = Prod.fst (Prod.snd A2_)))) ∧ n_ A13_ < n_ (A11_ - y1s11_)) (((0 : Int) ≤ Contact.A A4_ ∧ Contact.A A4_ < (↑(List.length y1f2_) : Int)) ∧ ((0 : Int) ≤ Contact.B A4_ ∧ Contact.B A4_ < (↑(List.length (List.set y1f2_ (n_ (Contact.A A4_)) y1f4_)) : Int)) ∧ Holds (Prod.fst y1 = y14f0_ ∧ y1f3_ = Prod.fst A2_ ∧ y1f7_ = Prod.fst A3_ ∧ y1f4_ = Prod.fst (Prod.snd A2_) ∧ y1f8_ = Prod.snd A3_ ∧ y1f10_ = A7_ ∧ (0 : Int) ≤ w_ A6_ ∧ w_ A6_ ≤ A7_ ∧ FInv y14f0_ A10_ A8_ ∧ (true = true → cntG y14f0_ A10_ A8_ < cntG y14f0_ A10_ (Prod.fst A12_)) ∧ (true = false → List.set (List.set y1f2_ (n_ (Contact.A A4_)) y1f4_) (n_ (Contact.B A4_)) y1f4_ = Prod.fst A12_ ∧ ∀ (j : Nat), j < n_ (w_ A6_) → freeB y14f0_ (n_ (Contact.A (ic_ (Prod.fst A2_) j))) = true → freeB y14f0_ (n_ (Contact.B (ic_ (Prod.fst A2_) j))) = true → (gi A8_ (n_ (Contact.A (ic_ (Prod.fst A2_) j))) = Prod.fst (Prod.snd A2_) ↔ gi A8_ (n_ (Contact.B (ic_ (Prod.fst A2_) j))) = Prod.fst (Prod.snd A2_)))) ∧ n_ A13_ < n_ (A11_ - y1s11_))))) (Holds (Prod.fst y1 = y17f0_ ∧ y1f3_ = y17f3_ ∧ y1f7_ = Prod.fst (Prod.snd (Prod.snd A9_)) ∧ y1f4_ = Prod.fst A9_ ∧ y1f8_ = Prod.snd (Prod.snd (Prod.snd A9_)) ∧ FInv y17f0_ (n_ (Prod.snd (Prod.snd (Prod.snd A9_)))) y1f2_ ∧ (Prod.fst y1s5_ = false → ∀ (e : Grp.Edge), e ∈ edgesX y17f0_ → (gi y1f2_ (Prod.fst e) = Prod.fst A9_ ↔ gi y1f2_ (Prod.snd e) = Prod.fst A9_))) ∧ ((2 : Nat) * cntG y1f0_ (n_ y1f8_) y1f2_ + bif y1f5_ then (1 : Nat) else (0 : Nat)) < (2 : Nat) * cntG y14f0_ A10_ (Prod.fst A12_) + bif Prod.fst (Prod.snd (Prod.snd A2_)) then (1 : Nat) else (0 : Nat))) (Holds (Prod.fst y14 = y22f0_ ∧ y14f3_ = contactsOf y22f0_ ∧ y14f7_ = A19_ ∧ (0 : Int) ≤ w_ A16_ ∧ w_ A16_ ≤ A19_ ∧ w_ (Prod.fst y14s4_ + (1 : Int)) = (↑(numX y22f0_ (n_ (w_ A16_))) : Int) ∧ GInv y22f0_ (n_ (w_ A16_)) y14f2_) ∧ n_ ((↑(List.length y14f0_) : Int) - w_ A16_) < n_ (A20_ - Prod.snd (Prod.snd (Prod.snd A15_))))))) (Q (SV.vec (1 : Nat)) [(false, Blk.vec Ty.body y17f0_), (true, Blk.vec Ty.int y17f2_)])))) := by kernel_rfl

theorem ok_implGroups : FsOk Tryz.prog 19 fs_implGroups := fsOk_of tt_ok (tabFs_cons ok_implBodiesOk (tabFs_cons ok_implContacts (tabFs_cons ok_bodyFixed tabFs_nil))) mixed Tryz.func19 (by kernel_rfl) (by kernel_rfl) (by
    intro args LL p r HH h hp
    unfold fs_implGroups at h
    dsimp only at h
    split at h
    case h_2 => cases h
    rename_i xs
    simp only [Option.some.injEq, Prod.mk.injEq] at h
    obtain ⟨rfl, rfl, rfl⟩ := h
    refine ⟨by simp [Form, stays], (L_groups), ?_⟩
    rw [vc_implGroups]
    try dsimp only
    have hb := hp _ rfl
    refine ⟨by omega, ifB_of (fun c => ?_) (fun c => ?_)⟩
    · simp [groupsOf, not_true c]
    have hok := not_false c
    have hl := bodiesOk_len hok
    have hco : contactsOf xs = contactsF xs := by simp [contactsOf, hok]
    have hq := length_contactsF hl
    have hgo : groupsOf xs = groupsX xs := by simp [groupsOf, hok]
    rw [hgo]
    refine ⟨⟨by omega, (by trivial), by simp only [room, Int.toNat_natCast]; omega⟩, ⟨(by trivial), by simp, by simp, by omega, by omega, fun j hj => absurd hj (by simp)⟩, ?_⟩
    rintro ⟨xs', u, gs, n, i⟩ ⟨h⟩
    dsimp only at h ⊢
    obtain ⟨rfl, rfl, g1, i0, i1, i2⟩ := h
    refine ifB_of (fun c1 => ?_) (fun c1 => ?_)
    · have c1 := of_decide_eq_true c1
      have e1 : (i + 1).toNat = i.toNat + 1 := by omega
      have w : IntKind.i64.wrap (i + 1) = i + 1 := wrap_small (by omega) (by omega)
      rw [w, e1]
      refine ⟨⟨i0, by omega⟩, ⟨(by trivial), (by trivial), by rw [List.length_set]; exact g1, by omega, by omega, fun j hj => ?_⟩, by omega⟩
      rw [gi_set (by omega)]
      split
      · rfl
      · exact i2 j (by omega)
    · have c1 := of_decide_eq_false c1
      have hG0 : GInv xs' 0 gs := ⟨g1, fun j hj => by rw [i2 j (by omega)]; unfold gOf; simp⟩
      rw [hco]
      refine ⟨by omega, ⟨(by trivial), (by trivial), (by trivial), by omega, by omega, rfl, hG0⟩, ?_⟩
      clear g1 i0 i1 i2 c1 hG0
      rintro ⟨xs2, u2, gs2, cs, g, v, n, i⟩ ⟨h⟩
      dsimp only at h ⊢
      obtain ⟨rfl, rfl, rfl, i0, i1, rfl, hG⟩ := h
      refine ifB_of (fun c2 => ?_) (fun c2 => ?_)
      · have c2 := of_decide_eq_true c2
        have hi : i.toNat < xs2.length := by omega
        have e1 : (i + 1).toNat = i.toNat + 1 := by omega
        have w : IntKind.i64.wrap (i + 1) = i + 1 := wrap_small (by omega) (by omega)
        have hnl := num_le xs2 i.toNat
        have wg : IntKind.i64.wrap ((numX xs2 i.toNat : Int) + 1) = (numX xs2 i.toNat : Int) + 1 := wrap_small (by omega) (by omega)
        have hlead := ginv_lead hG hi
        rw [w, e1]
        refine ⟨⟨i0, by omega⟩, ifB_of (fun c3 => ?_) (fun c3 => ⟨⟨i0, by rw [hG.1]; omega⟩, ifB_of (fun c4 => ?_) (fun c4 => ?_)⟩)⟩
        · have hl0 : Grp.lead (freeB xs2) (cmX xs2) i.toNat = false := by
            rw [hlead]
            unfold freeB
            rw [c3]
            rfl
          obtain ⟨q1, q2⟩ := ginv_skip hG hl0
          exact ⟨⟨(by trivial), (by trivial), (by trivial), by omega, by omega, by rw [q2], q1⟩, by omega⟩
        · have c4 : ¬ gi gs2 i.toNat < 0 := Int.not_lt.2 (of_decide_eq_true c4)
          have hl0 : Grp.lead (freeB xs2) (cmX xs2) i.toNat = false := by rw [hlead, decide_eq_false c4, Bool.and_false]
          obtain ⟨q1, q2⟩ := ginv_skip hG hl0
          exact ⟨⟨(by trivial), (by trivial), (by trivial), by omega, by omega, by rw [q2], q1⟩, by omega⟩
        · have c4 : gi gs2 i.toNat < 0 := Int.not_le.1 (of_decide_eq_false c4)
          have hfree : freeB xs2 i.toNat = true := by
            unfold freeB
            rw [c3]
            rfl
          have hl1 : Grp.lead (freeB xs2) (cmX xs2) i.toNat = true := by
            rw [hlead, hfree, decide_eq_true c4]
            rfl
          have hcm := (lead_iff.1 hl1).2
          have hF := finv_start hG hi hfree hcm
          have hns : numX xs2 (i.toNat + 1) = numX xs2 i.toNat + 1 := by rw [num_succ, hl1]; rfl
          refine ⟨⟨i0, by rw [hG.1]; omega⟩, ⟨(by trivial), (by trivial), (by trivial), (by trivial), (by trivial), hF, fun q => by cases q⟩, ?_⟩
          clear hF hG hlead c4
          rintro ⟨xs3, u3, gs3, cs3, g3, ch, v3, n3, i3⟩ ⟨h⟩
          dsimp only at h ⊢
          obtain ⟨rfl, rfl, rfl, rfl, rfl, hF3, hch⟩ := h
          refine ifB_of (fun c5 => ?_) (fun c5 => ?_)
          · have c5 : ch = true := c5
            subst c5
            refine ⟨⟨(by trivial), (by trivial), (by trivial), (by trivial), (by trivial), (by trivial), by omega, by omega, hF3, (fun q => by cases q), fun _ => ⟨(by trivial), fun j hj => absurd hj (by simp)⟩⟩, ?_⟩
            rintro ⟨xs4, u4, gs4, cs4, g4, ch4, v4, n4, i4, w4, m4, k⟩ ⟨h⟩
            dsimp only at h ⊢
            obtain ⟨rfl, rfl, rfl, rfl, rfl, rfl, k0, k1, hF4, hlt, hno⟩ := h
            refine ifB_of (fun c6 => ?_) (fun c6 => ?_)
            · have c6 := of_decide_eq_true c6
              have hk : k.toNat < (contactsF xs4).length := by omega
              have hc := contact_ok0 hk
              have e3 : (k + 1).toNat = k.toNat + 1 := by omega
              have wk : IntKind.i64.wrap (k + 1) = k + 1 := wrap_small (by omega) (by omega)
              have stay : (freeB xs4 (Ty.ix .contact (contactsF xs4) k.toNat).A.toNat = true → freeB xs4 (Ty.ix .contact (contactsF xs4) k.toNat).B.toNat = true → (gi gs4 (Ty.ix .contact (contactsF xs4) k.toNat).A.toNat = numX xs4 i4.toNat ↔ gi gs4 (Ty.ix .contact (contactsF xs4) k.toNat).B.toNat = numX xs4 i4.toNat)) →
                  (ch4 = false → gs4 = gs3 ∧ ∀ j, j < k.toNat + 1 → freeB xs4 (Ty.ix .contact (contactsF xs4) j).A.toNat = true → freeB xs4 (Ty.ix .contact (contactsF xs4) j).B.toNat = true → (gi gs4 (Ty.ix .contact (contactsF xs4) j).A.toNat = numX xs4 i4.toNat ↔ gi gs4 (Ty.ix .contact (contactsF xs4) j).B.toNat = numX xs4 i4.toNat)) := by
                intro q hc4
                refine ⟨(hno hc4).1, fun j hj fa fb => ?_⟩
                by_cases e : j = k.toNat
                · rw [e] at fa fb ⊢
                  exact q fa fb
                · exact (hno hc4).2 j (by omega) fa fb
              rw [wk, e3]
              refine ⟨⟨k0, c6⟩, ⟨hc.1, hc.2.1⟩, ifB_of (fun d1 => ⟨⟨(by trivial), (by trivial), (by trivial), (by trivial), (by trivial), (by trivial), by omega, by omega, hF4, hlt, stay (fun fa => ?_)⟩, by omega⟩) (fun d1 => ⟨⟨hc.2.2.1, hc.2.2.2.1⟩, ifB_of (fun d2 => ⟨⟨(by trivial), (by trivial), (by trivial), (by trivial), (by trivial), (by trivial), by omega, by omega, hF4, hlt, stay (fun _ fb => ?_)⟩, by omega⟩) (fun d2 => ⟨⟨hc.1, by rw [hF4.1]; exact hc.2.1⟩, ⟨hc.2.2.1, by rw [hF4.1]; exact hc.2.2.2.1⟩, ifB_of (fun d3 => ⟨⟨(by trivial), (by trivial), (by trivial), (by trivial), (by trivial), (by trivial), by omega, by omega, hF4, hlt, stay (fun _ _ => ?_)⟩, by omega⟩) (fun d3 => ⟨⟨hc.1, by rw [hF4.1]; exact hc.2.1⟩, ⟨hc.2.2.1, by rw [List.length_set, hF4.1]; exact hc.2.2.2.1⟩, ⟨(by trivial), (by trivial), (by trivial), (by trivial), (by trivial), (by trivial), by omega, by omega, ?_, (fun _ => ?_), (fun q => by cases q)⟩, by omega⟩)⟩)⟩)⟩
              · unfold freeB at fa
                rw [d1] at fa
                cases fa
              · unfold freeB at fb
                rw [d2] at fb
                cases fb
              · have d3 : (gi gs4 (Ty.ix .contact (contactsF xs4) k.toNat).A.toNat == (numX xs4 i4.toNat : Int)) = (gi gs4 (Ty.ix .contact (contactsF xs4) k.toNat).B.toNat == (numX xs4 i4.toNat : Int)) := eq_of_beq d3
                refine ⟨fun h => ?_, fun h => ?_⟩
                · have := beq_iff_eq.2 h
                  rw [d3] at this
                  exact beq_iff_eq.1 this
                · have := beq_iff_eq.2 h
                  rw [← d3] at this
                  exact beq_iff_eq.1 this
              all_goals
                have d3 : (gi gs4 (Ty.ix .contact (contactsF xs4) k.toNat).A.toNat == (numX xs4 i4.toNat : Int)) ≠ (gi gs4 (Ty.ix .contact (contactsF xs4) k.toNat).B.toNat == (numX xs4 i4.toNat : Int)) := beq_eq_false_iff_ne.1 d3
                have fA : freeB xs4 (Ty.ix .contact (contactsF xs4) k.toNat).A.toNat = true := by unfold freeB; rw [d1]; rfl
                have fB : freeB xs4 (Ty.ix .contact (contactsF xs4) k.toNat).B.toNat = true := by unfold freeB; rw [d2]; rfl
                have he := mem_edges hc.2.2.2.2 fA fB
                have hx : (gi gs4 (Ty.ix .contact (contactsF xs4) k.toNat).A.toNat = numX xs4 i4.toNat ∧ gi gs4 (Ty.ix .contact (contactsF xs4) k.toNat).B.toNat ≠ numX xs4 i4.toNat) ∨ (gi gs4 (Ty.ix .contact (contactsF xs4) k.toNat).B.toNat = numX xs4 i4.toNat ∧ gi gs4 (Ty.ix .contact (contactsF xs4) k.toNat).A.toNat ≠ numX xs4 i4.toNat) := by
                  by_cases p1 : gi gs4 (Ty.ix .contact (contactsF xs4) k.toNat).A.toNat = numX xs4 i4.toNat <;> by_cases p2 : gi gs4 (Ty.ix .contact (contactsF xs4) k.toNat).B.toNat = numX xs4 i4.toNat
                  · exact absurd (by rw [p1, p2]) d3
                  · exact .inl ⟨p1, p2⟩
                  · exact .inr ⟨p2, p1⟩
                  · exact absurd (by rw [beq_eq_false_iff_ne.2 p1, beq_eq_false_iff_ne.2 p2]) d3
              · exact finv_step hF4 he (hx.imp (·.1) (·.1))
              · have h1 := cnt_step (xs := xs4) (i := i4.toNat) (gs := gs4) (a := (Ty.ix .contact (contactsF xs4) k.toNat).A.toNat) (b := (Ty.ix .contact (contactsF xs4) k.toNat).B.toNat) (by omega) (by omega) hF4.1 (hx.elim (fun q => .inr q.2) (fun q => .inl q.2))
                have h2 : cntG xs4 i4.toNat gs4 ≤ cntG xs4 i4.toNat gs3 := by
                  cases ch4 with
                  | true => exact Nat.le_of_lt (hlt rfl)
                  | false => rw [(hno rfl).1]; exact Nat.le_refl _
                exact Nat.lt_of_lt_of_le h1 h2
            · have c6 := of_decide_eq_false c6
              refine ⟨⟨(by trivial), (by trivial), (by trivial), (by trivial), (by trivial), hF4, fun q e he => ?_⟩, ?_⟩
              · obtain ⟨c0, hc0, rfl, f1, f2, _⟩ := of_edges he
                obtain ⟨j, hj, ej⟩ := List.getElem_of_mem hc0
                have e2 : Ty.ix .contact (contactsF xs4) j = c0 := ix_eq (T := .contact) (by rw [← ej]; exact List.getElem?_eq_getElem hj)
                have := (hno q).2 j (by omega) (by rw [e2]; exact f1) (by rw [e2]; exact f2)
                rw [e2] at this
                exact this
              · cases ch4 with
                | true =>
                  have := hlt rfl
                  simp only [cond_true]
                  omega
                | false =>
                  rw [(hno rfl).1]
                  simp only [cond_true, cond_false]
                  omega
          · have c5 : ch = false := c5
            have hG' := flood_done hF3 hi hfree hcm (hch c5)
            rw [w, e1, wg]
            exact ⟨⟨(by trivial), (by trivial), (by trivial), by omega, by omega, by rw [hns]; rfl, hG'⟩, by omega⟩
      · have c2 := of_decide_eq_false c2
        rw [show i.toNat = xs2.length by omega] at hG
        rw [groups_done hG]
        exact ⟨rfl, rfl⟩)

end
end Go.Proofs.YtnahfbjdicjdpaaGreat.Sym

namespace Go.Proofs.YtnahfbjdicjdpaaGreat.Sym
open Go
set_option linter.unusedVariables false
set_option linter.unusedSimpArgs false
set_option maxRecDepth 100000
noncomputable section

def awkF (xs : List Body) : Nat → List Bool
  | 0 => []
  | i + 1 => bif freeB xs i && !((Ty.ix .body xs i).Quiet == 8) then (awkF xs i ++ bif Grp.lead (freeB xs) (cmX xs) i then [false] else []).set (numX xs (cmX xs i)) true else awkF xs i ++ bif Grp.lead (freeB xs) (cmX xs) i then [false] else []
def awakeOf (xs : List Body) : List Bool := bif bodiesOk xs then awkF xs xs.length else []
theorem length_awkF (xs : List Body) : ∀ i, (awkF xs i).length = numX xs i
  | 0 => rfl
  | i + 1 => by
    have h : (awkF xs i ++ bif Grp.lead (freeB xs) (cmX xs) i then [false] else []).length = numX xs (i + 1) := by
      rw [List.length_append, length_awkF xs i, num_succ]
      cases Grp.lead (freeB xs) (cmX xs) i <;> rfl
    unfold awkF
    cases freeB xs i && !((Ty.ix .body xs i).Quiet == 8)
    · exact h
    · simp only [cond_true, List.length_set]
      exact h
theorem gOf_all {xs : List Body} {i : Nat} (h : i < xs.length) : gOf xs xs.length i = bif freeB xs i then (numX xs (cmX xs i) : Int) else -1 := by
  have := cmX_le xs i
  unfold gOf
  rw [decide_eq_true (show cmX xs i < xs.length by omega), Bool.and_true]
/-- Is it the first of its part? -/
theorem lead_len {xs : List Body} {i : Nat} (h : i < xs.length) : (gOf xs xs.length i == (numX xs i : Int)) = Grp.lead (freeB xs) (cmX xs) i := by
  rw [gOf_all h]
  cases f : freeB xs i with
  | false =>
    have : Grp.lead (freeB xs) (cmX xs) i = false := by simp [Grp.lead, f]
    rw [this]
    simp only [cond_false]
    exact beq_eq_false_iff_ne.2 (by omega)
  | true =>
    simp only [cond_true]
    have hle := cmX_le xs i
    by_cases e : cmX xs i = i
    · rw [lead_iff.2 ⟨f, e⟩, e]
      exact beq_self_eq_true _
    · have h1 : Grp.lead (freeB xs) (cmX xs) i = false := by simp [Grp.lead, f, e]
      have := Grp.num_lt (b := i) (lead_cm f) (by omega)
      rw [h1]
      unfold numX
      exact beq_eq_false_iff_ne.2 (by omega)
theorem num_in {xs : List Body} {i : Nat} (f : freeB xs i = true) : numX xs (cmX xs i) < numX xs (i + 1) := Grp.num_lt (lead_cm f) (Nat.lt_succ_of_le (cmX_le xs i))
theorem awk_fixed {xs : List Body} {i : Nat} (f : freeB xs i = false) : awkF xs (i + 1) = awkF xs i := by
  rw [awkF]
  simp [f, Grp.lead]
theorem awk_free {xs : List Body} {i : Nat} {l q : Bool} (f : freeB xs i = true) (hl : Grp.lead (freeB xs) (cmX xs) i = l) (hq : (!((Ty.ix .body xs i).Quiet == 8)) = q) :
    awkF xs (i + 1) = bif q then (awkF xs i ++ bif l then [false] else []).set (numX xs (cmX xs i)) true else awkF xs i ++ bif l then [false] else [] := by
  rw [awkF, f, hl, hq]
  rfl
def LSawk  : LS where
  S := List Body × Unit × List Bool × List Int × Int × Int
  live := [(0, [none]), (3, [some .bool]), (7, [some .int]), (8, [none]), (9, [none])]
  shape := fun s => ([.vec 0, .vec 1, .vec 2, .int .i64 s.2.2.2.2.1, .int .i64 s.2.2.2.2.2], [(false, .vec .body s.1), (true, .vec .bool s.2.2.1), (true, .vec .int s.2.2.2.1)])
  get := fun v h => match v, h with
    | [.vec 0, .vec 1, .vec 2, .int .i64 n, .int .i64 i], [(false, .vec .body xs), (true, .vec .bool out), (true, .vec .int gs)] => some (xs, (), out, gs, n, i)
    | _, _ => none
  inv := fun s0 s => Holds (s.1 = s0.1 ∧ s.2.2.2.1 = s0.2.2.2.1 ∧ s.2.2.2.2.1 = s0.2.2.2.1.length ∧ 0 ≤ s.2.2.2.2.2 ∧ s.2.2.2.2.2 ≤ s0.2.2.2.1.length ∧ s.2.2.1 = awkF s0.1 s.2.2.2.2.2.toNat)
  mu := fun s => (s.2.2.2.2.1 - s.2.2.2.2.2).toNat
  ok := by
    intro v h s hg
    try dsimp only at hg
    split at hg <;> cases hg
    rfl

def L_awk : Loops := fun n => match n with
  | 3 => some LSawk
  | _ => none
noncomputable def fs_implAwake : Fs := ⟨[], fun args H => match args, H with
  | [.vec 0], [(false, .vec .body xs)] => some ((some (xs.length ≤ 1048576)), .vec 1, [(false, .vec .body xs), (true, .vec .bool (awakeOf xs))])
  | _, _ => none⟩

theorem vc_implAwake (xs : List Body) (Q : SV → List Ent → Prop) :
    fnVC tt (look [(19, fs_implGroups), (54, fs_bodySleeps)]) (L_awk) Tryz.f20 [.vec 0] [(false, .vec .body xs)] Q =
    (let w_ := IntKind.wrap IntKind.i64; let n_ := Int.toNat; let ii_ := Ty.ix Ty.int; List.length xs ≤ (1048576 : Nat) ∧ Holds (xs = xs ∧ groupsOf xs = groupsOf xs ∧ (↑(List.length (groupsOf xs)) : Int) = (↑(List.length (groupsOf xs)) : Int) ∧ (0 : Int) ≤ (0 : Int) ∧ (0 : Int) ≤ (↑(List.length (groupsOf xs)) : Int) ∧ [] = awkF xs (n_ (0 : Int))) ∧ ∀ (y1 : List Body × Unit × List Bool × List Int × Int × Int), let y1f0_ := Prod.fst y1; let y1s1_ := Prod.snd y1; let y1f2_ := Prod.fst (Prod.snd (Prod.snd y1)); let y1f3_ := Prod.fst (Prod.snd (Prod.snd (Prod.snd y1))); let y1s4_ := Prod.snd (Prod.snd (Prod.snd (Prod.snd y1))); let y1f4_ := Prod.fst (Prod.snd (Prod.snd (Prod.snd (Prod.snd y1)))); let y1s5_ := Prod.snd (Prod.snd (Prod.snd (Prod.snd (Prod.snd y1)))); let A6_ := (Prod.fst y1s4_ - y1s5_); let A3_ := (↑(List.length (groupsOf xs)) : Int); let A2_ := (Prod.snd y1s4_ + (1 : Int)); let A5_ := (n_ (w_ A2_)); let A4_ := (Prod.fst y1s4_ - w_ A2_); Holds (Prod.fst y1 = xs ∧ y1f3_ = groupsOf xs ∧ y1f4_ = A3_ ∧ (0 : Int) ≤ y1s5_ ∧ y1s5_ ≤ A3_ ∧ y1f2_ = awkF xs (n_ y1s5_)) → ifB (decide (Prod.snd y1s4_ < y1f4_)) (((0 : Int) ≤ y1s5_ ∧ y1s5_ < (↑(List.length y1f3_) : Int)) ∧ ifB (ii_ y1f3_ (n_ y1s5_) == (↑(List.length y1f2_) : Int)) ((List.length y1f2_ + List.length [false]) * (1 : Nat) ≤ room ∧ ifB (decide (ii_ y1f3_ (n_ y1s5_) ≥ (0 : Int))) (((0 : Int) ≤ y1s5_ ∧ y1s5_ < (↑(List.length y1f0_) : Int)) ∧ ifB (!Body.Quiet (Ty.ix Ty.body y1f0_ (n_ y1s5_)) == (8 : Int)) (((0 : Int) ≤ ii_ y1f3_ (n_ y1s5_) ∧ ii_ y1f3_ (n_ y1s5_) < (↑(List.length (Prod.fst (Prod.snd y1s1_) ++ [false])) : Int)) ∧ Holds (Prod.fst y1 = xs ∧ y1f3_ = groupsOf xs ∧ y1f4_ = A3_ ∧ (0 : Int) ≤ w_ A2_ ∧ w_ A2_ ≤ A3_ ∧ List.set (Prod.fst (Prod.snd y1s1_) ++ [false]) (n_ (ii_ y1f3_ (n_ y1s5_))) true = awkF xs A5_) ∧ n_ A4_ < n_ A6_) (Holds (Prod.fst y1 = xs ∧ y1f3_ = groupsOf xs ∧ y1f4_ = A3_ ∧ (0 : Int) ≤ w_ A2_ ∧ w_ A2_ ≤ A3_ ∧ y1f2_ ++ [false] = awkF xs A5_) ∧ n_ A4_ < n_ A6_)) (Holds (Prod.fst y1 = xs ∧ y1f3_ = groupsOf xs ∧ y1f4_ = A3_ ∧ (0 : Int) ≤ w_ A2_ ∧ w_ A2_ ≤ A3_ ∧ y1f2_ ++ [false] = awkF xs A5_) ∧ n_ A4_ < n_ A6_)) (ifB (decide (ii_ y1f3_ (n_ y1s5_) ≥ (0 : Int))) (((0 : Int) ≤ y1s5_ ∧ y1s5_ < (↑(List.length y1f0_) : Int)) ∧ ifB (!Body.Quiet (Ty.ix Ty.body y1f0_ (n_ y1s5_)) == (8 : Int)) (((0 : Int) ≤ ii_ y1f3_ (n_ y1s5_) ∧ ii_ y1f3_ (n_ y1s5_) < (↑(List.length y1f2_) : Int)) ∧ Holds (Prod.fst y1 = xs ∧ y1f3_ = groupsOf xs ∧ y1f4_ = A3_ ∧ (0 : Int) ≤ w_ A2_ ∧ w_ A2_ ≤ A3_ ∧ List.set y1f2_ (n_ (ii_ y1f3_ (n_ y1s5_))) true = awkF xs A5_) ∧ n_ A4_ < n_ A6_) (Holds (Prod.fst y1 = xs ∧ y1f3_ = groupsOf xs ∧ y1f4_ = A3_ ∧ (0 : Int) ≤ w_ A2_ ∧ w_ A2_ ≤ A3_ ∧ y1f2_ = awkF xs A5_) ∧ n_ A4_ < n_ A6_)) (Holds (Prod.fst y1 = xs ∧ y1f3_ = groupsOf xs ∧ y1f4_ = A3_ ∧ (0 : Int) ≤ w_ A2_ ∧ w_ A2_ ≤ A3_ ∧ y1f2_ = awkF xs A5_) ∧ n_ A4_ < n_ A6_))) (Q (SV.vec (1 : Nat)) [(false, Blk.vec Ty.body y1f0_), (true, Blk.vec Ty.bool y1f2_)])) := by kernel_rfl

theorem ok_implAwake : FsOk Tryz.prog 20 fs_implAwake := fsOk_of tt_ok (tabFs_cons ok_implGroups (tabFs_cons ok_bodySleeps tabFs_nil)) mixed Tryz.func20 (by kernel_rfl) (by kernel_rfl) (by
    intro args LL p r HH h hp
    unfold fs_implAwake at h
    dsimp only at h
    split at h
    case h_2 => cases h
    rename_i xs
    simp only [Option.some.injEq, Prod.mk.injEq] at h
    obtain ⟨rfl, rfl, rfl⟩ := h
    refine ⟨by simp [Form, stays], (L_awk), ?_⟩
    rw [vc_implAwake]
    try dsimp only
    have hb := hp _ rfl
    refine ⟨hb, ⟨(by trivial), (by trivial), (by trivial), by omega, by omega, rfl⟩, ?_⟩
    rintro ⟨xs', u, out, gs, n, i⟩ ⟨h⟩
    dsimp only at h ⊢
    obtain ⟨rfl, rfl, rfl, i0, i1, rfl⟩ := h
    cases hok : bodiesOk xs' with
    | false =>
      have e : groupsOf xs' = [] := by simp [groupsOf, hok]
      have e2 : (groupsOf xs').length = 0 := by rw [e]; rfl
      refine ifB_of (fun c => ?_) (fun c => ?_)
      · have c := of_decide_eq_true c
        omega
      · rw [show i = 0 by omega]
        simp [awakeOf, hok, awkF]
    | true =>
      have e : groupsOf xs' = groupsX xs' := by simp [groupsOf, hok]
      have e2 : (groupsX xs').length = xs'.length := by simp only [groupsX, length_gen]
      rw [e] at i1 ⊢
      refine ifB_of (fun c => ?_) (fun c => ?_)
      · have c := of_decide_eq_true c
        have hi : i.toNat < xs'.length := by omega
        have e1 : (i + 1).toNat = i.toNat + 1 := by omega
        have w : IntKind.i64.wrap (i + 1) = i + 1 := wrap_small (by omega) (by omega)
        have hg : Ty.ix .int (groupsX xs') i.toNat = gOf xs' xs'.length i.toNat := ix_gen (T := .int) hi
        have hle := length_awkF xs' i.toNat
        have hll := lead_len hi
        have hga := gOf_all hi
        have hns := num_succ xs' i.toNat
        have hnl := num_le xs' i.toNat
        rw [w, e1, hg, hle]
        cases f : freeB xs' i.toNat with
        | false =>
          rw [f] at hga
          have hga : gOf xs' xs'.length i.toNat = -1 := hga
          rw [hga]
          have fin : awkF xs' i.toNat = awkF xs' (i.toNat + 1) := (awk_fixed f).symm
          refine ⟨⟨i0, by omega⟩, ifB_of (fun d => ?_) (fun d => ifB_of (fun d2 => ?_) (fun d2 => ⟨⟨(by trivial), (by trivial), (by trivial), by omega, by omega, fin⟩, by omega⟩))⟩
          · have d : (-1 : Int) = (numX xs' i.toNat : Int) := eq_of_beq d
            omega
          · exact absurd d2 (by decide)
        | true =>
          rw [f] at hga
          have hga : gOf xs' xs'.length i.toNat = (numX xs' (cmX xs' i.toNat) : Int) := hga
          have hin := num_in f
          rw [hga] at hll ⊢
          have hpos : ¬ decide ((numX xs' (cmX xs' i.toNat) : Int) ≥ 0) = false := by
            rw [decide_eq_true (by omega)]
            simp
          refine ⟨⟨i0, by omega⟩, ifB_of (fun d => ⟨by simp only [room, List.length_singleton]; omega, ifB_of (fun _ => ⟨⟨i0, by omega⟩, ifB_of (fun d3 => ⟨⟨by omega, ?_⟩, ⟨(by trivial), (by trivial), (by trivial), by omega, by omega, ?_⟩, by omega⟩) (fun d3 => ⟨⟨(by trivial), (by trivial), (by trivial), by omega, by omega, ?_⟩, by omega⟩)⟩) (fun d2 => absurd d2 hpos)⟩)
            (fun d => ifB_of (fun _ => ⟨⟨i0, by omega⟩, ifB_of (fun d3 => ⟨⟨by omega, ?_⟩, ⟨(by trivial), (by trivial), (by trivial), by omega, by omega, ?_⟩, by omega⟩) (fun d3 => ⟨⟨(by trivial), (by trivial), (by trivial), by omega, by omega, ?_⟩, by omega⟩)⟩) (fun d2 => absurd d2 hpos))⟩
          all_goals
            have d : Grp.lead (freeB xs') (cmX xs') i.toNat = _ := hll.symm.trans d
          · rw [d] at hns
            simp only [cond_true] at hns
            exact Int.ofNat_lt.2 (by rw [List.length_append, hle, List.length_singleton]; omega)
          · rw [awk_free f d d3, Int.toNat_natCast]
            rfl
          · rw [awk_free f d d3]
            rfl
          · rw [d] at hns
            simp only [cond_false] at hns
            exact Int.ofNat_lt.2 (by omega)
          · rw [awk_free f d d3, Int.toNat_natCast]
            simp only [cond_true, cond_false, List.append_nil]
          · rw [awk_free f d d3]
            simp only [cond_true, cond_false, List.append_nil]
      · have c := of_decide_eq_false c
        rw [show i.toNat = xs'.length by omega]
        simp [awakeOf, hok])

end
end Go.Proofs.YtnahfbjdicjdpaaGreat.Sym

namespace Go.Proofs.YtnahfbjdicjdpaaGreat.Sym
open Go
set_option linter.unusedVariables false
set_option linter.unusedSimpArgs false
set_option maxRecDepth 100000

/-- A body driven by so much more. -/
def pushB (b : Body) (p : Vec) : Body :=
  if b.Mass = 0 then b else { b with Drive := ⟨withinI (W (b.Drive.X + p.X)) 20000000, withinI (W (b.Drive.Y + p.Y)) 20000000⟩, Quiet := 0 }
/-- A body moved by a way. -/
def moveB (b : Body) (w : Vec) : Body :=
  { b with
    At := ⟨withinI (W (b.At.X + w.X)) 2560000, withinI (W (b.At.Y + w.Y)) 2560000⟩,
    Drive := ⟨if withinI (W (b.At.X + w.X)) 2560000 = W (b.At.X + w.X) then b.Drive.X else 0, if withinI (W (b.At.Y + w.Y)) 2560000 = W (b.At.Y + w.Y) then b.Drive.Y else 0⟩ }
/-- The same shape, mass, bounce, rub, number. -/
def kin (a b : Body) : Prop := a.Id = b.Id ∧ a.Shape = b.Shape ∧ a.Mass = b.Mass ∧ a.Bounce = b.Bounce ∧ a.Rub = b.Rub
theorem kin_refl (a : Body) : kin a a := ⟨rfl, rfl, rfl, rfl, rfl⟩
theorem kin_push (b : Body) (p : Vec) : kin b (pushB b p) := by
  unfold pushB
  split <;> exact ⟨rfl, rfl, rfl, rfl, rfl⟩
theorem kin_move (b : Body) (w : Vec) : kin b (moveB b w) := ⟨rfl, rfl, rfl, rfl, rfl⟩
theorem kin_trans {a b c : Body} (h : kin a b) (k : kin b c) : kin a c :=
  ⟨h.1.trans k.1, h.2.1.trans k.2.1, h.2.2.1.trans k.2.2.1, h.2.2.2.1.trans k.2.2.2.1, h.2.2.2.2.trans k.2.2.2.2⟩
theorem kin_pok {a b : Body} (h : kin a b) (k : POk a) : POk b := by
  obtain ⟨h1, h2, h3, h4, h5⟩ := h
  exact ⟨h3 ▸ k.m0, h3 ▸ k.m1, h4 ▸ k.b0, h4 ▸ k.b1, h5 ▸ k.r0, h5 ▸ k.r1⟩
/-- Two lists of bodies, each the other's kin. -/
def Kin (xs ys : List Body) : Prop := xs.length = ys.length ∧ ∀ k, k < xs.length → kin (Ty.ix .body xs k) (Ty.ix .body ys k)
theorem Kin.refl (xs : List Body) : Kin xs xs := ⟨rfl, fun _ _ => kin_refl _⟩
theorem Kin.trans {xs ys zs : List Body} (h : Kin xs ys) (k : Kin ys zs) : Kin xs zs :=
  ⟨h.1.trans k.1, fun j hj => kin_trans (h.2 j hj) (k.2 j (h.1 ▸ hj))⟩
theorem Kin.set {xs : List Body} {k : Nat} {b : Body} (h : kin (Ty.ix .body xs k) b) : Kin xs (xs.set k b) := by
  refine ⟨by simp, fun j hj => ?_⟩
  by_cases e : k = j
  · subst e
    rw [ix_set_self (T := .body) hj]
    exact h
  · rw [ix_set_ne (T := .body) e]
    exact kin_refl _
/-- All may push. -/
def AllP (xs : List Body) : Prop := ∀ k, k < xs.length → POk (Ty.ix .body xs k)
theorem allP_kin {xs ys : List Body} (h : Kin xs ys) (k : AllP xs) : AllP ys := fun j hj => kin_pok (h.2 j (h.1 ▸ hj)) (k j (h.1 ▸ hj))
theorem allP_ok {xs : List Body} (h : bodiesOk xs = true) : AllP xs := fun k hk => pok_of (bodiesOk_each h hk)
def zeroV2 (p : Vec) : Bool := p.X == 0 && p.Y == 0
def bearsF (b : Body) (p : Vec) : Bool := b.Mass == 0 || driveOk (plus b.Drive p)
def oppV (p : Vec) : Vec := ⟨W (0 - p.X), W (0 - p.Y)⟩
/-- Two bodies of a list pushed by a contact. -/
def pushOne (xs : List Body) (c : Contact) (z : Bool) : List Body :=
  let a := Ty.ix .body xs c.A.toNat
  let b := Ty.ix .body xs c.B.toNat
  let p := pushV a b c.Hit z
  if (!zeroV2 p && bearsF a (oppV p) && bearsF b p) = true then (xs.set c.A.toNat (pushB a (oppV p))).set c.B.toNat (pushB b p) else xs
theorem kin_pushOne {xs : List Body} {c : Contact} {z : Bool} (hne : c.A.toNat ≠ c.B.toNat) : Kin xs (pushOne xs c z) := by
  unfold pushOne
  dsimp only
  split
  · refine (Kin.set (k := c.A.toNat) (kin_push _ _)).trans (Kin.set ?_)
    rw [ix_set_ne (T := .body) hne]
    exact kin_push _ _
  · exact .refl _
@[simp] theorem length_pushOne (xs : List Body) (c : Contact) (z : Bool) : (pushOne xs c z).length = xs.length := by
  unfold pushOne
  dsimp only
  split <;> simp
def pushRound (xs : List Body) (z : Bool) : List Contact → List Body
  | [] => xs
  | c :: r => pushRound (pushOne xs c z) z r
/-- Contacts of bodies that there are. -/
def ctOk (n : Nat) (c : Contact) : Prop := 0 ≤ c.A ∧ c.A < n ∧ 0 ≤ c.B ∧ c.B < n ∧ c.A ≠ c.B
theorem kin_pushRound : ∀ {cs : List Contact} {xs : List Body} {z : Bool}, (∀ c, c ∈ cs → ctOk xs.length c) → Kin xs (pushRound xs z cs)
  | [], xs, z, _ => .refl _
  | c :: r, xs, z, h => by
    have hc := h c List.mem_cons_self
    have k := kin_pushOne (xs := xs) (c := c) (z := z) (by obtain ⟨h1, h2, h3, h4, h5⟩ := hc; omega)
    exact k.trans (kin_pushRound fun d hd => by rw [← k.1]; exact h d (List.mem_cons_of_mem _ hd))
def pushAllF (xs : List Body) (cs : List Contact) : List Body := pushRound (pushRound (pushRound (pushRound xs true cs) false cs) false cs) false cs
theorem kin_pushAllF {cs : List Contact} {xs : List Body} (h : ∀ c, c ∈ cs → ctOk xs.length c) : Kin xs (pushAllF xs cs) := by
  have k1 := kin_pushRound (z := true) h
  have k2 := kin_pushRound (xs := pushRound xs true cs) (z := false) (cs := cs) (by rw [← k1.1]; exact h)
  have k3 := kin_pushRound (xs := pushRound (pushRound xs true cs) false cs) (z := false) (cs := cs) (by rw [← k2.1, ← k1.1]; exact h)
  have k4 := kin_pushRound (xs := pushRound (pushRound (pushRound xs true cs) false cs) false cs) (z := false) (cs := cs) (by rw [← k3.1, ← k2.1, ← k1.1]; exact h)
  exact ((k1.trans k2).trans k3).trans k4
@[simp] theorem length_pushRound (z : Bool) : ∀ (cs : List Contact) (xs : List Body), (pushRound xs z cs).length = xs.length
  | [], xs => rfl
  | c :: r, xs => (length_pushRound z r (pushOne xs c z)).trans (length_pushOne xs c z)
@[simp] theorem length_pushAllF (xs : List Body) (cs : List Contact) : (pushAllF xs cs).length = xs.length := by simp [pushAllF]
/-- With so many rounds to go. -/
def pushRest (cs : List Contact) : Nat → List Body → List Body
  | 0, xs => xs
  | m + 1, xs => pushRest cs m (pushRound xs (m == 3) cs)
theorem pushRest_all (xs : List Body) (cs : List Contact) : pushRest cs 4 xs = pushAllF xs cs := by
  unfold pushAllF
  rw [pushRest, pushRest, pushRest, pushRest, pushRest]
  have e1 : ((3 : Nat) == 3) = true := by decide
  have e2 : ((2 : Nat) == 3) = false := by decide
  have e3 : ((1 : Nat) == 3) = false := by decide
  have e4 : ((0 : Nat) == 3) = false := by decide
  rw [e1, e2, e3, e4]
theorem pushRest_at {cs : List Contact} {j : Int} (h0 : 0 ≤ j) (h1 : j < 4) (xs : List Body) : pushRest cs (4 - j).toNat xs = pushRest cs (4 - (j + 1)).toNat (pushRound xs (j == 0) cs) := by
  have e : (4 - j).toNat = (4 - (j + 1)).toNat + 1 := by omega
  rw [e, pushRest]
  congr 2
  rw [Bool.eq_iff_iff]
  simp only [beq_iff_eq]
  omega
/-- Contacts that may be. -/
def CtsOk (n : Nat) (cs : List Contact) : Prop := cs.length ≤ 144 ∧ ∀ k, k < cs.length → ctOk n (Ty.ix .contact cs k)
theorem ctsOk_mem {n : Nat} {cs : List Contact} (h : CtsOk n cs) : ∀ c, c ∈ cs → ctOk n c := by
  intro c hc
  obtain ⟨k, hk, e⟩ := List.getElem_of_mem hc
  have := h.2 k hk
  subst e
  rwa [ix_eq (T := .contact) (List.getElem?_eq_getElem hk)] at this
theorem ct_ne {n : Nat} {c : Contact} (h : ctOk n c) : c.A.toNat ≠ c.B.toNat := by
  obtain ⟨h1, h2, h3, h4, h5⟩ := h
  omega
def shareF (a b : Body) (n : Int) : Int := if a.Mass = 0 then 0 else if b.Mass = 0 then n else W ((W (n * b.Mass)).tdiv (W (a.Mass + b.Mass)))
def apartOne (xs : List Body) (c : Contact) : List Body :=
  let n := W ((W (c.Hit.Deep - 64)).tdiv 4)
  let a := Ty.ix .body xs c.A.toNat
  let b := Ty.ix .body xs c.B.toNat
  if n ≤ 0 then xs else
    let ys := if a.Mass = 0 then xs else xs.set c.A.toNat (moveB a (scaled (oppV c.Hit.Way) (shareF a b n)))
    if b.Mass = 0 then ys else ys.set c.B.toNat (moveB b (scaled c.Hit.Way (shareF b a n)))
@[simp] theorem length_apartOne (xs : List Body) (c : Contact) : (apartOne xs c).length = xs.length := by
  unfold apartOne
  dsimp only
  repeat' split
  all_goals simp
theorem kin_apartOne {xs : List Body} {c : Contact} (hne : c.A.toNat ≠ c.B.toNat) : Kin xs (apartOne xs c) := by
  unfold apartOne
  dsimp only
  split
  · exact .refl _
  · have k1 : Kin xs (if (Ty.ix .body xs c.A.toNat).Mass = 0 then xs else xs.set c.A.toNat (moveB (Ty.ix .body xs c.A.toNat) (scaled (oppV c.Hit.Way) (shareF (Ty.ix .body xs c.A.toNat) (Ty.ix .body xs c.B.toNat) (W ((W (c.Hit.Deep - 64)).tdiv 4)))))) := by
      split
      · exact .refl _
      · exact Kin.set (kin_move _ _)
    split
    · exact k1
    · refine k1.trans (Kin.set ?_)
      split
      · exact kin_move _ _
      · rw [ix_set_ne (T := .body) hne]
        exact kin_move _ _
def apartF (xs : List Body) : List Contact → List Body
  | [] => xs
  | c :: r => apartF (apartOne xs c) r
@[simp] theorem length_apartF : ∀ (cs : List Contact) (xs : List Body), (apartF xs cs).length = xs.length
  | [], xs => rfl
  | c :: r, xs => (length_apartF r (apartOne xs c)).trans (length_apartOne xs c)
theorem kin_apartF : ∀ {cs : List Contact} {xs : List Body}, (∀ c, c ∈ cs → ctOk xs.length c) → Kin xs (apartF xs cs)
  | [], xs, _ => .refl _
  | c :: r, xs, h => by
    have hc := h c List.mem_cons_self
    have k := kin_apartOne (xs := xs) (c := c) (by obtain ⟨h1, h2, h3, h4, h5⟩ := hc; omega)
    exact k.trans (kin_apartF fun d hd => by rw [← k.1]; exact h d (List.mem_cons_of_mem _ hd))
end Go.Proofs.YtnahfbjdicjdpaaGreat.Sym

namespace Go.Proofs.YtnahfbjdicjdpaaGreat.Sym
open Go
set_option linter.unusedVariables false
set_option linter.unusedSimpArgs false
set_option maxRecDepth 100000

theorem withinS_drive (n : Int) : withinS n 20000000 = withinI n 20000000 := by rw [withinI_drive]; exact withinS_const n (by omega) (by omega)
theorem withinI_far (n : Int) : withinI n 2560000 = clampTo 2560000 n := withinI_const n (by omega) (by omega)
theorem withinS_at (n : Int) : withinS n 2560000 = withinI n 2560000 := by rw [withinI_far]; exact withinS_const n (by omega) (by omega)
theorem W_opp (a p : Int) : W (a + W (0 - p)) = W (a - p) := by
  simp only [W, IntKind.wrap_i64]
  omega
theorem setC_drive (xs : List Body) (e : Nat) (a b : Int) : setC .body xs e (0 + 6) [.int .i64 a, .int .i64 b] = xs.set e { Ty.ix .body xs e with Drive := ⟨a, b⟩ } := rfl
theorem setC_at (xs : List Body) (e : Nat) (a b : Int) : setC .body xs e (0 + 4) [.int .i64 a, .int .i64 b] = xs.set e { Ty.ix .body xs e with At := ⟨a, b⟩ } := rfl
theorem setC_quiet (xs : List Body) (e : Nat) (b : Int) : setC .body xs e (0 + 11) [.int .i64 b] = xs.set e { Ty.ix .body xs e with Quiet := b } := rfl
theorem setC_driveX (xs : List Body) (e : Nat) (b : Int) : setC .body xs e (0 + 6 + 0) [.int .i64 b] = xs.set e { Ty.ix .body xs e with Drive := ⟨b, (Ty.ix .body xs e).Drive.Y⟩ } := rfl
theorem setC_driveY (xs : List Body) (e : Nat) (b : Int) : setC .body xs e (0 + 6 + 1) [.int .i64 b] = xs.set e { Ty.ix .body xs e with Drive := ⟨(Ty.ix .body xs e).Drive.X, b⟩ } := rfl
theorem set_ix {T : Ty} (xs : List T.El) {e : Nat} (h : e < xs.length) : xs.set e (T.ix xs e) = xs := by
  apply List.ext_getElem?
  intro j
  rw [List.getElem?_set]
  split
  · rename_i q
    subst q
    exact (ix_get (T := T) h).symm
  · rfl
noncomputable def fs_specPushB : Fs := ⟨[], fun args H => match args, H with
  | [.agg [.int .i64 bI, .int .i64 bK, .int .i64 bW, .int .i64 bH, .int .i64 bX, .int .i64 bY, .int .i64 bU, .int .i64 bV, .int .i64 bM, .int .i64 bB, .int .i64 bR, .int .i64 bQ], .agg [.int .i64 pX, .int .i64 pY]], [] => some (none, .agg [.int .i64 (pushB (Body.mk bI (Shape.mk bK bW bH) (Vec.mk bX bY) (Vec.mk bU bV) bM bB bR bQ) (Vec.mk pX pY)).Id, .int .i64 (pushB (Body.mk bI (Shape.mk bK bW bH) (Vec.mk bX bY) (Vec.mk bU bV) bM bB bR bQ) (Vec.mk pX pY)).Shape.Kind, .int .i64 (pushB (Body.mk bI (Shape.mk bK bW bH) (Vec.mk bX bY) (Vec.mk bU bV) bM bB bR bQ) (Vec.mk pX pY)).Shape.Wide, .int .i64 (pushB (Body.mk bI (Shape.mk bK bW bH) (Vec.mk bX bY) (Vec.mk bU bV) bM bB bR bQ) (Vec.mk pX pY)).Shape.High, .int .i64 (pushB (Body.mk bI (Shape.mk bK bW bH) (Vec.mk bX bY) (Vec.mk bU bV) bM bB bR bQ) (Vec.mk pX pY)).At.X, .int .i64 (pushB (Body.mk bI (Shape.mk bK bW bH) (Vec.mk bX bY) (Vec.mk bU bV) bM bB bR bQ) (Vec.mk pX pY)).At.Y, .int .i64 (pushB (Body.mk bI (Shape.mk bK bW bH) (Vec.mk bX bY) (Vec.mk bU bV) bM bB bR bQ) (Vec.mk pX pY)).Drive.X, .int .i64 (pushB (Body.mk bI (Shape.mk bK bW bH) (Vec.mk bX bY) (Vec.mk bU bV) bM bB bR bQ) (Vec.mk pX pY)).Drive.Y, .int .i64 (pushB (Body.mk bI (Shape.mk bK bW bH) (Vec.mk bX bY) (Vec.mk bU bV) bM bB bR bQ) (Vec.mk pX pY)).Mass, .int .i64 (pushB (Body.mk bI (Shape.mk bK bW bH) (Vec.mk bX bY) (Vec.mk bU bV) bM bB bR bQ) (Vec.mk pX pY)).Bounce, .int .i64 (pushB (Body.mk bI (Shape.mk bK bW bH) (Vec.mk bX bY) (Vec.mk bU bV) bM bB bR bQ) (Vec.mk pX pY)).Rub, .int .i64 (pushB (Body.mk bI (Shape.mk bK bW bH) (Vec.mk bX bY) (Vec.mk bU bV) bM bB bR bQ) (Vec.mk pX pY)).Quiet], [])
  | _, _ => none⟩

theorem vc_specPushB (bI : Int) (bK : Int) (bW : Int) (bH : Int) (bX : Int) (bY : Int) (bU : Int) (bV : Int) (bM : Int) (bB : Int) (bR : Int) (bQ : Int) (pX : Int) (pY : Int) (Q : SV → List Ent → Prop) :
    fnVC tt (look [(127, fs_specWithin)]) L0 Tryz.f157 [.agg [.int .i64 bI, .int .i64 bK, .int .i64 bW, .int .i64 bH, .int .i64 bX, .int .i64 bY, .int .i64 bU, .int .i64 bV, .int .i64 bM, .int .i64 bB, .int .i64 bR, .int .i64 bQ], .agg [.int .i64 pX, .int .i64 pY]] [] Q =
    (ifB (bM == (0 : Int)) (Q (SV.agg [SV.int IntKind.i64 bI, SV.int IntKind.i64 bK, SV.int IntKind.i64 bW, SV.int IntKind.i64 bH, SV.int IntKind.i64 bX, SV.int IntKind.i64 bY, SV.int IntKind.i64 bU, SV.int IntKind.i64 bV, SV.int IntKind.i64 bM, SV.int IntKind.i64 bB, SV.int IntKind.i64 bR, SV.int IntKind.i64 bQ]) []) (Q (SV.agg [SV.int IntKind.i64 bI, SV.int IntKind.i64 bK, SV.int IntKind.i64 bW, SV.int IntKind.i64 bH, SV.int IntKind.i64 bX, SV.int IntKind.i64 bY, SV.int IntKind.i64 (withinS (IntKind.wrap IntKind.i64 (bU + pX)) (20000000 : Int)), SV.int IntKind.i64 (withinS (IntKind.wrap IntKind.i64 (bV + pY)) (20000000 : Int)), SV.int IntKind.i64 bM, SV.int IntKind.i64 bB, SV.int IntKind.i64 bR, SV.int IntKind.i64 (0 : Int)]) [])) := by kernel_rfl

theorem ok_specPushB : FsOk Tryz.prog 157 fs_specPushB := fsOk_of tt_ok (tabFs_cons ok_specWithin tabFs_nil) mixed Tryz.func157 (by kernel_rfl) (by kernel_rfl) (by
    intro args LL p r HH h hp
    unfold fs_specPushB at h
    dsimp only at h
    split at h
    case h_2 => cases h
    rename_i bI bK bW bH bX bY bU bV bM bB bR bQ pX pY
    simp only [Option.some.injEq, Prod.mk.injEq] at h
    obtain ⟨rfl, rfl, rfl⟩ := h
    refine ⟨by simp [Form, stays], L0, ?_⟩
    rw [vc_specPushB]
    try dsimp only
    unfold pushB
    refine ifB_of (fun c => ?_) (fun c => ?_)
    · have c : bM = 0 := eq_of_beq c
      simp [if_pos c]
    · have c : ¬ bM = 0 := beq_eq_false_iff_ne.1 c
      simp [if_neg c, withinS_drive, W])

noncomputable def fs_specMoveB : Fs := ⟨[], fun args H => match args, H with
  | [.agg [.int .i64 bI, .int .i64 bK, .int .i64 bW, .int .i64 bH, .int .i64 bX, .int .i64 bY, .int .i64 bU, .int .i64 bV, .int .i64 bM, .int .i64 bB, .int .i64 bR, .int .i64 bQ], .agg [.int .i64 pX, .int .i64 pY]], [] => some (none, .agg [.int .i64 (moveB (Body.mk bI (Shape.mk bK bW bH) (Vec.mk bX bY) (Vec.mk bU bV) bM bB bR bQ) (Vec.mk pX pY)).Id, .int .i64 (moveB (Body.mk bI (Shape.mk bK bW bH) (Vec.mk bX bY) (Vec.mk bU bV) bM bB bR bQ) (Vec.mk pX pY)).Shape.Kind, .int .i64 (moveB (Body.mk bI (Shape.mk bK bW bH) (Vec.mk bX bY) (Vec.mk bU bV) bM bB bR bQ) (Vec.mk pX pY)).Shape.Wide, .int .i64 (moveB (Body.mk bI (Shape.mk bK bW bH) (Vec.mk bX bY) (Vec.mk bU bV) bM bB bR bQ) (Vec.mk pX pY)).Shape.High, .int .i64 (moveB (Body.mk bI (Shape.mk bK bW bH) (Vec.mk bX bY) (Vec.mk bU bV) bM bB bR bQ) (Vec.mk pX pY)).At.X, .int .i64 (moveB (Body.mk bI (Shape.mk bK bW bH) (Vec.mk bX bY) (Vec.mk bU bV) bM bB bR bQ) (Vec.mk pX pY)).At.Y, .int .i64 (moveB (Body.mk bI (Shape.mk bK bW bH) (Vec.mk bX bY) (Vec.mk bU bV) bM bB bR bQ) (Vec.mk pX pY)).Drive.X, .int .i64 (moveB (Body.mk bI (Shape.mk bK bW bH) (Vec.mk bX bY) (Vec.mk bU bV) bM bB bR bQ) (Vec.mk pX pY)).Drive.Y, .int .i64 (moveB (Body.mk bI (Shape.mk bK bW bH) (Vec.mk bX bY) (Vec.mk bU bV) bM bB bR bQ) (Vec.mk pX pY)).Mass, .int .i64 (moveB (Body.mk bI (Shape.mk bK bW bH) (Vec.mk bX bY) (Vec.mk bU bV) bM bB bR bQ) (Vec.mk pX pY)).Bounce, .int .i64 (moveB (Body.mk bI (Shape.mk bK bW bH) (Vec.mk bX bY) (Vec.mk bU bV) bM bB bR bQ) (Vec.mk pX pY)).Rub, .int .i64 (moveB (Body.mk bI (Shape.mk bK bW bH) (Vec.mk bX bY) (Vec.mk bU bV) bM bB bR bQ) (Vec.mk pX pY)).Quiet], [])
  | _, _ => none⟩

theorem vc_specMoveB (bI : Int) (bK : Int) (bW : Int) (bH : Int) (bX : Int) (bY : Int) (bU : Int) (bV : Int) (bM : Int) (bB : Int) (bR : Int) (bQ : Int) (pX : Int) (pY : Int) (Q : SV → List Ent → Prop) :
    fnVC tt (look [(127, fs_specWithin)]) L0 Tryz.f135 [.agg [.int .i64 bI, .int .i64 bK, .int .i64 bW, .int .i64 bH, .int .i64 bX, .int .i64 bY, .int .i64 bU, .int .i64 bV, .int .i64 bM, .int .i64 bB, .int .i64 bR, .int .i64 bQ], .agg [.int .i64 pX, .int .i64 pY]] [] Q =
    (ifB (withinS (IntKind.wrap IntKind.i64 (bX + pX)) (2560000 : Int) != IntKind.wrap IntKind.i64 (bX + pX)) (ifB (withinS (IntKind.wrap IntKind.i64 (bY + pY)) (2560000 : Int) != IntKind.wrap IntKind.i64 (bY + pY)) (Q (SV.agg [SV.int IntKind.i64 bI, SV.int IntKind.i64 bK, SV.int IntKind.i64 bW, SV.int IntKind.i64 bH, SV.int IntKind.i64 (withinS (IntKind.wrap IntKind.i64 (bX + pX)) (2560000 : Int)), SV.int IntKind.i64 (withinS (IntKind.wrap IntKind.i64 (bY + pY)) (2560000 : Int)), SV.int IntKind.i64 (0 : Int), SV.int IntKind.i64 (0 : Int), SV.int IntKind.i64 bM, SV.int IntKind.i64 bB, SV.int IntKind.i64 bR, SV.int IntKind.i64 bQ]) []) (Q (SV.agg [SV.int IntKind.i64 bI, SV.int IntKind.i64 bK, SV.int IntKind.i64 bW, SV.int IntKind.i64 bH, SV.int IntKind.i64 (withinS (IntKind.wrap IntKind.i64 (bX + pX)) (2560000 : Int)), SV.int IntKind.i64 (withinS (IntKind.wrap IntKind.i64 (bY + pY)) (2560000 : Int)), SV.int IntKind.i64 (0 : Int), SV.int IntKind.i64 bV, SV.int IntKind.i64 bM, SV.int IntKind.i64 bB, SV.int IntKind.i64 bR, SV.int IntKind.i64 bQ]) [])) (ifB (withinS (IntKind.wrap IntKind.i64 (bY + pY)) (2560000 : Int) != IntKind.wrap IntKind.i64 (bY + pY)) (Q (SV.agg [SV.int IntKind.i64 bI, SV.int IntKind.i64 bK, SV.int IntKind.i64 bW, SV.int IntKind.i64 bH, SV.int IntKind.i64 (withinS (IntKind.wrap IntKind.i64 (bX + pX)) (2560000 : Int)), SV.int IntKind.i64 (withinS (IntKind.wrap IntKind.i64 (bY + pY)) (2560000 : Int)), SV.int IntKind.i64 bU, SV.int IntKind.i64 (0 : Int), SV.int IntKind.i64 bM, SV.int IntKind.i64 bB, SV.int IntKind.i64 bR, SV.int IntKind.i64 bQ]) []) (Q (SV.agg [SV.int IntKind.i64 bI, SV.int IntKind.i64 bK, SV.int IntKind.i64 bW, SV.int IntKind.i64 bH, SV.int IntKind.i64 (withinS (IntKind.wrap IntKind.i64 (bX + pX)) (2560000 : Int)), SV.int IntKind.i64 (withinS (IntKind.wrap IntKind.i64 (bY + pY)) (2560000 : Int)), SV.int IntKind.i64 bU, SV.int IntKind.i64 bV, SV.int IntKind.i64 bM, SV.int IntKind.i64 bB, SV.int IntKind.i64 bR, SV.int IntKind.i64 bQ]) []))) := by kernel_rfl

theorem ok_specMoveB : FsOk Tryz.prog 135 fs_specMoveB := fsOk_of tt_ok (tabFs_cons ok_specWithin tabFs_nil) mixed Tryz.func135 (by kernel_rfl) (by kernel_rfl) (by
    intro args LL p r HH h hp
    unfold fs_specMoveB at h
    dsimp only at h
    split at h
    case h_2 => cases h
    rename_i bI bK bW bH bX bY bU bV bM bB bR bQ pX pY
    simp only [Option.some.injEq, Prod.mk.injEq] at h
    obtain ⟨rfl, rfl, rfl⟩ := h
    refine ⟨by simp [Form, stays], L0, ?_⟩
    rw [vc_specMoveB]
    try dsimp only
    unfold moveB
    simp only [withinS_at]
    refine ifB_of (fun c => ifB_of (fun c2 => ?_) (fun c2 => ?_)) (fun c => ifB_of (fun c2 => ?_) (fun c2 => ?_))
    all_goals
      simp only [bne_iff_ne, ne_eq, bne_eq_false_iff_eq] at c c2
      simp [W, c, c2])

noncomputable def fs_implPushB : Fs := ⟨[], fun args H => match args, H with
  | [.ptr 0 e 0, .agg [.int .i64 pX, .int .i64 pY]], [(true, .vec .body xs)] => some ((some (e < xs.length)), .tup [], [(true, .vec .body (xs.set e (pushB (Ty.ix .body xs e) ⟨pX, pY⟩)))])
  | _, _ => none⟩

theorem vc_implPushB (e : Nat) (xs : List Body) (pX : Int) (pY : Int) (Q : SV → List Ent → Prop) :
    fnVC tt (look [(64, fs_bodyFixed), (93, fs_vecPlus), (94, fs_vecClamped)]) L0 Tryz.f92 [.ptr 0 e 0, .agg [.int .i64 pX, .int .i64 pY]] [(true, .vec .body xs)] Q =
    (ifB (!Body.Mass (Ty.ix Ty.body xs e) == (0 : Int)) (Q (SV.tup []) [(true, Blk.vec Ty.body (setC Ty.body (setC Ty.body xs e ((0 : Nat) + (6 : Nat)) [SV.int IntKind.i64 (withinI (Vec.X (plus (Body.Drive (Ty.ix Ty.body xs e)) (Vec.mk pX pY))) (20000000 : Int)), SV.int IntKind.i64 (withinI (Vec.Y (plus (Body.Drive (Ty.ix Ty.body xs e)) (Vec.mk pX pY))) (20000000 : Int))]) e ((0 : Nat) + (11 : Nat)) [SV.int IntKind.i64 (0 : Int)]))]) (Q (SV.tup []) [(true, Blk.vec Ty.body xs)])) := by kernel_rfl

theorem ok_implPushB : FsOk Tryz.prog 92 fs_implPushB := fsOk_of tt_ok (tabFs_cons ok_bodyFixed (tabFs_cons ok_vecPlus (tabFs_cons ok_vecClamped tabFs_nil))) mixed Tryz.func92 (by kernel_rfl) (by kernel_rfl) (by
    intro args LL p r HH h hp
    unfold fs_implPushB at h
    dsimp only at h
    split at h
    case h_2 => cases h
    rename_i e pX pY xs
    simp only [Option.some.injEq, Prod.mk.injEq] at h
    obtain ⟨rfl, rfl, rfl⟩ := h
    refine ⟨by simp [Form, stays], L0, ?_⟩
    rw [vc_implPushB]
    try dsimp only
    have he := hp _ rfl
    unfold pushB
    refine ifB_of (fun c => ?_) (fun c => ?_)
    · have c : ¬ (Ty.ix .body xs e).Mass = 0 := by simpa using c
      rw [setC_drive, setC_quiet, ix_set_self_body _ _ he, List.set_set, if_neg c]
      exact ⟨rfl, rfl⟩
    · have c : (Ty.ix .body xs e).Mass = 0 := by simpa using c
      rw [if_pos c, set_ix (T := .body) xs he]
      exact ⟨rfl, rfl⟩)

noncomputable def fs_implMoveB : Fs := ⟨[], fun args H => match args, H with
  | [.ptr 0 e 0, .agg [.int .i64 pX, .int .i64 pY]], [(true, .vec .body xs)] => some ((some (e < xs.length)), .tup [], [(true, .vec .body (xs.set e (moveB (Ty.ix .body xs e) ⟨pX, pY⟩)))])
  | _, _ => none⟩

theorem vc_implMoveB (e : Nat) (xs : List Body) (pX : Int) (pY : Int) (Q : SV → List Ent → Prop) :
    fnVC tt (look [(64, fs_bodyFixed), (93, fs_vecPlus), (94, fs_vecClamped)]) L0 Tryz.f57 [.ptr 0 e 0, .agg [.int .i64 pX, .int .i64 pY]] [(true, .vec .body xs)] Q =
    (ifB (Vec.X (Body.At (Ty.ix Ty.body (setC Ty.body xs e ((0 : Nat) + (4 : Nat)) [SV.int IntKind.i64 (withinI (Vec.X (plus (Body.At (Ty.ix Ty.body xs e)) (Vec.mk pX pY))) (2560000 : Int)), SV.int IntKind.i64 (withinI (Vec.Y (plus (Body.At (Ty.ix Ty.body xs e)) (Vec.mk pX pY))) (2560000 : Int))]) e)) != Vec.X (plus (Body.At (Ty.ix Ty.body xs e)) (Vec.mk pX pY))) (ifB (Vec.Y (Body.At (Ty.ix Ty.body (setC Ty.body (setC Ty.body xs e ((0 : Nat) + (4 : Nat)) [SV.int IntKind.i64 (withinI (Vec.X (plus (Body.At (Ty.ix Ty.body xs e)) (Vec.mk pX pY))) (2560000 : Int)), SV.int IntKind.i64 (withinI (Vec.Y (plus (Body.At (Ty.ix Ty.body xs e)) (Vec.mk pX pY))) (2560000 : Int))]) e ((0 : Nat) + (6 : Nat) + (0 : Nat)) [SV.int IntKind.i64 (0 : Int)]) e)) != Vec.Y (plus (Body.At (Ty.ix Ty.body xs e)) (Vec.mk pX pY))) (Q (SV.tup []) [(true, Blk.vec Ty.body (setC Ty.body (setC Ty.body (setC Ty.body xs e ((0 : Nat) + (4 : Nat)) [SV.int IntKind.i64 (withinI (Vec.X (plus (Body.At (Ty.ix Ty.body xs e)) (Vec.mk pX pY))) (2560000 : Int)), SV.int IntKind.i64 (withinI (Vec.Y (plus (Body.At (Ty.ix Ty.body xs e)) (Vec.mk pX pY))) (2560000 : Int))]) e ((0 : Nat) + (6 : Nat) + (0 : Nat)) [SV.int IntKind.i64 (0 : Int)]) e ((0 : Nat) + (6 : Nat) + (1 : Nat)) [SV.int IntKind.i64 (0 : Int)]))]) (Q (SV.tup []) [(true, Blk.vec Ty.body (setC Ty.body (setC Ty.body xs e ((0 : Nat) + (4 : Nat)) [SV.int IntKind.i64 (withinI (Vec.X (plus (Body.At (Ty.ix Ty.body xs e)) (Vec.mk pX pY))) (2560000 : Int)), SV.int IntKind.i64 (withinI (Vec.Y (plus (Body.At (Ty.ix Ty.body xs e)) (Vec.mk pX pY))) (2560000 : Int))]) e ((0 : Nat) + (6 : Nat) + (0 : Nat)) [SV.int IntKind.i64 (0 : Int)]))])) (ifB (Vec.Y (Body.At (Ty.ix Ty.body (setC Ty.body xs e ((0 : Nat) + (4 : Nat)) [SV.int IntKind.i64 (withinI (Vec.X (plus (Body.At (Ty.ix Ty.body xs e)) (Vec.mk pX pY))) (2560000 : Int)), SV.int IntKind.i64 (withinI (Vec.Y (plus (Body.At (Ty.ix Ty.body xs e)) (Vec.mk pX pY))) (2560000 : Int))]) e)) != Vec.Y (plus (Body.At (Ty.ix Ty.body xs e)) (Vec.mk pX pY))) (Q (SV.tup []) [(true, Blk.vec Ty.body (setC Ty.body (setC Ty.body xs e ((0 : Nat) + (4 : Nat)) [SV.int IntKind.i64 (withinI (Vec.X (plus (Body.At (Ty.ix Ty.body xs e)) (Vec.mk pX pY))) (2560000 : Int)), SV.int IntKind.i64 (withinI (Vec.Y (plus (Body.At (Ty.ix Ty.body xs e)) (Vec.mk pX pY))) (2560000 : Int))]) e ((0 : Nat) + (6 : Nat) + (1 : Nat)) [SV.int IntKind.i64 (0 : Int)]))]) (Q (SV.tup []) [(true, Blk.vec Ty.body (setC Ty.body xs e ((0 : Nat) + (4 : Nat)) [SV.int IntKind.i64 (withinI (Vec.X (plus (Body.At (Ty.ix Ty.body xs e)) (Vec.mk pX pY))) (2560000 : Int)), SV.int IntKind.i64 (withinI (Vec.Y (plus (Body.At (Ty.ix Ty.body xs e)) (Vec.mk pX pY))) (2560000 : Int))]))]))) := by kernel_rfl

theorem ok_implMoveB : FsOk Tryz.prog 57 fs_implMoveB := fsOk_of tt_ok (tabFs_cons ok_bodyFixed (tabFs_cons ok_vecPlus (tabFs_cons ok_vecClamped tabFs_nil))) mixed Tryz.func57 (by kernel_rfl) (by kernel_rfl) (by
    intro args LL p r HH h hp
    unfold fs_implMoveB at h
    dsimp only at h
    split at h
    case h_2 => cases h
    rename_i e pX pY xs
    simp only [Option.some.injEq, Prod.mk.injEq] at h
    obtain ⟨rfl, rfl, rfl⟩ := h
    refine ⟨by simp [Form, stays], L0, ?_⟩
    rw [vc_implMoveB]
    try dsimp only
    have he := hp _ rfl
    unfold moveB
    simp only [setC_at, setC_driveX, setC_driveY, ix_set_self_body _ _ he, List.set_set, List.length_set, he]
    refine ifB_of (fun c => ifB_of (fun c2 => ?_) (fun c2 => ?_)) (fun c => ifB_of (fun c2 => ?_) (fun c2 => ?_))
    all_goals
      simp only [plus, bne_iff_ne, ne_eq, bne_eq_false_iff_eq] at c c2
      simp only [plus, if_pos, if_neg, if_false, if_true, c, c2]
      first
        | exact ⟨rfl, rfl⟩
        | exact ⟨(by trivial), (by trivial)⟩)

noncomputable def fs_implBears : Fs := ⟨[], fun args H => match args, H with
  | [.agg [.int .i64 bI, .int .i64 bK, .int .i64 bW, .int .i64 bH, .int .i64 bX, .int .i64 bY, .int .i64 bU, .int .i64 bV, .int .i64 bM, .int .i64 bB, .int .i64 bR, .int .i64 bQ], .agg [.int .i64 pX, .int .i64 pY]], [] => some (none, .bool (bearsF (Body.mk bI (Shape.mk bK bW bH) (Vec.mk bX bY) (Vec.mk bU bV) bM bB bR bQ) (Vec.mk pX pY)), [])
  | _, _ => none⟩

theorem vc_implBears (bI : Int) (bK : Int) (bW : Int) (bH : Int) (bX : Int) (bY : Int) (bU : Int) (bV : Int) (bM : Int) (bB : Int) (bR : Int) (bQ : Int) (pX : Int) (pY : Int) (Q : SV → List Ent → Prop) :
    fnVC tt (look [(64, fs_bodyFixed), (93, fs_vecPlus), (110, fs_isDrive)]) L0 Tryz.f90 [.agg [.int .i64 bI, .int .i64 bK, .int .i64 bW, .int .i64 bH, .int .i64 bX, .int .i64 bY, .int .i64 bU, .int .i64 bV, .int .i64 bM, .int .i64 bB, .int .i64 bR, .int .i64 bQ], .agg [.int .i64 pX, .int .i64 pY]] [] Q =
    (ifB (bM == (0 : Int)) (Q (SV.bool true) []) (Q (SV.bool (driveOk (plus (Vec.mk bU bV) (Vec.mk pX pY)))) [])) := by kernel_rfl

theorem ok_implBears : FsOk Tryz.prog 90 fs_implBears := fsOk_of tt_ok (tabFs_cons ok_bodyFixed (tabFs_cons ok_vecPlus (tabFs_cons ok_isDrive tabFs_nil))) mixed Tryz.func90 (by kernel_rfl) (by kernel_rfl) (by
    intro args LL p r HH h hp
    unfold fs_implBears at h
    dsimp only at h
    split at h
    case h_2 => cases h
    rename_i bI bK bW bH bX bY bU bV bM bB bR bQ pX pY
    simp only [Option.some.injEq, Prod.mk.injEq] at h
    obtain ⟨rfl, rfl, rfl⟩ := h
    refine ⟨by simp [Form, stays], L0, ?_⟩
    rw [vc_implBears]
    try dsimp only
    unfold bearsF
    refine ifB_of (fun c => ?_) (fun c => ?_)
    · have c : (bM == 0) = true := c
      simp [c]
    · have c : (bM == 0) = false := c
      simp only [c, Bool.false_or]
      exact ⟨(by trivial), (by trivial)⟩)

noncomputable def fs_specShare : Fs := ⟨[], fun args H => match args, H with
  | [.agg [.int .i64 aI, .int .i64 aK, .int .i64 aW, .int .i64 aH, .int .i64 aX, .int .i64 aY, .int .i64 aU, .int .i64 aV, .int .i64 aM, .int .i64 aB, .int .i64 aR, .int .i64 aQ], .agg [.int .i64 bI, .int .i64 bK, .int .i64 bW, .int .i64 bH, .int .i64 bX, .int .i64 bY, .int .i64 bU, .int .i64 bV, .int .i64 bM, .int .i64 bB, .int .i64 bR, .int .i64 bQ], .int .i64 n], [] => some ((some (0 ≤ (Body.mk aI (Shape.mk aK aW aH) (Vec.mk aX aY) (Vec.mk aU aV) aM aB aR aQ).Mass ∧ (Body.mk aI (Shape.mk aK aW aH) (Vec.mk aX aY) (Vec.mk aU aV) aM aB aR aQ).Mass ≤ 1000000 ∧ 0 ≤ (Body.mk bI (Shape.mk bK bW bH) (Vec.mk bX bY) (Vec.mk bU bV) bM bB bR bQ).Mass ∧ (Body.mk bI (Shape.mk bK bW bH) (Vec.mk bX bY) (Vec.mk bU bV) bM bB bR bQ).Mass ≤ 1000000)), .int .i64 (shareF (Body.mk aI (Shape.mk aK aW aH) (Vec.mk aX aY) (Vec.mk aU aV) aM aB aR aQ) (Body.mk bI (Shape.mk bK bW bH) (Vec.mk bX bY) (Vec.mk bU bV) bM bB bR bQ) n), [])
  | _, _ => none⟩

theorem vc_specShare (aI : Int) (aK : Int) (aW : Int) (aH : Int) (aX : Int) (aY : Int) (aU : Int) (aV : Int) (aM : Int) (aB : Int) (aR : Int) (aQ : Int) (bI : Int) (bK : Int) (bW : Int) (bH : Int) (bX : Int) (bY : Int) (bU : Int) (bV : Int) (bM : Int) (bB : Int) (bR : Int) (bQ : Int) (n : Int) (Q : SV → List Ent → Prop) :
    fnVC tt (look []) L0 Tryz.f158 [.agg [.int .i64 aI, .int .i64 aK, .int .i64 aW, .int .i64 aH, .int .i64 aX, .int .i64 aY, .int .i64 aU, .int .i64 aV, .int .i64 aM, .int .i64 aB, .int .i64 aR, .int .i64 aQ], .agg [.int .i64 bI, .int .i64 bK, .int .i64 bW, .int .i64 bH, .int .i64 bX, .int .i64 bY, .int .i64 bU, .int .i64 bV, .int .i64 bM, .int .i64 bB, .int .i64 bR, .int .i64 bQ], .int .i64 n] [] Q =
    (ifB (aM == (0 : Int)) (Q (SV.int IntKind.i64 (0 : Int)) []) (ifB (bM == (0 : Int)) (Q (SV.int IntKind.i64 n) []) (IntKind.wrap IntKind.i64 (aM + bM) ≠ (0 : Int) ∧ Q (SV.int IntKind.i64 (IntKind.wrap IntKind.i64 (Int.tdiv (IntKind.wrap IntKind.i64 (n * bM)) (IntKind.wrap IntKind.i64 (aM + bM))))) []))) := by kernel_rfl

theorem ok_specShare : FsOk Tryz.prog 158 fs_specShare := fsOk_of tt_ok tabFs_nil mixed Tryz.func158 (by kernel_rfl) (by kernel_rfl) (by
    intro args LL p r HH h hp
    unfold fs_specShare at h
    dsimp only at h
    split at h
    case h_2 => cases h
    rename_i aI aK aW aH aX aY aU aV aM aB aR aQ bI bK bW bH bX bY bU bV bM bB bR bQ n
    simp only [Option.some.injEq, Prod.mk.injEq] at h
    obtain ⟨rfl, rfl, rfl⟩ := h
    refine ⟨by simp [Form, stays], L0, ?_⟩
    rw [vc_specShare]
    try dsimp only
    unfold shareF
    refine ifB_of (fun c => ?_) (fun c => ifB_of (fun c2 => ?_) (fun c2 => ?_))
    · have c : aM = 0 := eq_of_beq c
      simp [if_pos c]
    · have c : ¬ aM = 0 := beq_eq_false_iff_ne.1 c
      have c2 : bM = 0 := eq_of_beq c2
      simp [if_neg c, if_pos c2]
    · have c : ¬ aM = 0 := beq_eq_false_iff_ne.1 c
      have c2 : ¬ bM = 0 := beq_eq_false_iff_ne.1 c2
      simp only [if_neg c, if_neg c2]
      obtain ⟨h1, h2, h3, h4⟩ := hp _ rfl
      rw [show IntKind.i64.wrap (aM + bM) = aM + bM from wrap_small (by omega) (by omega)]
      exact ⟨by omega, (by trivial), (by trivial)⟩)

noncomputable def fs_specFits : Fs := ⟨[], fun args H => match args, H with
  | [.agg [.int .i64 aI, .int .i64 aK, .int .i64 aW, .int .i64 aH, .int .i64 aX, .int .i64 aY, .int .i64 aU, .int .i64 aV, .int .i64 aM, .int .i64 aB, .int .i64 aR, .int .i64 aQ], .agg [.int .i64 bI, .int .i64 bK, .int .i64 bW, .int .i64 bH, .int .i64 bX, .int .i64 bY, .int .i64 bU, .int .i64 bV, .int .i64 bM, .int .i64 bB, .int .i64 bR, .int .i64 bQ], .agg [.int .i64 pX, .int .i64 pY]], [] => some (none, .bool (bearsF (Body.mk aI (Shape.mk aK aW aH) (Vec.mk aX aY) (Vec.mk aU aV) aM aB aR aQ) (oppV (Vec.mk pX pY)) && bearsF (Body.mk bI (Shape.mk bK bW bH) (Vec.mk bX bY) (Vec.mk bU bV) bM bB bR bQ) (Vec.mk pX pY)), [])
  | _, _ => none⟩

theorem vc_specFits (aI : Int) (aK : Int) (aW : Int) (aH : Int) (aX : Int) (aY : Int) (aU : Int) (aV : Int) (aM : Int) (aB : Int) (aR : Int) (aQ : Int) (bI : Int) (bK : Int) (bW : Int) (bH : Int) (bX : Int) (bY : Int) (bU : Int) (bV : Int) (bM : Int) (bB : Int) (bR : Int) (bQ : Int) (pX : Int) (pY : Int) (Q : SV → List Ent → Prop) :
    fnVC tt (look [(113, fs_l6Drive)]) L0 Tryz.f156 [.agg [.int .i64 aI, .int .i64 aK, .int .i64 aW, .int .i64 aH, .int .i64 aX, .int .i64 aY, .int .i64 aU, .int .i64 aV, .int .i64 aM, .int .i64 aB, .int .i64 aR, .int .i64 aQ], .agg [.int .i64 bI, .int .i64 bK, .int .i64 bW, .int .i64 bH, .int .i64 bX, .int .i64 bY, .int .i64 bU, .int .i64 bV, .int .i64 bM, .int .i64 bB, .int .i64 bR, .int .i64 bQ], .agg [.int .i64 pX, .int .i64 pY]] [] Q =
    (ifB (aM == (0 : Int)) (ifB (bM == (0 : Int)) (Q (SV.bool true) []) (Q (SV.bool (driveOk (Vec.mk (IntKind.wrap IntKind.i64 (bU + pX)) (IntKind.wrap IntKind.i64 (bV + pY))))) [])) (ifB (driveOk (Vec.mk (IntKind.wrap IntKind.i64 (aU - pX)) (IntKind.wrap IntKind.i64 (aV - pY)))) (ifB (bM == (0 : Int)) (Q (SV.bool true) []) (Q (SV.bool (driveOk (Vec.mk (IntKind.wrap IntKind.i64 (bU + pX)) (IntKind.wrap IntKind.i64 (bV + pY))))) [])) (Q (SV.bool false) []))) := by kernel_rfl

theorem ok_specFits : FsOk Tryz.prog 156 fs_specFits := fsOk_of tt_ok (tabFs_cons ok_l6Drive tabFs_nil) mixed Tryz.func156 (by kernel_rfl) (by kernel_rfl) (by
    intro args LL p r HH h hp
    unfold fs_specFits at h
    dsimp only at h
    split at h
    case h_2 => cases h
    rename_i aI aK aW aH aX aY aU aV aM aB aR aQ bI bK bW bH bX bY bU bV bM bB bR bQ pX pY
    simp only [Option.some.injEq, Prod.mk.injEq] at h
    obtain ⟨rfl, rfl, rfl⟩ := h
    refine ⟨by simp [Form, stays], L0, ?_⟩
    rw [vc_specFits]
    try dsimp only
    simp only [bearsF, plus, oppV, W_opp]
    refine ifB_of (fun c => ifB_of (fun c2 => ?_) (fun c2 => ?_)) (fun c => ifB_of (fun c2 => ifB_of (fun c3 => ?_) (fun c3 => ?_)) (fun c2 => ?_))
    all_goals
      simp_all [W])

noncomputable def fs_specOne : Fs := ⟨[true], fun args H => match args, H with
  | [.vec 0, .agg [.int .i64 cA, .int .i64 cB, .int .i64 cX, .int .i64 cY, .int .i64 cD], .bool z], [(true, .vec .body xs)] => some ((some (AllP xs ∧ ctOk xs.length ⟨cA, cB, ⟨⟨cX, cY⟩, cD⟩⟩)), .tup [], [(true, .vec .body (pushOne xs ⟨cA, cB, ⟨⟨cX, cY⟩, cD⟩⟩ z))])
  | _, _ => none⟩

theorem vc_specOne (z : Bool) (xs : List Body) (cA : Int) (cB : Int) (cX : Int) (cY : Int) (cD : Int) (Q : SV → List Ent → Prop) :
    fnVC tt (look [(155, fs_l8Push), (156, fs_specFits), (157, fs_specPushB)]) L0 Tryz.f133 [.vec 0, .agg [.int .i64 cA, .int .i64 cB, .int .i64 cX, .int .i64 cY, .int .i64 cD], .bool z] [(true, .vec .body xs)] Q =
    (((0 : Int) ≤ cA ∧ cA < (↑(List.length xs) : Int)) ∧ ((0 : Int) ≤ cB ∧ cB < (↑(List.length xs) : Int)) ∧ (POk (Ty.ix Ty.body xs (Int.toNat cA)) ∧ POk (Ty.ix Ty.body xs (Int.toNat cB))) ∧ ifB (Vec.X (pushV (Ty.ix Ty.body xs (Int.toNat cA)) (Ty.ix Ty.body xs (Int.toNat cB)) (Hit.mk (Vec.mk cX cY) cD) z) == (0 : Int) && Vec.Y (pushV (Ty.ix Ty.body xs (Int.toNat cA)) (Ty.ix Ty.body xs (Int.toNat cB)) (Hit.mk (Vec.mk cX cY) cD) z) == (0 : Int)) (Q (SV.tup []) [(true, Blk.vec Ty.body xs)]) (((0 : Int) ≤ cA ∧ cA < (↑(List.length xs) : Int)) ∧ ((0 : Int) ≤ cB ∧ cB < (↑(List.length xs) : Int)) ∧ ifB (!(bearsF (Ty.ix Ty.body xs (Int.toNat cA)) (oppV (pushV (Ty.ix Ty.body xs (Int.toNat cA)) (Ty.ix Ty.body xs (Int.toNat cB)) (Hit.mk (Vec.mk cX cY) cD) z)) && bearsF (Ty.ix Ty.body xs (Int.toNat cB)) (pushV (Ty.ix Ty.body xs (Int.toNat cA)) (Ty.ix Ty.body xs (Int.toNat cB)) (Hit.mk (Vec.mk cX cY) cD) z))) (Q (SV.tup []) [(true, Blk.vec Ty.body xs)]) (((0 : Int) ≤ cA ∧ cA < (↑(List.length xs) : Int)) ∧ ((0 : Int) ≤ cA ∧ cA < (↑(List.length xs) : Int)) ∧ ((0 : Int) ≤ cB ∧ cB < (↑(List.length (List.set xs (Int.toNat cA) (pushB (Ty.ix Ty.body xs (Int.toNat cA)) (Vec.mk (IntKind.wrap IntKind.i64 ((0 : Int) - Vec.X (pushV (Ty.ix Ty.body xs (Int.toNat cA)) (Ty.ix Ty.body xs (Int.toNat cB)) (Hit.mk (Vec.mk cX cY) cD) z))) (IntKind.wrap IntKind.i64 ((0 : Int) - Vec.Y (pushV (Ty.ix Ty.body xs (Int.toNat cA)) (Ty.ix Ty.body xs (Int.toNat cB)) (Hit.mk (Vec.mk cX cY) cD) z))))))) : Int)) ∧ ((0 : Int) ≤ cB ∧ cB < (↑(List.length (List.set xs (Int.toNat cA) (pushB (Ty.ix Ty.body xs (Int.toNat cA)) (Vec.mk (IntKind.wrap IntKind.i64 ((0 : Int) - Vec.X (pushV (Ty.ix Ty.body xs (Int.toNat cA)) (Ty.ix Ty.body xs (Int.toNat cB)) (Hit.mk (Vec.mk cX cY) cD) z))) (IntKind.wrap IntKind.i64 ((0 : Int) - Vec.Y (pushV (Ty.ix Ty.body xs (Int.toNat cA)) (Ty.ix Ty.body xs (Int.toNat cB)) (Hit.mk (Vec.mk cX cY) cD) z))))))) : Int)) ∧ Q (SV.tup []) [(true, Blk.vec Ty.body (List.set (List.set xs (Int.toNat cA) (pushB (Ty.ix Ty.body xs (Int.toNat cA)) (Vec.mk (IntKind.wrap IntKind.i64 ((0 : Int) - Vec.X (pushV (Ty.ix Ty.body xs (Int.toNat cA)) (Ty.ix Ty.body xs (Int.toNat cB)) (Hit.mk (Vec.mk cX cY) cD) z))) (IntKind.wrap IntKind.i64 ((0 : Int) - Vec.Y (pushV (Ty.ix Ty.body xs (Int.toNat cA)) (Ty.ix Ty.body xs (Int.toNat cB)) (Hit.mk (Vec.mk cX cY) cD) z)))))) (Int.toNat cB) (pushB (Ty.ix Ty.body (List.set xs (Int.toNat cA) (pushB (Ty.ix Ty.body xs (Int.toNat cA)) (Vec.mk (IntKind.wrap IntKind.i64 ((0 : Int) - Vec.X (pushV (Ty.ix Ty.body xs (Int.toNat cA)) (Ty.ix Ty.body xs (Int.toNat cB)) (Hit.mk (Vec.mk cX cY) cD) z))) (IntKind.wrap IntKind.i64 ((0 : Int) - Vec.Y (pushV (Ty.ix Ty.body xs (Int.toNat cA)) (Ty.ix Ty.body xs (Int.toNat cB)) (Hit.mk (Vec.mk cX cY) cD) z)))))) (Int.toNat cB)) (pushV (Ty.ix Ty.body xs (Int.toNat cA)) (Ty.ix Ty.body xs (Int.toNat cB)) (Hit.mk (Vec.mk cX cY) cD) z))))]))) := by kernel_rfl

theorem ok_specOne : FsOk Tryz.prog 133 fs_specOne := fsOk_of tt_ok (tabFs_cons ok_l8Push (tabFs_cons ok_specFits (tabFs_cons ok_specPushB tabFs_nil))) mixed Tryz.func133 (by kernel_rfl) (by kernel_rfl) (by
    intro args LL p r HH h hp
    unfold fs_specOne at h
    dsimp only at h
    split at h
    case h_2 => cases h
    rename_i cA cB cX cY cD z xs
    simp only [Option.some.injEq, Prod.mk.injEq] at h
    obtain ⟨rfl, rfl, rfl⟩ := h
    refine ⟨by simp [Form, stays], L0, ?_⟩
    rw [vc_specOne]
    try dsimp only
    obtain ⟨hA, hc⟩ := hp _ rfl
    have hne := ct_ne hc
    obtain ⟨a0, a1, b0, b1, ne⟩ := hc
    dsimp only at a0 a1 b0 b1 ne hne
    have PA := hA cA.toNat (by omega)
    have PB := hA cB.toNat (by omega)
    refine ⟨⟨a0, a1⟩, ⟨b0, b1⟩, ⟨PA, PB⟩, ?_⟩
    unfold pushOne
    dsimp only
    generalize pushV (Ty.body.ix xs cA.toNat) (Ty.body.ix xs cB.toNat) ⟨⟨cX, cY⟩, cD⟩ z = p
    have b2 : cB < ((xs.set cA.toNat (pushB (Ty.body.ix xs cA.toNat) ⟨IntKind.i64.wrap (0 - p.X), IntKind.i64.wrap (0 - p.Y)⟩)).length : Int) := by rw [List.length_set]; exact b1
    refine ifB_of (fun c => ?_) (fun c => ⟨⟨a0, a1⟩, ⟨b0, b1⟩, ifB_of (fun c2 => ?_) (fun c2 => ⟨⟨a0, a1⟩, ⟨a0, a1⟩, ⟨b0, b2⟩, ⟨b0, b2⟩, ?_⟩)⟩)
    · have c : zeroV2 p = true := c
      simp [c]
    · have c2 := not_true c2
      rw [Bool.and_assoc, c2]
      simp
    · have c : zeroV2 p = false := c
      have c2 := not_false c2
      rw [Bool.and_assoc, c2, c, ix_set_ne (T := .body) hne]
      exact ⟨rfl, rfl⟩)

noncomputable def fs_specCopyB : Fs := ⟨[], fun args H => match args, H with
  | [.vec 0], [(false, .vec .body xs)] => some ((some (xs.length ≤ 1048576)), .vec 1, [(false, .vec .body xs), (true, .vec .body xs)])
  | _, _ => none⟩

theorem vc_specCopyB (xs : List Body) (Q : SV → List Ent → Prop) :
    fnVC tt (look []) L0 Tryz.f67 [.vec 0] [(false, .vec .body xs)] Q =
    (((0 : Nat) + List.length xs) * (96 : Nat) ≤ room ∧ Q (SV.vec (1 : Nat)) [(false, Blk.vec Ty.body xs), (true, Blk.vec Ty.body ([] ++ xs))]) := by kernel_rfl

theorem ok_specCopyB : FsOk Tryz.prog 67 fs_specCopyB := fsOk_of tt_ok tabFs_nil mixed Tryz.func67 (by kernel_rfl) (by kernel_rfl) (by
    intro args LL p r HH h hp
    unfold fs_specCopyB at h
    dsimp only at h
    split at h
    case h_2 => cases h
    rename_i xs
    simp only [Option.some.injEq, Prod.mk.injEq] at h
    obtain ⟨rfl, rfl, rfl⟩ := h
    refine ⟨by simp [Form, stays], L0, ?_⟩
    rw [vc_specCopyB]
    try dsimp only
    have hb := hp _ rfl
    refine ⟨by simp only [room, List.length_nil]; omega, ?_⟩
    simp)

noncomputable def fs_cloneBodies : Fs := ⟨[], fun args H => match args, H with
  | [.vec 0], [(false, .vec .body xs)] => some ((some (xs.length ≤ 1048576)), .vec 1, [(false, .vec .body xs), (true, .vec .body xs)])
  | _, _ => none⟩

theorem vc_cloneBodies (xs : List Body) (Q : SV → List Ent → Prop) :
    fnVC tt (look []) L0 Tryz.f53 [.vec 0] [(false, .vec .body xs)] Q =
    (∀ (b : Bool), (b = true → List.length xs = (0 : Nat)) → ifB b (Q (SV.vec (1 : Nat)) [(false, Blk.vec Ty.body xs), (true, Blk.vec Ty.body [])]) (((0 : Nat) + List.length xs) * (96 : Nat) ≤ room ∧ Q (SV.vec (1 : Nat)) [(false, Blk.vec Ty.body xs), (true, Blk.vec Ty.body ([] ++ xs))])) := by kernel_rfl

theorem ok_cloneBodies : FsOk Tryz.prog 53 fs_cloneBodies := fsOk_of tt_ok tabFs_nil mixed Tryz.func53 (by kernel_rfl) (by kernel_rfl) (by
    intro args LL p r HH h hp
    unfold fs_cloneBodies at h
    dsimp only at h
    split at h
    case h_2 => cases h
    rename_i xs
    simp only [Option.some.injEq, Prod.mk.injEq] at h
    obtain ⟨rfl, rfl, rfl⟩ := h
    refine ⟨by simp [Form, stays], L0, ?_⟩
    rw [vc_cloneBodies]
    try dsimp only
    have hb := hp _ rfl
    intro z hz
    refine ifB_of (fun c => ?_) (fun c => ⟨by simp only [room]; omega, ?_⟩)
    · have := List.length_eq_zero_iff.1 (hz c)
      subst this
      exact ⟨rfl, rfl⟩
    · simp)

theorem pushRound_drop {cs : List Contact} {k : Nat} (h : k < cs.length) (ys : List Body) (z : Bool) : pushRound ys z (cs.drop k) = pushRound (pushOne ys (Ty.ix .contact cs k) z) z (cs.drop (k + 1)) := by
  rw [drop_ix (T := .contact) h]
  rfl
def LSall1  : LS where
  S := List Body × List Contact × Unit × List Body × Int
  live := [(1, [none]), (5, [some .body]), (6, [none])]
  shape := fun s => ([.vec 1, .vec 2, .int .i64 s.2.2.2.2], [(false, .vec .body s.1), (false, .vec .contact s.2.1), (true, .vec .body s.2.2.2.1)])
  get := fun v h => match v, h with
    | [.vec 1, .vec 2, .int .i64 j], [(false, .vec .body xs), (false, .vec .contact cs), (true, .vec .body ys)] => some (xs, cs, (), ys, j)
    | _, _ => none
  inv := fun s0 s => Holds (s.1 = s0.1 ∧ s.2.1 = s0.2.1 ∧ 0 ≤ s.2.2.2.2 ∧ s.2.2.2.2 ≤ 4 ∧ Kin s0.1 s.2.2.2.1 ∧ pushRest s0.2.1 (4 - s.2.2.2.2).toNat s.2.2.2.1 = pushAllF s0.1 s0.2.1)
  mu := fun s => (4 - s.2.2.2.2).toNat
  ok := by
    intro v h s hg
    try dsimp only at hg
    split at hg <;> cases hg
    rfl

def LSall2  : LS where
  S := List Body × List Contact × Unit × List Body × Int × Int
  live := [(1, [none]), (5, [some .body]), (6, [none]), (7, [none])]
  shape := fun s => ([.vec 1, .vec 2, .int .i64 s.2.2.2.2.1, .int .i64 s.2.2.2.2.2], [(false, .vec .body s.1), (false, .vec .contact s.2.1), (true, .vec .body s.2.2.2.1)])
  get := fun v h => match v, h with
    | [.vec 1, .vec 2, .int .i64 j, .int .i64 k], [(false, .vec .body xs), (false, .vec .contact cs), (true, .vec .body ys)] => some (xs, cs, (), ys, j, k)
    | _, _ => none
  inv := fun s0 s => Holds (s.1 = s0.1 ∧ s.2.1 = s0.2.1 ∧ s.2.2.2.2.1 = s0.2.2.2.2.1 ∧ 0 ≤ s.2.2.2.2.2 ∧ s.2.2.2.2.2 ≤ s0.2.1.length ∧ Kin s0.1 s.2.2.2.1 ∧ pushRound s.2.2.2.1 (s0.2.2.2.2.1 == 0) (s0.2.1.drop s.2.2.2.2.2.toNat) = pushRound s0.2.2.2.1 (s0.2.2.2.2.1 == 0) (s0.2.1.drop s0.2.2.2.2.2.toNat))
  mu := fun s => ((s.2.1.length : Int) - s.2.2.2.2.2).toNat
  ok := by
    intro v h s hg
    try dsimp only at hg
    split at hg <;> cases hg
    rfl

def L_specAll : Loops := fun n => match n with
  | 3 => some LSall1
  | 6 => some LSall2
  | _ => none
noncomputable def fs_specAll : Fs := ⟨[], fun args H => match args, H with
  | [.vec 0, .vec 1], [(false, .vec .body xs), (false, .vec .contact cs)] => some ((some (AllP xs ∧ xs.length ≤ 12 ∧ CtsOk xs.length cs)), .vec 2, [(false, .vec .body xs), (false, .vec .contact cs), (true, .vec .body (pushAllF xs cs))])
  | _, _ => none⟩

theorem vc_specAll (xs : List Body) (cs : List Contact) (Q : SV → List Ent → Prop) :
    fnVC tt (look [(67, fs_specCopyB), (133, fs_specOne)]) (L_specAll) Tryz.f101 [.vec 0, .vec 1] [(false, .vec .body xs), (false, .vec .contact cs)] Q =
    (let w_ := IntKind.wrap IntKind.i64; let n_ := Int.toNat; List.length xs ≤ (1048576 : Nat) ∧ Holds (xs = xs ∧ cs = cs ∧ (0 : Int) ≤ (0 : Int) ∧ (0 : Int) ≤ (4 : Int) ∧ Kin xs xs ∧ pushRest cs (n_ ((4 : Int) - (0 : Int))) xs = pushAllF xs cs) ∧ ∀ (y4 : List Body × List Contact × Unit × List Body × Int), let y4f0_ := Prod.fst y4; let y4f1_ := Prod.fst (Prod.snd y4); let y4s3_ := Prod.snd (Prod.snd (Prod.snd y4)); let y4f3_ := Prod.fst (Prod.snd (Prod.snd (Prod.snd y4))); let y4s4_ := Prod.snd (Prod.snd (Prod.snd (Prod.snd y4))); let A5_ := (List.drop (n_ (0 : Int)) y4f1_); Holds (Prod.fst y4 = xs ∧ y4f1_ = cs ∧ (0 : Int) ≤ y4s4_ ∧ y4s4_ ≤ (4 : Int) ∧ Kin xs y4f3_ ∧ pushRest cs (n_ ((4 : Int) - y4s4_)) y4f3_ = pushAllF xs cs) → ifB (decide (Prod.snd y4s3_ < (4 : Int))) (Holds (Prod.fst y4 = y4f0_ ∧ y4f1_ = y4f1_ ∧ y4s4_ = y4s4_ ∧ (0 : Int) ≤ (0 : Int) ∧ (0 : Int) ≤ (↑(List.length y4f1_) : Int) ∧ Kin y4f0_ y4f3_ ∧ pushRound y4f3_ (Prod.snd y4s3_ == (0 : Int)) A5_ = pushRound y4f3_ (Prod.snd y4s3_ == (0 : Int)) A5_) ∧ ∀ (y1 : List Body × List Contact × Unit × List Body × Int × Int), let y1f0_ := Prod.fst y1; let y1s1_ := Prod.snd y1; let y1f1_ := Prod.fst (Prod.snd y1); let y1f3_ := Prod.fst (Prod.snd (Prod.snd (Prod.snd y1))); let y1s4_ := Prod.snd (Prod.snd (Prod.snd (Prod.snd y1))); let y1f4_ := Prod.fst (Prod.snd (Prod.snd (Prod.snd (Prod.snd y1)))); let y1s5_ := Prod.snd (Prod.snd (Prod.snd (Prod.snd (Prod.snd y1)))); let A3_ := y4s3_; let A2_ := (Ty.ix Ty.contact y1f1_ (n_ y1s5_)); Holds (Prod.fst y1 = y4f0_ ∧ y1f1_ = y4f1_ ∧ y1f4_ = Prod.snd A3_ ∧ (0 : Int) ≤ y1s5_ ∧ y1s5_ ≤ (↑(List.length y4f1_) : Int) ∧ Kin y4f0_ y1f3_ ∧ pushRound y1f3_ (Prod.snd A3_ == (0 : Int)) (List.drop (n_ y1s5_) y4f1_) = pushRound (Prod.fst A3_) (Prod.snd A3_ == (0 : Int)) A5_) → ifB (decide (Prod.snd y1s4_ < (↑(List.length y1f1_) : Int))) (((0 : Int) ≤ y1s5_ ∧ y1s5_ < (↑(List.length y1f1_) : Int)) ∧ ((∀ (k : Nat), k < List.length y1f3_ → POk (Ty.ix Ty.body y1f3_ k)) ∧ (0 : Int) ≤ Contact.A A2_ ∧ Contact.A A2_ < (↑(List.length y1f3_) : Int) ∧ (0 : Int) ≤ Contact.B A2_ ∧ Contact.B A2_ < (↑(List.length y1f3_) : Int) ∧ Contact.A A2_ ≠ Contact.B A2_) ∧ Holds (Prod.fst y1 = y4f0_ ∧ y1f1_ = y4f1_ ∧ y1f4_ = Prod.snd A3_ ∧ (0 : Int) ≤ w_ (Prod.snd y1s4_ + (1 : Int)) ∧ w_ (Prod.snd y1s4_ + (1 : Int)) ≤ (↑(List.length y4f1_) : Int) ∧ Kin y4f0_ (pushOne y1f3_ A2_ (Prod.fst y1s4_ == (0 : Int))) ∧ pushRound (pushOne y1f3_ A2_ (Prod.fst y1s4_ == (0 : Int))) (Prod.snd A3_ == (0 : Int)) (List.drop (n_ (w_ (Prod.snd y1s4_ + (1 : Int)))) y4f1_) = pushRound (Prod.fst A3_) (Prod.snd A3_ == (0 : Int)) A5_) ∧ n_ ((↑(List.length y1f1_) : Int) - w_ (Prod.snd y1s4_ + (1 : Int))) < n_ ((↑(List.length y1f1_) : Int) - y1s5_)) (Holds (Prod.fst y1 = xs ∧ y1f1_ = cs ∧ (0 : Int) ≤ w_ (Prod.fst y1s4_ + (1 : Int)) ∧ w_ (Prod.fst y1s4_ + (1 : Int)) ≤ (4 : Int) ∧ Kin xs y1f3_ ∧ pushRest cs (n_ ((4 : Int) - w_ (Prod.fst y1s4_ + (1 : Int)))) y1f3_ = pushAllF xs cs) ∧ n_ ((4 : Int) - w_ (Prod.fst y1s4_ + (1 : Int))) < n_ ((4 : Int) - Prod.snd A3_))) (Q (SV.vec (2 : Nat)) [(false, Blk.vec Ty.body y4f0_), (false, Blk.vec Ty.contact y4f1_), (true, Blk.vec Ty.body y4f3_)])) := by kernel_rfl

theorem ok_specAll : FsOk Tryz.prog 101 fs_specAll := fsOk_of tt_ok (tabFs_cons ok_specCopyB (tabFs_cons ok_specOne tabFs_nil)) mixed Tryz.func101 (by kernel_rfl) (by kernel_rfl) (by
    intro args LL p r HH h hp
    unfold fs_specAll at h
    dsimp only at h
    split at h
    case h_2 => cases h
    rename_i xs cs
    simp only [Option.some.injEq, Prod.mk.injEq] at h
    obtain ⟨rfl, rfl, rfl⟩ := h
    refine ⟨by simp [Form, stays], (L_specAll), ?_⟩
    rw [vc_specAll]
    try dsimp only
    obtain ⟨hA, hl, hc⟩ := hp _ rfl
    have hc0 := hc.1
    refine ⟨by omega, ⟨(by trivial), (by trivial), by omega, by omega, .refl _, pushRest_all _ _⟩, ?_⟩
    rintro ⟨xs', cs', u, ys, j⟩ ⟨h⟩
    dsimp only at h ⊢
    obtain ⟨rfl, rfl, j0, j1, hk, h2⟩ := h
    refine ifB_of (fun c1 => ?_) (fun c1 => ?_)
    · have c1 := of_decide_eq_true c1
      rw [pushRest_at j0 c1] at h2
      refine ⟨⟨(by trivial), (by trivial), (by trivial), by omega, by omega, hk, (by trivial)⟩, ?_⟩
      rintro ⟨xs'', cs'', u', zs, j', k⟩ ⟨h⟩
      dsimp only at h ⊢
      obtain ⟨rfl, rfl, rfl, k0, k1, hk2, h3⟩ := h
      refine ifB_of (fun c2 => ?_) (fun c2 => ?_)
      · have c2 := of_decide_eq_true c2
        have hik : k.toNat < cs''.length := by omega
        rw [pushRound_drop hik] at h3
        have e2 : (k + 1).toNat = k.toNat + 1 := by omega
        have w : IntKind.i64.wrap (k + 1) = k + 1 := wrap_small (by omega) (by omega)
        have hck := hc.2 _ hik
        rw [w, e2]
        refine ⟨⟨k0, c2⟩, ⟨allP_kin hk2 hA, hk2.1 ▸ hck⟩, ⟨(by trivial), (by trivial), (by trivial), by omega, by omega, ?_, h3⟩, by omega⟩
        exact hk2.trans (kin_pushOne (ct_ne hck))
      · have c2 := of_decide_eq_false c2
        have w : IntKind.i64.wrap (j' + 1) = j' + 1 := wrap_small (by omega) (by omega)
        rw [drop_end (by omega)] at h3
        have h3 : zs = pushRound ys (j' == 0) cs'' := h3
        rw [w]
        refine ⟨⟨(by trivial), (by trivial), by omega, by omega, hk2, by rw [h3]; exact h2⟩, by omega⟩
    · have c1 := of_decide_eq_false c1
      have e : (4 - j).toNat = 0 := by omega
      rw [e] at h2
      have h2 : ys = _ := h2
      rw [h2]
      exact ⟨rfl, rfl⟩)

def LSip1 (xs : List Body) : LS where
  S := List Body × List Contact × Unit × Unit × Int
  live := [(0, [none]), (1, [none]), (10, [none])]
  shape := fun s => ([.vec 0, .vec 1, .int .i64 s.2.2.2.2], [(true, .vec .body s.1), (false, .vec .contact s.2.1)])
  get := fun v h => match v, h with
    | [.vec 0, .vec 1, .int .i64 j], [(true, .vec .body ys), (false, .vec .contact cs)] => some (ys, cs, (), (), j)
    | _, _ => none
  inv := fun s0 s => Holds (s.2.1 = s0.2.1 ∧ 0 ≤ s.2.2.2.2 ∧ s.2.2.2.2 ≤ 4 ∧ Kin xs s.1 ∧ pushRest s0.2.1 (4 - s.2.2.2.2).toNat s.1 = pushAllF xs s0.2.1)
  mu := fun s => (4 - s.2.2.2.2).toNat
  ok := by
    intro v h s hg
    try dsimp only at hg
    split at hg <;> cases hg
    rfl

def LSip2 (xs : List Body) : LS where
  S := List Body × List Contact × Unit × Unit × Int × Int × Unit × Int × Int
  live := [(0, [none]), (1, [none]), (4, [none]), (10, [none]), (13, [none]), (14, [none]), (15, [none])]
  shape := fun s => ([.vec 0, .vec 1, .int .i64 s.2.2.2.2.1, .int .i64 s.2.2.2.2.2.1, .vec 1, .int .i64 s.2.2.2.2.2.2.2.1, .int .i64 s.2.2.2.2.2.2.2.2], [(true, .vec .body s.1), (false, .vec .contact s.2.1)])
  get := fun v h => match v, h with
    | [.vec 0, .vec 1, .int .i64 z, .int .i64 j, .vec 1, .int .i64 n, .int .i64 k], [(true, .vec .body ys), (false, .vec .contact cs)] => some (ys, cs, (), (), z, j, (), n, k)
    | _, _ => none
  inv := fun s0 s => Holds (s.2.1 = s0.2.1 ∧ s.2.2.2.2.1 = s0.2.2.2.2.2.1 ∧ s.2.2.2.2.2.1 = s0.2.2.2.2.2.1 ∧ s.2.2.2.2.2.2.2.1 = s0.2.1.length ∧ 0 ≤ s.2.2.2.2.2.2.2.2 ∧ s.2.2.2.2.2.2.2.2 ≤ s0.2.1.length ∧ Kin xs s.1 ∧ pushRound s.1 (s0.2.2.2.2.2.1 == 0) (s0.2.1.drop s.2.2.2.2.2.2.2.2.toNat) = pushRound s0.1 (s0.2.2.2.2.2.1 == 0) (s0.2.1.drop s0.2.2.2.2.2.2.2.2.toNat))
  mu := fun s => ((s.2.1.length : Int) - s.2.2.2.2.2.2.2.2).toNat
  ok := by
    intro v h s hg
    try dsimp only at hg
    split at hg <;> cases hg
    rfl

def L_implAll (xs : List Body) : Loops := fun n => match n with
  | 1 => some (LSip1 xs)
  | 4 => some (LSip2 xs)
  | _ => none
noncomputable def fs_implAll : Fs := ⟨[true, false], fun args H => match args, H with
  | [.vec 0, .vec 1], [(true, .vec .body xs), (false, .vec .contact cs)] => some ((some (AllP xs ∧ xs.length ≤ 12 ∧ CtsOk xs.length cs)), .tup [], [(true, .vec .body (pushAllF xs cs)), (false, .vec .contact cs)])
  | _, _ => none⟩

theorem vc_implAll (xs : List Body) (cs : List Contact) (Q : SV → List Ent → Prop) :
    fnVC tt (look [(89, fs_implPushOfIn), (91, fs_implOpposite), (90, fs_implBears), (92, fs_implPushB)]) (L_implAll xs) Tryz.f56 [.vec 0, .vec 1] [(true, .vec .body xs), (false, .vec .contact cs)] Q =
    (let w_ := IntKind.wrap IntKind.i64; let n_ := Int.toNat; let ib_ := Ty.ix Ty.body; Holds (cs = cs ∧ (0 : Int) ≤ (0 : Int) ∧ (0 : Int) ≤ (4 : Int) ∧ Kin xs xs ∧ pushRest cs (n_ ((4 : Int) - (0 : Int))) xs = pushAllF xs cs) ∧ ∀ (y15 : List Body × List Contact × Unit × Unit × Int), let y15f0_ := Prod.fst y15; let y15s1_ := Prod.snd y15; let y15f1_ := Prod.fst (Prod.snd y15); let y15s3_ := Prod.snd (Prod.snd (Prod.snd y15)); let y15s4_ := Prod.snd (Prod.snd (Prod.snd (Prod.snd y15))); Holds (Prod.fst y15s1_ = cs ∧ (0 : Int) ≤ y15s4_ ∧ y15s4_ ≤ (4 : Int) ∧ Kin xs y15f0_ ∧ pushRest cs (n_ ((4 : Int) - y15s4_)) y15f0_ = pushAllF xs cs) → ifB (decide (Prod.snd y15s3_ < (4 : Int))) (Holds (Prod.fst y15s1_ = y15f1_ ∧ y15s4_ = y15s4_ ∧ y15s4_ = y15s4_ ∧ (↑(List.length y15f1_) : Int) = (↑(List.length y15f1_) : Int) ∧ (0 : Int) ≤ (0 : Int) ∧ (0 : Int) ≤ (↑(List.length y15f1_) : Int) ∧ Kin xs y15f0_ ∧ pushRound y15f0_ (Prod.snd y15s3_ == (0 : Int)) (List.drop (n_ (0 : Int)) y15f1_) = pushRound y15f0_ (Prod.snd y15s3_ == (0 : Int)) (List.drop (n_ (0 : Int)) y15f1_)) ∧ ∀ (y1 : List Body × List Contact × Unit × Unit × Int × Int × Unit × Int × Int), let y1f0_ := Prod.fst y1; let y1s1_ := Prod.snd y1; let y1f1_ := Prod.fst (Prod.snd y1); let y1s4_ := Prod.snd (Prod.snd (Prod.snd (Prod.snd y1))); let y1f4_ := Prod.fst (Prod.snd (Prod.snd (Prod.snd (Prod.snd y1)))); let y1s5_ := Prod.snd (Prod.snd (Prod.snd (Prod.snd (Prod.snd y1)))); let y1f5_ := Prod.fst (Prod.snd (Prod.snd (Prod.snd (Prod.snd (Prod.snd y1))))); let y1s7_ := Prod.snd (Prod.snd (Prod.snd (Prod.snd (Prod.snd (Prod.snd (Prod.snd y1)))))); let y1f7_ := Prod.fst (Prod.snd (Prod.snd (Prod.snd (Prod.snd (Prod.snd (Prod.snd (Prod.snd y1))))))); let y1s8_ := Prod.snd (Prod.snd (Prod.snd (Prod.snd (Prod.snd (Prod.snd (Prod.snd (Prod.snd y1))))))); let A11_ := (↑(List.length y1f1_) : Int); let A9_ := (List.drop (n_ (0 : Int)) y15f1_); let A7_ := (Prod.snd y1s7_ + (1 : Int)); let A14_ := (A11_ - w_ A7_); let A8_ := (List.drop (n_ (w_ A7_)) y15f1_); let A6_ := (↑(List.length y15f1_) : Int); let A5_ := y15s3_; let A10_ := (Prod.snd A5_ == (0 : Int)); let A3_ := (Ty.ix Ty.contact y1f1_ (n_ y1s8_)); let A13_ := (ib_ y1f0_ (n_ (Contact.A A3_))); let A12_ := (n_ (Contact.B A3_)); let A2_ := (pushV A13_ (ib_ y1f0_ A12_) (Contact.Hit A3_) (Prod.fst y1s4_ == (0 : Int))); let A4_ := (List.set y1f0_ (n_ (Contact.A A3_)) (pushB A13_ (Vec.mk (W ((0 : Int) - Vec.X A2_)) (W ((0 : Int) - Vec.Y A2_))))); Holds (Prod.fst y1s1_ = y15f1_ ∧ y1f4_ = Prod.snd A5_ ∧ y1f5_ = Prod.snd A5_ ∧ y1f7_ = A6_ ∧ (0 : Int) ≤ y1s8_ ∧ y1s8_ ≤ A6_ ∧ Kin xs y1f0_ ∧ pushRound y1f0_ A10_ (List.drop (n_ y1s8_) y15f1_) = pushRound y15f0_ A10_ A9_) → ifB (decide (Prod.snd y1s7_ < y1f7_)) (((0 : Int) ≤ y1s8_ ∧ y1s8_ < A11_) ∧ ((0 : Int) ≤ Contact.A A3_ ∧ Contact.A A3_ < (↑(List.length y1f0_) : Int)) ∧ ((0 : Int) ≤ Contact.B A3_ ∧ Contact.B A3_ < (↑(List.length y1f0_) : Int)) ∧ (POk A13_ ∧ POk (ib_ y1f0_ A12_)) ∧ ifB (Vec.X A2_ == (0 : Int) && Vec.Y A2_ == (0 : Int)) (Holds (Prod.fst y1s1_ = y15f1_ ∧ y1f4_ = Prod.snd A5_ ∧ y1f5_ = Prod.snd A5_ ∧ y1f7_ = A6_ ∧ (0 : Int) ≤ w_ A7_ ∧ w_ A7_ ≤ A6_ ∧ Kin xs y1f0_ ∧ pushRound y1f0_ A10_ A8_ = pushRound y15f0_ A10_ A9_) ∧ n_ A14_ < n_ (A11_ - y1s8_)) (ifB (!bearsF A13_ (Vec.mk (W ((0 : Int) - Vec.X A2_)) (W ((0 : Int) - Vec.Y A2_)))) (Holds (Prod.fst y1s1_ = y15f1_ ∧ y1f4_ = Prod.snd A5_ ∧ y1f5_ = Prod.snd A5_ ∧ y1f7_ = A6_ ∧ (0 : Int) ≤ w_ A7_ ∧ w_ A7_ ≤ A6_ ∧ Kin xs y1f0_ ∧ pushRound y1f0_ A10_ A8_ = pushRound y15f0_ A10_ A9_) ∧ n_ A14_ < n_ (A11_ - y1s8_)) (ifB (!bearsF (ib_ y1f0_ A12_) A2_) (Holds (Prod.fst y1s1_ = y15f1_ ∧ y1f4_ = Prod.snd A5_ ∧ y1f5_ = Prod.snd A5_ ∧ y1f7_ = A6_ ∧ (0 : Int) ≤ w_ A7_ ∧ w_ A7_ ≤ A6_ ∧ Kin xs y1f0_ ∧ pushRound y1f0_ A10_ A8_ = pushRound y15f0_ A10_ A9_) ∧ n_ A14_ < n_ (A11_ - y1s8_)) (n_ (Contact.A A3_) < List.length y1f0_ ∧ n_ (Contact.B A3_) < List.length A4_ ∧ Holds (Prod.fst y1s1_ = y15f1_ ∧ y1f4_ = Prod.snd A5_ ∧ y1f5_ = Prod.snd A5_ ∧ y1f7_ = A6_ ∧ (0 : Int) ≤ w_ A7_ ∧ w_ A7_ ≤ A6_ ∧ Kin xs (List.set A4_ A12_ (pushB (ib_ A4_ A12_) A2_)) ∧ pushRound (List.set A4_ A12_ (pushB (ib_ A4_ A12_) A2_)) A10_ A8_ = pushRound y15f0_ A10_ A9_) ∧ n_ A14_ < n_ (A11_ - y1s8_))))) (Holds (Prod.fst y1s1_ = cs ∧ (0 : Int) ≤ w_ (Prod.fst y1s5_ + (1 : Int)) ∧ w_ (Prod.fst y1s5_ + (1 : Int)) ≤ (4 : Int) ∧ Kin xs y1f0_ ∧ pushRest cs (n_ ((4 : Int) - w_ (Prod.fst y1s5_ + (1 : Int)))) y1f0_ = pushAllF xs cs) ∧ n_ ((4 : Int) - w_ (Prod.fst y1s5_ + (1 : Int))) < n_ ((4 : Int) - Prod.snd A5_))) (Q (SV.tup []) [(true, Blk.vec Ty.body y15f0_), (false, Blk.vec Ty.contact y15f1_)])) := by kernel_rfl

theorem ok_implAll : FsOk Tryz.prog 56 fs_implAll := fsOk_of tt_ok (tabFs_cons ok_implPushOfIn (tabFs_cons ok_implOpposite (tabFs_cons ok_implBears (tabFs_cons ok_implPushB tabFs_nil)))) mixed Tryz.func56 (by kernel_rfl) (by kernel_rfl) (by
    intro args LL p r HH h hp
    unfold fs_implAll at h
    dsimp only at h
    split at h
    case h_2 => cases h
    rename_i xs cs
    simp only [Option.some.injEq, Prod.mk.injEq] at h
    obtain ⟨rfl, rfl, rfl⟩ := h
    refine ⟨by simp [Form, stays], (L_implAll xs), ?_⟩
    rw [vc_implAll]
    try dsimp only
    obtain ⟨hA, hl, hc⟩ := hp _ rfl
    have hc0 := hc.1
    refine ⟨⟨(by trivial), by omega, by omega, .refl _, pushRest_all _ _⟩, ?_⟩
    rintro ⟨ys, cs', u, v, j⟩ ⟨h⟩
    dsimp only at h ⊢
    obtain ⟨rfl, j0, j1, hk, h2⟩ := h
    refine ifB_of (fun c1 => ?_) (fun c1 => ?_)
    · have c1 := of_decide_eq_true c1
      rw [pushRest_at j0 c1] at h2
      refine ⟨⟨(by trivial), (by trivial), (by trivial), (by trivial), by omega, by omega, hk, (by trivial)⟩, ?_⟩
      rintro ⟨zs, cs'', u', v', z, j', w, n, k⟩ ⟨h⟩
      dsimp only at h ⊢
      obtain ⟨rfl, rfl, rfl, rfl, k0, k1, hk2, h3⟩ := h
      refine ifB_of (fun c2 => ?_) (fun c2 => ?_)
      · have c2 := of_decide_eq_true c2
        have hik : k.toNat < cs''.length := by omega
        rw [pushRound_drop hik] at h3
        have e2 : (k + 1).toNat = k.toNat + 1 := by omega
        have w : IntKind.i64.wrap (k + 1) = k + 1 := wrap_small (by omega) (by omega)
        have hck := hc.2 _ hik
        have hlen := hk2.1
        have hkin := hk2.trans (kin_pushOne (z := j' == 0) (ct_ne hck))
        have hne := ct_ne hck
        have hA2 := allP_kin hk2 hA
        rw [w, e2]
        generalize Ty.contact.ix cs'' k.toNat = c at *
        obtain ⟨a0, a1, b0, b1, _⟩ := hck
        have fin : ∀ {us : List Body}, pushOne zs c (j' == 0) = us → (Holds (cs'' = cs'' ∧ j' = j' ∧ j' = j' ∧ (cs''.length : Int) = cs''.length ∧ 0 ≤ k + 1 ∧ k + 1 ≤ (cs''.length : Int) ∧ Kin xs us ∧ pushRound us (j' == 0) (cs''.drop (k.toNat + 1)) = pushRound ys (j' == 0) (cs''.drop (Int.toNat 0))) ∧ ((cs''.length : Int) - (k + 1)).toNat < ((cs''.length : Int) - k).toNat) := by
          rintro us rfl
          exact ⟨⟨rfl, rfl, rfl, rfl, by omega, by omega, hkin, h3⟩, by omega⟩
        clear h3 hkin
        refine ⟨⟨k0, c2⟩, ⟨a0, by omega⟩, ⟨b0, by omega⟩, ⟨hA2 _ (by omega), hA2 _ (by omega)⟩, ?_⟩
        unfold pushOne at fin
        dsimp only at fin
        generalize pushV (Ty.body.ix zs c.A.toNat) (Ty.body.ix zs c.B.toNat) c.Hit (j' == 0) = p at *
        refine ifB_of (fun c3 => ?_) (fun c3 => ifB_of (fun c4 => ?_) (fun c4 => ifB_of (fun c5 => ?_) (fun c5 => ⟨by omega, by rw [List.length_set]; omega, ?_⟩)))
        · have c3 : zeroV2 p = true := c3
          exact fin (by rw [c3]; rfl)
        · have c4 : bearsF (Ty.body.ix zs c.A.toNat) (oppV p) = false := not_true c4
          exact fin (by rw [c4, Bool.and_false]; rfl)
        · have c5 : bearsF (Ty.body.ix zs c.B.toNat) p = false := not_true c5
          exact fin (by rw [c5, Bool.and_false]; rfl)
        · have c3 : zeroV2 p = false := c3
          have c4 : bearsF (Ty.body.ix zs c.A.toNat) (oppV p) = true := not_false c4
          have c5 : bearsF (Ty.body.ix zs c.B.toNat) p = true := not_false c5
          rw [ix_set_ne (T := .body) hne]
          exact fin (by rw [c3, c4, c5]; rfl)
      · have c2 := of_decide_eq_false c2
        have w : IntKind.i64.wrap (j' + 1) = j' + 1 := wrap_small (by omega) (by omega)
        rw [drop_end (by omega)] at h3
        have h3 : zs = pushRound ys (j' == 0) cs'' := h3
        rw [w]
        refine ⟨⟨(by trivial), by omega, by omega, hk2, by rw [h3]; exact h2⟩, by omega⟩
    · have c1 := of_decide_eq_false c1
      have e : (4 - j).toNat = 0 := by omega
      rw [e] at h2
      have h2 : ys = _ := h2
      rw [h2]
      exact ⟨rfl, rfl⟩)

end Go.Proofs.YtnahfbjdicjdpaaGreat.Sym

namespace Go.Proofs.YtnahfbjdicjdpaaGreat.Sym
open Go
set_option linter.unusedVariables false
set_option linter.unusedSimpArgs false
set_option maxRecDepth 100000
noncomputable section

/-- Sleepy, all of a group? -/
def stillG (xs : List Body) (gs : List Int) (g : Int) (n : Nat) : Bool := allTo (fun i => !(gi gs i == g) || (Ty.ix .body xs i).Quiet == 7) n
def bedB (b : Body) : Body := { b with Quiet := 8, Drive := ⟨0, 0⟩ }
def bedAt (xs : List Body) (gs : List Int) (g : Int) (all : Bool) (i : Nat) : Body := bif all && gi gs i == g then bedB (Ty.ix .body xs i) else Ty.ix .body xs i
def settleOne (xs : List Body) (gs : List Int) (g : Int) (aw : Bool) : List Body := gen (bedAt xs gs g (aw && stillG xs gs g xs.length)) xs.length
/-- The groups from the g-th on. -/
def settleF (gs : List Int) : Nat → List Bool → List Body → List Body
  | _, [], xs => xs
  | g, a :: r, xs => settleF gs (g + 1) r (settleOne xs gs g a)
@[simp] theorem length_settleOne (xs : List Body) (gs : List Int) (g : Int) (aw : Bool) : (settleOne xs gs g aw).length = xs.length := by simp [settleOne]
theorem length_settleF (gs : List Int) : ∀ (ws : List Bool) (g : Nat) (xs : List Body), (settleF gs g ws xs).length = xs.length
  | [], _, _ => rfl
  | a :: r, g, xs => (length_settleF gs r (g + 1) (settleOne xs gs g a)).trans (length_settleOne xs gs g a)
theorem ix_fill3 {T : Ty} (f : Nat → T.El) (xs : List T.El) {i : Nat} (h : i < xs.length) : T.ix (fill f xs i) i = T.ix xs i := by
  apply ix_eq
  unfold fill
  rw [List.getElem?_append_right (by simp)]
  simp [ix_get (T := T) h]
def LSse1 (zs : List Body) : LS where
  S := List Body × List Int × List Bool × Unit × Unit × Unit × Int × Int
  live := [(0, [none]), (1, [none]), (12, [none]), (13, [none]), (14, [none])]
  shape := fun s => ([.vec 0, .vec 1, .vec 2, .int .i64 s.2.2.2.2.2.2.1, .int .i64 s.2.2.2.2.2.2.2], [(true, .vec .body s.1), (false, .vec .int s.2.1), (false, .vec .bool s.2.2.1)])
  get := fun v h => match v, h with
    | [.vec 0, .vec 1, .vec 2, .int .i64 n, .int .i64 g], [(true, .vec .body ys), (false, .vec .int gs), (false, .vec .bool ws)] => some (ys, gs, ws, (), (), (), n, g)
    | _, _ => none
  inv := fun s0 s => Holds (s.2.1 = s0.2.1 ∧ s.2.2.1 = s0.2.2.1 ∧ s.2.2.2.2.2.2.1 = s0.2.2.1.length ∧ 0 ≤ s.2.2.2.2.2.2.2 ∧ s.2.2.2.2.2.2.2 ≤ s0.2.2.1.length ∧ s.1.length = zs.length ∧ settleF s0.2.1 s.2.2.2.2.2.2.2.toNat (s0.2.2.1.drop s.2.2.2.2.2.2.2.toNat) s.1 = settleF s0.2.1 0 s0.2.2.1 zs)
  mu := fun s => (s.2.2.2.2.2.2.1 - s.2.2.2.2.2.2.2).toNat
  ok := by
    intro v h s hg
    try dsimp only at hg
    split at hg <;> cases hg
    rfl

def LSse2 (zs : List Body) : LS where
  S := List Body × List Int × List Bool × Unit × Unit × Int × Bool × Unit × Int × Int × Unit × Int × Int
  live := [(0, [none]), (1, [none]), (6, [none]), (8, [none]), (12, [none]), (13, [none]), (14, [none]), (20, [none]), (21, [none]), (22, [none])]
  shape := fun s => ([.vec 0, .vec 1, .int .i64 s.2.2.2.2.2.1, .bool s.2.2.2.2.2.2.1, .vec 2, .int .i64 s.2.2.2.2.2.2.2.2.1, .int .i64 s.2.2.2.2.2.2.2.2.2.1, .vec 0, .int .i64 s.2.2.2.2.2.2.2.2.2.2.2.1, .int .i64 s.2.2.2.2.2.2.2.2.2.2.2.2], [(true, .vec .body s.1), (false, .vec .int s.2.1), (false, .vec .bool s.2.2.1)])
  get := fun v h => match v, h with
    | [.vec 0, .vec 1, .int .i64 h, .bool all, .vec 2, .int .i64 n, .int .i64 g, .vec 0, .int .i64 m, .int .i64 i], [(true, .vec .body ys), (false, .vec .int gs), (false, .vec .bool ws)] => some (ys, gs, ws, (), (), h, all, (), n, g, (), m, i)
    | _, _ => none
  inv := fun s0 s => Holds (s.1 = s0.1 ∧ s.2.1 = s0.2.1 ∧ s.2.2.1 = s0.2.2.1 ∧ s.2.2.2.2.2.2.2.2.1 = s0.2.2.2.2.2.2.2.2.1 ∧ s.2.2.2.2.2.2.2.2.2.1 = s0.2.2.2.2.2.2.2.2.2.1 ∧ s.2.2.2.2.2.1 = s0.2.2.2.2.2.1 ∧ s.2.2.2.2.2.2.2.2.2.2.2.1 = s0.1.length ∧ 0 ≤ s.2.2.2.2.2.2.2.2.2.2.2.2 ∧ s.2.2.2.2.2.2.2.2.2.2.2.2 ≤ s0.1.length ∧ s.2.2.2.2.2.2.1 = (s0.2.2.2.2.2.2.1 && stillG s0.1 s0.2.1 s0.2.2.2.2.2.1 s.2.2.2.2.2.2.2.2.2.2.2.2.toNat))
  mu := fun s => (s.2.2.2.2.2.2.2.2.2.2.2.1 - s.2.2.2.2.2.2.2.2.2.2.2.2).toNat
  ok := by
    intro v h s hg
    try dsimp only at hg
    split at hg <;> cases hg
    rfl

def LSse3 (zs : List Body) : LS where
  S := List Body × List Int × List Bool × Unit × Unit × Int × Bool × Unit × Int × Int × Int × Int
  live := [(0, [none]), (1, [none]), (6, [none]), (8, [none]), (12, [none]), (13, [none]), (14, [none]), (43, [none]), (44, [none])]
  shape := fun s => ([.vec 0, .vec 1, .int .i64 s.2.2.2.2.2.1, .bool s.2.2.2.2.2.2.1, .vec 2, .int .i64 s.2.2.2.2.2.2.2.2.1, .int .i64 s.2.2.2.2.2.2.2.2.2.1, .int .i64 s.2.2.2.2.2.2.2.2.2.2.1, .int .i64 s.2.2.2.2.2.2.2.2.2.2.2], [(true, .vec .body s.1), (false, .vec .int s.2.1), (false, .vec .bool s.2.2.1)])
  get := fun v h => match v, h with
    | [.vec 0, .vec 1, .int .i64 h, .bool all, .vec 2, .int .i64 n, .int .i64 g, .int .i64 m, .int .i64 i], [(true, .vec .body ys), (false, .vec .int gs), (false, .vec .bool ws)] => some (ys, gs, ws, (), (), h, all, (), n, g, m, i)
    | _, _ => none
  inv := fun s0 s => Holds (s.2.1 = s0.2.1 ∧ s.2.2.1 = s0.2.2.1 ∧ s.2.2.2.2.2.2.2.2.1 = s0.2.2.2.2.2.2.2.2.1 ∧ s.2.2.2.2.2.2.2.2.2.1 = s0.2.2.2.2.2.2.2.2.2.1 ∧ s.2.2.2.2.2.1 = s0.2.2.2.2.2.1 ∧ s.2.2.2.2.2.2.1 = s0.2.2.2.2.2.2.1 ∧ s.2.2.2.2.2.2.2.2.2.2.1 = s0.1.length ∧ 0 ≤ s.2.2.2.2.2.2.2.2.2.2.2 ∧ s.2.2.2.2.2.2.2.2.2.2.2 ≤ s0.1.length ∧ s.1 = fill (bedAt s0.1 s0.2.1 s0.2.2.2.2.2.1 s0.2.2.2.2.2.2.1) s0.1 s.2.2.2.2.2.2.2.2.2.2.2.toNat)
  mu := fun s => (s.2.2.2.2.2.2.2.2.2.2.1 - s.2.2.2.2.2.2.2.2.2.2.2).toNat
  ok := by
    intro v h s hg
    try dsimp only at hg
    split at hg <;> cases hg
    rfl

def L_settle (zs : List Body) : Loops := fun n => match n with
  | 1 => some (LSse1 zs)
  | 5 => some (LSse2 zs)
  | 10 => some (LSse3 zs)
  | _ => none
noncomputable def fs_implSettle : Fs := ⟨[true, false, false], fun args H => match args, H with
  | [.vec 0, .vec 1, .vec 2], [(true, .vec .body xs), (false, .vec .int gs), (false, .vec .bool ws)] => some ((some (xs.length ≤ 12 ∧ gs.length = xs.length ∧ ws.length ≤ 12)), .tup [], [(true, .vec .body (settleF gs 0 ws xs)), (false, .vec .int gs), (false, .vec .bool ws)])
  | _, _ => none⟩

theorem vc_implSettle (xs : List Body) (gs : List Int) (ws : List Bool) (Q : SV → List Ent → Prop) :
    fnVC tt (look []) (L_settle xs) Tryz.f61 [.vec 0, .vec 1, .vec 2] [(true, .vec .body xs), (false, .vec .int gs), (false, .vec .bool ws)] Q =
    (let w_ := IntKind.wrap IntKind.i64; let s_ := SV.int IntKind.i64; let n_ := Int.toNat; Holds (gs = gs ∧ ws = ws ∧ (↑(List.length ws) : Int) = (↑(List.length ws) : Int) ∧ (0 : Int) ≤ (0 : Int) ∧ (0 : Int) ≤ (↑(List.length ws) : Int) ∧ List.length xs = List.length xs ∧ settleF gs (n_ (0 : Int)) (List.drop (n_ (0 : Int)) ws) xs = settleF gs (0 : Nat) ws xs) ∧ ∀ (y14 : List Body × List Int × List Bool × Unit × Unit × Unit × Int × Int), let y14f0_ := Prod.fst y14; let y14f1_ := Prod.fst (Prod.snd y14); let y14f2_ := Prod.fst (Prod.snd (Prod.snd y14)); let y14s6_ := Prod.snd (Prod.snd (Prod.snd (Prod.snd (Prod.snd (Prod.snd y14))))); let y14f6_ := Prod.fst (Prod.snd (Prod.snd (Prod.snd (Prod.snd (Prod.snd (Prod.snd y14)))))); let y14s7_ := Prod.snd (Prod.snd (Prod.snd (Prod.snd (Prod.snd (Prod.snd (Prod.snd y14)))))); Holds (Prod.fst (Prod.snd y14) = gs ∧ y14f2_ = ws ∧ y14f6_ = (↑(List.length ws) : Int) ∧ (0 : Int) ≤ y14s7_ ∧ y14s7_ ≤ (↑(List.length ws) : Int) ∧ List.length y14f0_ = List.length xs ∧ settleF gs (n_ y14s7_) (List.drop (n_ y14s7_) ws) y14f0_ = settleF gs (0 : Nat) ws xs) → ifB (decide (Prod.snd y14s6_ < y14f6_)) (((0 : Int) ≤ y14s7_ ∧ y14s7_ < (↑(List.length y14f2_) : Int)) ∧ Holds (Prod.fst y14 = y14f0_ ∧ y14f1_ = y14f1_ ∧ y14f2_ = y14f2_ ∧ y14f6_ = y14f6_ ∧ y14s7_ = y14s7_ ∧ y14s7_ = y14s7_ ∧ (↑(List.length y14f0_) : Int) = (↑(List.length y14f0_) : Int) ∧ (0 : Int) ≤ (0 : Int) ∧ (0 : Int) ≤ (↑(List.length y14f0_) : Int) ∧ Ty.ix Ty.bool y14f2_ (n_ y14s7_) = (Ty.ix Ty.bool y14f2_ (n_ y14s7_) && stillG y14f0_ y14f1_ y14s7_ (n_ (0 : Int)))) ∧ ∀ (y8 : List Body × List Int × List Bool × Unit × Unit × Int × Bool × Unit × Int × Int × Unit × Int × Int), let y8f0_ := Prod.fst y8; let y8s1_ := Prod.snd y8; let y8f1_ := Prod.fst (Prod.snd y8); let y8f2_ := Prod.fst (Prod.snd (Prod.snd y8)); let y8f5_ := Prod.fst (Prod.snd (Prod.snd (Prod.snd (Prod.snd (Prod.snd y8))))); let y8f6_ := Prod.fst (Prod.snd (Prod.snd (Prod.snd (Prod.snd (Prod.snd (Prod.snd y8)))))); let y8f8_ := Prod.fst (Prod.snd (Prod.snd (Prod.snd (Prod.snd (Prod.snd (Prod.snd (Prod.snd (Prod.snd y8)))))))); let y8f9_ := Prod.fst (Prod.snd (Prod.snd (Prod.snd (Prod.snd (Prod.snd (Prod.snd (Prod.snd (Prod.snd (Prod.snd y8))))))))); let y8s11_ := Prod.snd (Prod.snd (Prod.snd (Prod.snd (Prod.snd (Prod.snd (Prod.snd (Prod.snd (Prod.snd (Prod.snd (Prod.snd y8)))))))))); let y8f11_ := Prod.fst (Prod.snd (Prod.snd (Prod.snd (Prod.snd (Prod.snd (Prod.snd (Prod.snd (Prod.snd (Prod.snd (Prod.snd (Prod.snd y8))))))))))); let y8s12_ := Prod.snd (Prod.snd (Prod.snd (Prod.snd (Prod.snd (Prod.snd (Prod.snd (Prod.snd (Prod.snd (Prod.snd (Prod.snd (Prod.snd y8))))))))))); let A13_ := (↑(List.length y8f0_) : Int); let A12_ := (↑(List.length y14f0_) : Int); let A11_ := (Prod.snd y8s11_ + (1 : Int)); let A9_ := y14s6_; let A10_ := (Ty.ix Ty.bool y14f2_ (n_ (Prod.snd A9_)) && stillG y14f0_ y14f1_ (Prod.snd A9_) (n_ (w_ A11_))); Holds (Prod.fst y8 = y14f0_ ∧ y8f1_ = y14f1_ ∧ y8f2_ = y14f2_ ∧ y8f8_ = Prod.fst A9_ ∧ y8f9_ = Prod.snd A9_ ∧ y8f5_ = Prod.snd A9_ ∧ y8f11_ = A12_ ∧ (0 : Int) ≤ y8s12_ ∧ y8s12_ ≤ A12_ ∧ y8f6_ = (Ty.ix Ty.bool y14f2_ (n_ (Prod.snd A9_)) && stillG y14f0_ y14f1_ (Prod.snd A9_) (n_ y8s12_))) → ifB (decide (Prod.snd y8s11_ < y8f11_)) (((0 : Int) ≤ y8s12_ ∧ y8s12_ < A13_) ∧ ifB y8f6_ (((0 : Int) ≤ y8s12_ ∧ y8s12_ < (↑(List.length y8f1_) : Int)) ∧ ifB (Ty.ix Ty.int y8f1_ (n_ y8s12_) != y8f5_) (Holds (Prod.fst y8 = y14f0_ ∧ y8f1_ = y14f1_ ∧ y8f2_ = y14f2_ ∧ y8f8_ = Prod.fst A9_ ∧ y8f9_ = Prod.snd A9_ ∧ y8f5_ = Prod.snd A9_ ∧ y8f11_ = A12_ ∧ (0 : Int) ≤ w_ A11_ ∧ w_ A11_ ≤ A12_ ∧ true = A10_) ∧ n_ (Prod.fst y8s11_ - w_ A11_) < n_ (Prod.fst y8s11_ - y8s12_)) (Holds (Prod.fst y8 = y14f0_ ∧ y8f1_ = y14f1_ ∧ y8f2_ = y14f2_ ∧ y8f8_ = Prod.fst A9_ ∧ y8f9_ = Prod.snd A9_ ∧ y8f5_ = Prod.snd A9_ ∧ y8f11_ = A12_ ∧ (0 : Int) ≤ w_ A11_ ∧ w_ A11_ ≤ A12_ ∧ (Body.Quiet (Ty.ix Ty.body y8f0_ (n_ y8s12_)) == (7 : Int)) = A10_) ∧ n_ (Prod.fst y8s11_ - w_ A11_) < n_ (Prod.fst y8s11_ - y8s12_))) (Holds (Prod.fst y8 = y14f0_ ∧ y8f1_ = y14f1_ ∧ y8f2_ = y14f2_ ∧ y8f8_ = Prod.fst A9_ ∧ y8f9_ = Prod.snd A9_ ∧ y8f5_ = Prod.snd A9_ ∧ y8f11_ = A12_ ∧ (0 : Int) ≤ w_ A11_ ∧ w_ A11_ ≤ A12_ ∧ false = A10_) ∧ n_ (Prod.fst y8s11_ - w_ A11_) < n_ (Prod.fst y8s11_ - y8s12_))) (Holds (Prod.fst y8s1_ = y8f1_ ∧ y8f2_ = y8f2_ ∧ y8f8_ = y8f8_ ∧ y8f9_ = y8f9_ ∧ y8f5_ = y8f5_ ∧ y8f6_ = y8f6_ ∧ A13_ = A13_ ∧ (0 : Int) ≤ (0 : Int) ∧ (0 : Int) ≤ A13_ ∧ y8f0_ = fill (bedAt y8f0_ y8f1_ y8f5_ y8f6_) y8f0_ (n_ (0 : Int))) ∧ ∀ (y1 : List Body × List Int × List Bool × Unit × Unit × Int × Bool × Unit × Int × Int × Int × Int), let y1f0_ := Prod.fst y1; let y1s1_ := Prod.snd y1; let y1f1_ := Prod.fst (Prod.snd y1); let y1f2_ := Prod.fst (Prod.snd (Prod.snd y1)); let y1f5_ := Prod.fst (Prod.snd (Prod.snd (Prod.snd (Prod.snd (Prod.snd y1))))); let y1f6_ := Prod.fst (Prod.snd (Prod.snd (Prod.snd (Prod.snd (Prod.snd (Prod.snd y1)))))); let y1f8_ := Prod.fst (Prod.snd (Prod.snd (Prod.snd (Prod.snd (Prod.snd (Prod.snd (Prod.snd (Prod.snd y1)))))))); let y1s9_ := Prod.snd (Prod.snd (Prod.snd (Prod.snd (Prod.snd (Prod.snd (Prod.snd (Prod.snd (Prod.snd y1)))))))); let y1f9_ := Prod.fst (Prod.snd (Prod.snd (Prod.snd (Prod.snd (Prod.snd (Prod.snd (Prod.snd (Prod.snd (Prod.snd y1))))))))); let y1s10_ := Prod.snd (Prod.snd (Prod.snd (Prod.snd (Prod.snd (Prod.snd (Prod.snd (Prod.snd (Prod.snd (Prod.snd y1))))))))); let y1f10_ := Prod.fst (Prod.snd (Prod.snd (Prod.snd (Prod.snd (Prod.snd (Prod.snd (Prod.snd (Prod.snd (Prod.snd (Prod.snd y1)))))))))); let y1s11_ := Prod.snd (Prod.snd (Prod.snd (Prod.snd (Prod.snd (Prod.snd (Prod.snd (Prod.snd (Prod.snd (Prod.snd (Prod.snd y1)))))))))); let A7_ := (Prod.fst y1s9_ + (1 : Int)); let A5_ := A13_; let A3_ := (Prod.snd y1s10_ + (1 : Int)); let A2_ := (Prod.snd (Prod.snd (Prod.snd (Prod.snd y8s1_)))); let A6_ := (Prod.snd (Prod.snd (Prod.snd A2_))); let A4_ := (bedAt y8f0_ y8f1_ (Prod.fst A2_) (Prod.fst (Prod.snd A2_))); Holds (Prod.fst y1s1_ = y8f1_ ∧ y1f2_ = y8f2_ ∧ y1f8_ = Prod.fst A6_ ∧ y1f9_ = Prod.fst (Prod.snd A6_) ∧ y1f5_ = Prod.fst A2_ ∧ y1f6_ = Prod.fst (Prod.snd A2_) ∧ y1f10_ = A5_ ∧ (0 : Int) ≤ y1s11_ ∧ y1s11_ ≤ A5_ ∧ y1f0_ = fill A4_ y8f0_ (n_ y1s11_)) → ifB (decide (Prod.snd y1s10_ < y1f10_)) (ifB y1f6_ (((0 : Int) ≤ y1s11_ ∧ y1s11_ < (↑(List.length y1f1_) : Int)) ∧ ifB (Ty.ix Ty.int y1f1_ (n_ y1s11_) == y1f5_) (((0 : Int) ≤ y1s11_ ∧ y1s11_ < (↑(List.length y1f0_) : Int)) ∧ ((0 : Int) ≤ y1s11_ ∧ y1s11_ < (↑(List.length (setC Ty.body y1f0_ (n_ y1s11_) ((0 : Nat) + (11 : Nat)) [s_ (8 : Int)])) : Int)) ∧ Holds (Prod.fst y1s1_ = y8f1_ ∧ y1f2_ = y8f2_ ∧ y1f8_ = Prod.fst A6_ ∧ y1f9_ = Prod.fst (Prod.snd A6_) ∧ y1f5_ = Prod.fst A2_ ∧ y1f6_ = Prod.fst (Prod.snd A2_) ∧ y1f10_ = A5_ ∧ (0 : Int) ≤ w_ A3_ ∧ w_ A3_ ≤ A5_ ∧ setC Ty.body (setC Ty.body y1f0_ (n_ y1s11_) ((0 : Nat) + (11 : Nat)) [s_ (8 : Int)]) (n_ y1s11_) ((0 : Nat) + (6 : Nat)) [s_ (0 : Int), s_ (0 : Int)] = fill A4_ y8f0_ (n_ (w_ A3_))) ∧ n_ (Prod.fst y1s10_ - w_ A3_) < n_ (Prod.fst y1s10_ - y1s11_)) (Holds (Prod.fst y1s1_ = y8f1_ ∧ y1f2_ = y8f2_ ∧ y1f8_ = Prod.fst A6_ ∧ y1f9_ = Prod.fst (Prod.snd A6_) ∧ y1f5_ = Prod.fst A2_ ∧ y1f6_ = Prod.fst (Prod.snd A2_) ∧ y1f10_ = A5_ ∧ (0 : Int) ≤ w_ A3_ ∧ w_ A3_ ≤ A5_ ∧ y1f0_ = fill A4_ y8f0_ (n_ (w_ A3_))) ∧ n_ (Prod.fst y1s10_ - w_ A3_) < n_ (Prod.fst y1s10_ - y1s11_))) (Holds (Prod.fst y1s1_ = y8f1_ ∧ y1f2_ = y8f2_ ∧ y1f8_ = Prod.fst A6_ ∧ y1f9_ = Prod.fst (Prod.snd A6_) ∧ y1f5_ = Prod.fst A2_ ∧ y1f6_ = Prod.fst (Prod.snd A2_) ∧ y1f10_ = A5_ ∧ (0 : Int) ≤ w_ A3_ ∧ w_ A3_ ≤ A5_ ∧ y1f0_ = fill A4_ y8f0_ (n_ (w_ A3_))) ∧ n_ (Prod.fst y1s10_ - w_ A3_) < n_ (Prod.fst y1s10_ - y1s11_))) (Holds (Prod.fst y1s1_ = gs ∧ y1f2_ = ws ∧ y1f8_ = (↑(List.length ws) : Int) ∧ (0 : Int) ≤ w_ A7_ ∧ w_ A7_ ≤ (↑(List.length ws) : Int) ∧ List.length y1f0_ = List.length xs ∧ settleF gs (n_ (w_ A7_)) (List.drop (n_ (w_ A7_)) ws) y1f0_ = settleF gs (0 : Nat) ws xs) ∧ n_ (Prod.fst (Prod.snd (Prod.snd (Prod.snd (Prod.snd (Prod.snd (Prod.snd (Prod.snd y1s1_))))))) - w_ A7_) < n_ (Prod.fst A9_ - Prod.snd A9_)))) (Q (SV.tup []) [(true, Blk.vec Ty.body y14f0_), (false, Blk.vec Ty.int y14f1_), (false, Blk.vec Ty.bool y14f2_)])) := by kernel_rfl

theorem ok_implSettle : FsOk Tryz.prog 61 fs_implSettle := fsOk_of tt_ok tabFs_nil mixed Tryz.func61 (by kernel_rfl) (by kernel_rfl) (by
    intro args LL p r HH h hp
    unfold fs_implSettle at h
    dsimp only at h
    split at h
    case h_2 => cases h
    rename_i xs gs ws
    simp only [Option.some.injEq, Prod.mk.injEq] at h
    obtain ⟨rfl, rfl, rfl⟩ := h
    refine ⟨by simp [Form, stays, length_settleF], (L_settle xs), ?_⟩
    rw [vc_implSettle]
    try dsimp only
    obtain ⟨hl, hgl, hal⟩ := hp _ rfl
    refine ⟨⟨(by trivial), (by trivial), (by trivial), by omega, by omega, (by trivial), (by trivial)⟩, ?_⟩
    rintro ⟨ys, gs', ws', u, v, w, n, g⟩ ⟨h⟩
    dsimp only at h ⊢
    obtain ⟨rfl, rfl, rfl, g0, g1, g2, g3⟩ := h
    refine ifB_of (fun c => ?_) (fun c => ?_)
    · have c := of_decide_eq_true c
      have hg : g.toNat < ws'.length := by omega
      have e1 : (g + 1).toNat = g.toNat + 1 := by omega
      have w1 : IntKind.i64.wrap (g + 1) = g + 1 := wrap_small (by omega) (by omega)
      rw [drop_ix (T := .bool) hg] at g3
      have eg : ((g.toNat : Nat) : Int) = g := by omega
      refine ⟨⟨g0, c⟩, ⟨(by trivial), (by trivial), (by trivial), (by trivial), (by trivial), (by trivial), (by trivial), by omega, by omega, ?_⟩, ?_⟩
      · show Ty.ix .bool ws' g.toNat = (Ty.ix .bool ws' g.toNat && true)
        rw [Bool.and_true]
      rintro ⟨ys2, gs2, ws2, u2, v2, h2, all, w2, n2, gg, u3, m, i⟩ ⟨h⟩
      dsimp only at h ⊢
      obtain ⟨rfl, rfl, rfl, rfl, rfl, rfl, rfl, i0, i1, rfl⟩ := h
      refine ifB_of (fun d => ?_) (fun d => ?_)
      · have d := of_decide_eq_true d
        have e2 : (i + 1).toNat = i.toNat + 1 := by omega
        have w2 : IntKind.i64.wrap (i + 1) = i + 1 := wrap_small (by omega) (by omega)
        rw [w2, e2]
        have hst : (Ty.ix .bool ws2 h2.toNat && stillG ys2 gs2 h2 (i.toNat + 1)) = ((Ty.ix .bool ws2 h2.toNat && stillG ys2 gs2 h2 i.toNat) && (!(gi gs2 i.toNat == h2) || (Ty.ix .body ys2 i.toNat).Quiet == 7)) := by
          rw [Bool.and_assoc]
          rfl
        rw [hst]
        refine ⟨⟨i0, d⟩, ifB_of (fun q => ⟨⟨i0, by omega⟩, ifB_of (fun q2 => ⟨⟨(by trivial), (by trivial), (by trivial), (by trivial), (by trivial), (by trivial), (by trivial), by omega, by omega, ?_⟩, by omega⟩) (fun q2 => ⟨⟨(by trivial), (by trivial), (by trivial), (by trivial), (by trivial), (by trivial), (by trivial), by omega, by omega, ?_⟩, by omega⟩)⟩) (fun q => ⟨⟨(by trivial), (by trivial), (by trivial), (by trivial), (by trivial), (by trivial), (by trivial), by omega, by omega, ?_⟩, by omega⟩)⟩
        · have q2 : (!(gi gs2 i.toNat == h2)) = true := q2
          rw [q, q2]
          rfl
        · have q2 : (!(gi gs2 i.toNat == h2)) = false := q2
          rw [q, q2]
          rfl
        · rw [q]
          rfl
      · have d := of_decide_eq_false d
        have ei : i.toNat = ys2.length := by omega
        rw [ei]
        refine ⟨⟨(by trivial), (by trivial), (by trivial), (by trivial), (by trivial), (by trivial), (by trivial), by omega, by omega, (fill_zero _ _).symm⟩, ?_⟩
        clear d i0 i1 ei
        rintro ⟨zs, gs3, ws3, u4, v4, h3, all, w3, n3, g4, m, k⟩ ⟨h⟩
        dsimp only at h ⊢
        obtain ⟨rfl, rfl, rfl, rfl, rfl, rfl, rfl, k0, k1, h5⟩ := h
        refine ifB_of (fun d => ?_) (fun d => ?_)
        · have d := of_decide_eq_true d
          generalize (Ty.bool.ix ws3 h3.toNat && stillG ys2 gs3 h3 ys2.length) = A at h5 ⊢
          have hf : zs.length = ys2.length := by rw [h5]; exact length_fill _ _ (by omega)
          have e2 : (k + 1).toNat = k.toNat + 1 := by omega
          have w2 : IntKind.i64.wrap (k + 1) = k + 1 := wrap_small (by omega) (by omega)
          have hy : Ty.ix .body zs k.toNat = Ty.ix .body ys2 k.toNat := by rw [h5]; exact ix_fill3 (T := .body) _ _ (by omega)
          have hstep := fill_step (bedAt ys2 gs3 h3 A) ys2 (i := k.toNat) (by omega)
          rw [← h5] at hstep
          have stay : bedAt ys2 gs3 h3 A k.toNat = Ty.ix .body ys2 k.toNat → zs = fill (bedAt ys2 gs3 h3 A) ys2 (k.toNat + 1) := by
            intro q
            rw [← hstep, q, ← hy]
            exact (set_ix (T := .body) zs (by omega)).symm
          rw [w2, e2]
          refine ifB_of (fun q => ⟨⟨k0, by omega⟩, ifB_of (fun q2 => ⟨⟨k0, by omega⟩, ⟨k0, by rw [length_setC_body]; omega⟩, ⟨(by trivial), (by trivial), (by trivial), (by trivial), (by trivial), (by trivial), (by trivial), by omega, by omega, ?_⟩, by omega⟩) (fun q2 => ⟨⟨(by trivial), (by trivial), (by trivial), (by trivial), (by trivial), (by trivial), (by trivial), by omega, by omega, stay ?_⟩, by omega⟩)⟩) (fun q => ⟨⟨(by trivial), (by trivial), (by trivial), (by trivial), (by trivial), (by trivial), (by trivial), by omega, by omega, stay ?_⟩, by omega⟩)
          · have q2 : (gi gs3 k.toNat == h3) = true := q2
            rw [setC_quiet, setC_drive, ix_set_self_body _ _ (by omega), List.set_set, ← hstep, hy]
            unfold bedAt
            rw [q, q2]
            rfl
          · have q2 : (gi gs3 k.toNat == h3) = false := q2
            unfold bedAt
            rw [q2, Bool.and_false]
            rfl
          · unfold bedAt
            rw [q, Bool.false_and]
            rfl
        · have d := of_decide_eq_false d
          rw [fill_end _ _ (by omega)] at h5
          have h5 : zs = settleOne ys2 gs3 h3.toNat (Ty.bool.ix ws3 h3.toNat) := by
            unfold settleOne
            rw [eg]
            exact h5
          rw [w1, e1]
          refine ⟨⟨(by trivial), (by trivial), (by trivial), by omega, by omega, by rw [h5, length_settleOne]; exact g2, ?_⟩, by omega⟩
          rw [h5]
          exact g3
    · have c := of_decide_eq_false c
      rw [drop_end (by omega)] at g3
      have g3 : ys = _ := g3
      rw [g3]
      exact ⟨rfl, rfl⟩)

end
end Go.Proofs.YtnahfbjdicjdpaaGreat.Sym

namespace Go.Proofs.YtnahfbjdicjdpaaGreat.Sym
open Go
set_option linter.unusedVariables false
set_option linter.unusedSimpArgs false
set_option maxRecDepth 100000

end Go.Proofs.YtnahfbjdicjdpaaGreat.Sym

