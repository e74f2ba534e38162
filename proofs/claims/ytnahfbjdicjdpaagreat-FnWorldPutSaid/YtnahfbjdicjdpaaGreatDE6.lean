/-
  What the rows of this claim stand on, part 6: the machine, the walks, the plain laws, as far as they are used.
  No condition.
-/
import Derived.Test.YtnahfbjdicjdpaaGreatDE5
namespace Go.Proofs.YtnahfbjdicjdpaaGreat.Sym
open Go
set_option linter.unusedVariables false
set_option linter.unusedSimpArgs false
set_option maxRecDepth 100000

def LSroot  : LS where
  S := Int × Int × Int
  live := [(0, [none]), (3, [none]), (4, [none])]
  shape := fun s => ([.int .i64 s.1, .int .i64 s.2.1, .int .i64 s.2.2], [])
  get := fun v h => match v, h with
    | [.int .i64 n, .int .i64 low, .int .i64 high], [] => some (n, low, high)
    | _, _ => none
  inv := fun s0 s => Holds (s.1 = s0.1 ∧ 0 ≤ s.2.1 ∧ s.2.1 < s.2.2 ∧ s.2.2 ≤ 2828427124 ∧ s.2.1 * s.2.1 ≤ s0.1 ∧ s0.1 < s.2.2 * s.2.2)
  mu := fun s => (s.2.2 - s.2.1).toNat
  ok := by
    intro v h s hg
    try dsimp only at hg
    split at hg <;> cases hg
    rfl

def L_root : Loops := fun n => match n with
  | 2 => some LSroot
  | _ => none
noncomputable def fs_implRoot : Fs := ⟨[], fun args H => match args, H with
  | [.int .i64 n], [] => some ((some (0 ≤ n ∧ n ≤ 2000000000000000000)), .int .i64 (rootI n), [])
  | _, _ => none⟩

theorem vc_implRoot (n : Int) (Q : SV → List Ent → Prop) :
    fnVC tt (look []) (L_root) Tryz.f178 [.int .i64 n] [] Q =
    (Holds (n = n ∧ (0 : Int) ≤ (0 : Int) ∧ (0 : Int) < (2147483648 : Int) ∧ (2147483648 : Int) ≤ (2828427124 : Int) ∧ (0 : Int) * (0 : Int) ≤ n ∧ n < (2147483648 : Int) * (2147483648 : Int)) ∧ ∀ (x : Int × Int × Int), Holds (Prod.fst x = n ∧ (0 : Int) ≤ Prod.fst (Prod.snd x) ∧ Prod.fst (Prod.snd x) < Prod.snd (Prod.snd x) ∧ Prod.snd (Prod.snd x) ≤ (2828427124 : Int) ∧ Prod.fst (Prod.snd x) * Prod.fst (Prod.snd x) ≤ n ∧ n < Prod.snd (Prod.snd x) * Prod.snd (Prod.snd x)) → ifB (decide (IntKind.wrap IntKind.i64 (Prod.snd (Prod.snd x) - Prod.fst (Prod.snd x)) > (1 : Int))) (ifB (decide (IntKind.wrap IntKind.i64 (IntKind.wrap IntKind.i64 (Int.tdiv (IntKind.wrap IntKind.i64 (Prod.fst (Prod.snd x) + Prod.snd (Prod.snd x))) (2 : Int)) * IntKind.wrap IntKind.i64 (Int.tdiv (IntKind.wrap IntKind.i64 (Prod.fst (Prod.snd x) + Prod.snd (Prod.snd x))) (2 : Int))) ≤ Prod.fst x)) (Holds (Prod.fst x = n ∧ (0 : Int) ≤ IntKind.wrap IntKind.i64 (Int.tdiv (IntKind.wrap IntKind.i64 (Prod.fst (Prod.snd x) + Prod.snd (Prod.snd x))) (2 : Int)) ∧ IntKind.wrap IntKind.i64 (Int.tdiv (IntKind.wrap IntKind.i64 (Prod.fst (Prod.snd x) + Prod.snd (Prod.snd x))) (2 : Int)) < Prod.snd (Prod.snd x) ∧ Prod.snd (Prod.snd x) ≤ (2828427124 : Int) ∧ IntKind.wrap IntKind.i64 (Int.tdiv (IntKind.wrap IntKind.i64 (Prod.fst (Prod.snd x) + Prod.snd (Prod.snd x))) (2 : Int)) * IntKind.wrap IntKind.i64 (Int.tdiv (IntKind.wrap IntKind.i64 (Prod.fst (Prod.snd x) + Prod.snd (Prod.snd x))) (2 : Int)) ≤ n ∧ n < Prod.snd (Prod.snd x) * Prod.snd (Prod.snd x)) ∧ Int.toNat (Prod.snd (Prod.snd x) - IntKind.wrap IntKind.i64 (Int.tdiv (IntKind.wrap IntKind.i64 (Prod.fst (Prod.snd x) + Prod.snd (Prod.snd x))) (2 : Int))) < Int.toNat (Prod.snd (Prod.snd x) - Prod.fst (Prod.snd x))) (Holds (Prod.fst x = n ∧ (0 : Int) ≤ Prod.fst (Prod.snd x) ∧ Prod.fst (Prod.snd x) < IntKind.wrap IntKind.i64 (Int.tdiv (IntKind.wrap IntKind.i64 (Prod.fst (Prod.snd x) + Prod.snd (Prod.snd x))) (2 : Int)) ∧ IntKind.wrap IntKind.i64 (Int.tdiv (IntKind.wrap IntKind.i64 (Prod.fst (Prod.snd x) + Prod.snd (Prod.snd x))) (2 : Int)) ≤ (2828427124 : Int) ∧ Prod.fst (Prod.snd x) * Prod.fst (Prod.snd x) ≤ n ∧ n < IntKind.wrap IntKind.i64 (Int.tdiv (IntKind.wrap IntKind.i64 (Prod.fst (Prod.snd x) + Prod.snd (Prod.snd x))) (2 : Int)) * IntKind.wrap IntKind.i64 (Int.tdiv (IntKind.wrap IntKind.i64 (Prod.fst (Prod.snd x) + Prod.snd (Prod.snd x))) (2 : Int))) ∧ Int.toNat (IntKind.wrap IntKind.i64 (Int.tdiv (IntKind.wrap IntKind.i64 (Prod.fst (Prod.snd x) + Prod.snd (Prod.snd x))) (2 : Int)) - Prod.fst (Prod.snd x)) < Int.toNat (Prod.snd (Prod.snd x) - Prod.fst (Prod.snd x)))) (Q (SV.int IntKind.i64 (Prod.fst (Prod.snd x))) [])) := by kernel_rfl

theorem ok_implRoot : FsOk Tryz.prog 178 fs_implRoot := fsOk_of tt_ok tabFs_nil mixed Tryz.func178 (by kernel_rfl) (by kernel_rfl) (by
    intro args LL p r HH h hp
    unfold fs_implRoot at h
    dsimp only at h
    split at h
    case h_2 => cases h
    rename_i n
    simp only [Option.some.injEq, Prod.mk.injEq] at h
    obtain ⟨rfl, rfl, rfl⟩ := h
    refine ⟨by simp [Form, stays], (L_root), ?_⟩
    rw [vc_implRoot]
    try dsimp only
    obtain ⟨hn0, hn1⟩ := hp _ rfl
    refine ⟨⟨(by trivial), by omega, by omega, by omega, by omega, by omega⟩, ?_⟩
    rintro ⟨n'', low, high⟩ ⟨h⟩
    dsimp only at h ⊢
    obtain ⟨rfl, g0, g1, g2, g3, g4⟩ := h
    have w1 : IntKind.i64.wrap (high - low) = high - low := wrap_small (by omega) (by omega)
    have w2 : IntKind.i64.wrap (low + high) = low + high := wrap_small (by omega) (by omega)
    have w3 := Int.tdiv_eq_ediv_of_nonneg (b := 2) (show 0 ≤ low + high by omega)
    have w4 : IntKind.i64.wrap ((low + high) / 2) = (low + high) / 2 := wrap_small (by omega) (by omega)
    rw [w1, w2, w3, w4]
    have m0 : 0 ≤ (low + high) / 2 := by omega
    have m1 : (low + high) / 2 ≤ 2828427124 := by omega
    have sqm := sq_le m0 m1
    have sqm0 : 0 ≤ (low + high) / 2 * ((low + high) / 2) := Int.mul_nonneg m0 m0
    have w5 : IntKind.i64.wrap ((low + high) / 2 * ((low + high) / 2)) = (low + high) / 2 * ((low + high) / 2) := wrap_small (by omega) (by omega)
    rw [w5]
    refine ifB_of (fun c2 => ?_) (fun c2 => ?_)
    · have c2 := of_decide_eq_true c2
      refine ifB_of (fun c3 => ?_) (fun c3 => ?_)
      · have c3 := of_decide_eq_true c3
        exact ⟨⟨(by trivial), by omega, by omega, by omega, c3, g4⟩, by omega⟩
      · have c3 := of_decide_eq_false c3
        exact ⟨⟨(by trivial), by omega, by omega, by omega, g3, by omega⟩, by omega⟩
    · have c2 := of_decide_eq_false c2
      have e : high = low + 1 := by omega
      subst e
      rw [rootI_eq ⟨g0, g3, g4⟩]
      exact ⟨rfl, rfl⟩)

noncomputable def fs_implVecLen : Fs := ⟨[], fun args H => match args, H with
  | [.agg [.int .i64 aX, .int .i64 aY]], [] => some (none, .int .i64 (vecLen (Vec.mk aX aY)), [])
  | _, _ => none⟩

theorem vc_implVecLen (aX : Int) (aY : Int) (Q : SV → List Ent → Prop) :
    fnVC tt (look [(173, fs_implFixClamp), (178, fs_implRoot), (94, fs_vecClamped), (160, fs_vecSquare)]) L0 Tryz.f162 [.agg [.int .i64 aX, .int .i64 aY]] [] Q =
    (((0 : Int) ≤ square (Vec.mk (withinI aX (1000000000 : Int)) (withinI aY (1000000000 : Int))) ∧ square (Vec.mk (withinI aX (1000000000 : Int)) (withinI aY (1000000000 : Int))) ≤ (2000000000000000000 : Int)) ∧ Q (SV.int IntKind.i64 (clampTo (1000000000 : Int) (rootI (square (Vec.mk (withinI aX (1000000000 : Int)) (withinI aY (1000000000 : Int))))))) []) := by kernel_rfl

theorem ok_implVecLen : FsOk Tryz.prog 162 fs_implVecLen := fsOk_of tt_ok (tabFs_cons ok_implFixClamp (tabFs_cons ok_implRoot (tabFs_cons ok_vecClamped (tabFs_cons ok_vecSquare tabFs_nil)))) mixed Tryz.func162 (by kernel_rfl) (by kernel_rfl) (by
    intro args LL p r HH h hp
    unfold fs_implVecLen at h
    dsimp only at h
    split at h
    case h_2 => cases h
    rename_i aX aY
    simp only [Option.some.injEq, Prod.mk.injEq] at h
    obtain ⟨rfl, rfl, rfl⟩ := h
    refine ⟨by simp [Form, stays], L0, ?_⟩
    rw [vc_implVecLen]
    try dsimp only
    have := square_clamp ⟨aX, aY⟩
    simp only [withinI_big]
    exact ⟨⟨this.2.1, this.2.2⟩, (by trivial), (by trivial)⟩)

noncomputable def fs_implVecUnit : Fs := ⟨[], fun args H => match args, H with
  | [.agg [.int .i64 aX, .int .i64 aY]], [] => some (none, .agg [.int .i64 (vecUnit (Vec.mk aX aY)).X, .int .i64 (vecUnit (Vec.mk aX aY)).Y], [])
  | _, _ => none⟩

theorem vc_implVecUnit (aX : Int) (aY : Int) (Q : SV → List Ent → Prop) :
    fnVC tt (look [(94, fs_vecClamped), (162, fs_implVecLen)]) L0 Tryz.f161 [.agg [.int .i64 aX, .int .i64 aY]] [] Q =
    (ifB (vecLen (Vec.mk (withinI aX (1000000000 : Int)) (withinI aY (1000000000 : Int))) == (0 : Int)) (Q (SV.agg [SV.int IntKind.i64 (0 : Int), SV.int IntKind.i64 (256 : Int)]) []) (vecLen (Vec.mk (withinI aX (1000000000 : Int)) (withinI aY (1000000000 : Int))) ≠ (0 : Int) ∧ vecLen (Vec.mk (withinI aX (1000000000 : Int)) (withinI aY (1000000000 : Int))) ≠ (0 : Int) ∧ Q (SV.agg [SV.int IntKind.i64 (IntKind.wrap IntKind.i64 (Int.tdiv (IntKind.wrap IntKind.i64 (withinI aX (1000000000 : Int) * (256 : Int))) (vecLen (Vec.mk (withinI aX (1000000000 : Int)) (withinI aY (1000000000 : Int)))))), SV.int IntKind.i64 (IntKind.wrap IntKind.i64 (Int.tdiv (IntKind.wrap IntKind.i64 (withinI aY (1000000000 : Int) * (256 : Int))) (vecLen (Vec.mk (withinI aX (1000000000 : Int)) (withinI aY (1000000000 : Int))))))]) [])) := by kernel_rfl

theorem ok_implVecUnit : FsOk Tryz.prog 161 fs_implVecUnit := fsOk_of tt_ok (tabFs_cons ok_vecClamped (tabFs_cons ok_implVecLen tabFs_nil)) mixed Tryz.func161 (by kernel_rfl) (by kernel_rfl) (by
    intro args LL p r HH h hp
    unfold fs_implVecUnit at h
    dsimp only at h
    split at h
    case h_2 => cases h
    rename_i aX aY
    simp only [Option.some.injEq, Prod.mk.injEq] at h
    obtain ⟨rfl, rfl, rfl⟩ := h
    refine ⟨by simp [Form, stays], L0, ?_⟩
    rw [vc_implVecUnit]
    try dsimp only
    simp only [withinI_big]
    unfold vecUnit
    refine ifB_of (fun c => ?_) (fun c => ?_)
    · have c : vecLen (clampV 1000000000 ⟨aX, aY⟩) = 0 := eq_of_beq c
      rw [if_pos c]
      exact ⟨(by trivial), (by trivial)⟩
    · have c : ¬ vecLen (clampV 1000000000 ⟨aX, aY⟩) = 0 := beq_eq_false_iff_ne.1 c
      rw [if_neg c]
      exact ⟨c, c, (by trivial), (by trivial)⟩)

noncomputable def fs_implRounds : Fs := ⟨[], fun args H => match args, H with
  | [.agg [.int .i64 pX, .int .i64 pY], .int .i64 w, .agg [.int .i64 qX, .int .i64 qY], .int .i64 o], [] => some (none, .tup [.agg [.int .i64 ((roundsF (minus (Vec.mk qX qY) (Vec.mk pX pY)) (W (w + o))).1).Way.X, .int .i64 ((roundsF (minus (Vec.mk qX qY) (Vec.mk pX pY)) (W (w + o))).1).Way.Y, .int .i64 ((roundsF (minus (Vec.mk qX qY) (Vec.mk pX pY)) (W (w + o))).1).Deep], .bool ((roundsF (minus (Vec.mk qX qY) (Vec.mk pX pY)) (W (w + o))).2)], [])
  | _, _ => none⟩

theorem vc_implRounds (pX : Int) (pY : Int) (w : Int) (qX : Int) (qY : Int) (o : Int) (Q : SV → List Ent → Prop) :
    fnVC tt (look [(159, fs_vecMinus), (160, fs_vecSquare), (161, fs_implVecUnit), (162, fs_implVecLen)]) L0 Tryz.f137 [.agg [.int .i64 pX, .int .i64 pY], .int .i64 w, .agg [.int .i64 qX, .int .i64 qY], .int .i64 o] [] Q =
    (ifB (decide (square (minus (Vec.mk qX qY) (Vec.mk pX pY)) > IntKind.wrap IntKind.i64 (IntKind.wrap IntKind.i64 (w + o) * IntKind.wrap IntKind.i64 (w + o)))) (Q (SV.tup [SV.agg [SV.int IntKind.i64 (0 : Int), SV.int IntKind.i64 (0 : Int), SV.int IntKind.i64 (0 : Int)], SV.bool false]) []) (Q (SV.tup [SV.agg [SV.int IntKind.i64 (Vec.X (vecUnit (minus (Vec.mk qX qY) (Vec.mk pX pY)))), SV.int IntKind.i64 (Vec.Y (vecUnit (minus (Vec.mk qX qY) (Vec.mk pX pY)))), SV.int IntKind.i64 (IntKind.wrap IntKind.i64 (IntKind.wrap IntKind.i64 (w + o) - vecLen (minus (Vec.mk qX qY) (Vec.mk pX pY))))], SV.bool true]) [])) := by kernel_rfl

theorem ok_implRounds : FsOk Tryz.prog 137 fs_implRounds := fsOk_of tt_ok (tabFs_cons ok_vecMinus (tabFs_cons ok_vecSquare (tabFs_cons ok_implVecUnit (tabFs_cons ok_implVecLen tabFs_nil)))) mixed Tryz.func137 (by kernel_rfl) (by kernel_rfl) (by
    intro args LL p r HH h hp
    unfold fs_implRounds at h
    dsimp only at h
    split at h
    case h_2 => cases h
    rename_i pX pY w qX qY o
    simp only [Option.some.injEq, Prod.mk.injEq] at h
    obtain ⟨rfl, rfl, rfl⟩ := h
    refine ⟨by simp [Form, stays], L0, ?_⟩
    rw [vc_implRounds]
    try dsimp only
    unfold roundsF
    refine ifB_of (fun c => ?_) (fun c => ?_)
    · have c : square (minus ⟨qX, qY⟩ ⟨pX, pY⟩) > W (W (w + o) * W (w + o)) := of_decide_eq_true c
      rw [if_pos c]
      exact ⟨rfl, rfl⟩
    · have c : ¬ square (minus ⟨qX, qY⟩ ⟨pX, pY⟩) > W (W (w + o) * W (w + o)) := of_decide_eq_false c
      rw [if_neg c]
      exact ⟨rfl, rfl⟩)

noncomputable def fs_implOpposite : Fs := ⟨[], fun args H => match args, H with
  | [.agg [.int .i64 aX, .int .i64 aY]], [] => some (none, .agg [.int .i64 (Vec.mk (W (0 - (Vec.mk aX aY).X)) (W (0 - (Vec.mk aX aY).Y))).X, .int .i64 (Vec.mk (W (0 - (Vec.mk aX aY).X)) (W (0 - (Vec.mk aX aY).Y))).Y], [])
  | _, _ => none⟩

theorem vc_implOpposite (aX : Int) (aY : Int) (Q : SV → List Ent → Prop) :
    fnVC tt (look []) L0 Tryz.f91 [.agg [.int .i64 aX, .int .i64 aY]] [] Q =
    (Q (SV.agg [SV.int IntKind.i64 (IntKind.wrap IntKind.i64 ((0 : Int) - aX)), SV.int IntKind.i64 (IntKind.wrap IntKind.i64 ((0 : Int) - aY))]) []) := by kernel_rfl

theorem ok_implOpposite : FsOk Tryz.prog 91 fs_implOpposite := fsOk_of tt_ok tabFs_nil mixed Tryz.func91 (by kernel_rfl) (by kernel_rfl) (by
    intro args LL p r HH h hp
    unfold fs_implOpposite at h
    dsimp only at h
    split at h
    case h_2 => cases h
    rename_i aX aY
    simp only [Option.some.injEq, Prod.mk.injEq] at h
    obtain ⟨rfl, rfl, rfl⟩ := h
    refine ⟨by simp [Form, stays], L0, ?_⟩
    rw [vc_implOpposite]
    try dsimp only
    exact ⟨rfl, rfl⟩)

noncomputable def fs_implNear : Fs := ⟨[], fun args H => match args, H with
  | [.agg [.int .i64 bLX, .int .i64 bLY, .int .i64 bHX, .int .i64 bHY], .agg [.int .i64 pX, .int .i64 pY]], [] => some (none, .agg [.int .i64 (nearV (Box.mk (Vec.mk bLX bLY) (Vec.mk bHX bHY)) (Vec.mk pX pY)).X, .int .i64 (nearV (Box.mk (Vec.mk bLX bLY) (Vec.mk bHX bHY)) (Vec.mk pX pY)).Y], [])
  | _, _ => none⟩

theorem vc_implNear (bLX : Int) (bLY : Int) (bHX : Int) (bHY : Int) (pX : Int) (pY : Int) (Q : SV → List Ent → Prop) :
    fnVC tt (look []) L0 Tryz.f165 [.agg [.int .i64 bLX, .int .i64 bLY, .int .i64 bHX, .int .i64 bHY], .agg [.int .i64 pX, .int .i64 pY]] [] Q =
    (Q (SV.agg [SV.int IntKind.i64 (if (if bHX < pX then bHX else pX) > bLX then if bHX < pX then bHX else pX else bLX), SV.int IntKind.i64 (if (if bHY < pY then bHY else pY) > bLY then if bHY < pY then bHY else pY else bLY)]) []) := by kernel_rfl

theorem ok_implNear : FsOk Tryz.prog 165 fs_implNear := fsOk_of tt_ok tabFs_nil mixed Tryz.func165 (by kernel_rfl) (by kernel_rfl) (by
    intro args LL p r HH h hp
    unfold fs_implNear at h
    dsimp only at h
    split at h
    case h_2 => cases h
    rename_i bLX bLY bHX bHY pX pY
    simp only [Option.some.injEq, Prod.mk.injEq] at h
    obtain ⟨rfl, rfl, rfl⟩ := h
    refine ⟨by simp [Form, stays], L0, ?_⟩
    rw [vc_implNear]
    try dsimp only
    simp only [max_b, min_b]
    exact ⟨(by trivial), (by trivial)⟩)

def LSboxes  : LS where
  S := Hit × Hit × List Hit × Int × Int
  live := [(4, [none]), (6, [none]), (50, [some .hit]), (51, [none]), (52, [none])]
  shape := fun s => ([.ptr 0 0 0, .ptr 1 0 0, .vec 2, .int .i64 s.2.2.2.1, .int .i64 s.2.2.2.2], [(true, .box [.int .i64 s.1.Way.X, .int .i64 s.1.Way.Y, .int .i64 s.1.Deep]), (true, .box [.int .i64 s.2.1.Way.X, .int .i64 s.2.1.Way.Y, .int .i64 s.2.1.Deep]), (true, .vec .hit s.2.2.1)])
  get := fun v h => match v, h with
    | [.ptr 0 0 0, .ptr 1 0 0, .vec 2, .int .i64 n, .int .i64 i], [(true, .box [.int .i64 zX, .int .i64 zY, .int .i64 zD]), (true, .box [.int .i64 bestX, .int .i64 bestY, .int .i64 bestD]), (true, .vec .hit hs)] => some ((Hit.mk (Vec.mk zX zY) zD), (Hit.mk (Vec.mk bestX bestY) bestD), hs, n, i)
    | _, _ => none
  inv := fun s0 s => Holds (s.2.2.1 = s0.2.2.1 ∧ s.2.2.2.1 = s0.2.2.1.length ∧ 0 ≤ s.2.2.2.2 ∧ s.2.2.2.2 ≤ s0.2.2.1.length ∧ (s0.2.2.1.drop s.2.2.2.2.toNat).foldl less2 s.2.1 = (s0.2.2.1.drop s0.2.2.2.2.toNat).foldl less2 s0.2.1 ∧ s0.2.2.1.length ≤ 100)
  mu := fun s => ((s.2.2.1.length : Int) - s.2.2.2.2).toNat
  ok := by
    intro v h s hg
    try dsimp only at hg
    split at hg <;> cases hg
    rfl

def L_boxes : Loops := fun n => match n with
  | 5 => some LSboxes
  | _ => none
noncomputable def fs_implBoxes : Fs := ⟨[], fun args H => match args, H with
  | [.agg [.int .i64 aLX, .int .i64 aLY, .int .i64 aHX, .int .i64 aHY], .agg [.int .i64 bLX, .int .i64 bLY, .int .i64 bHX, .int .i64 bHY]], [] => some (none, .tup [.agg [.int .i64 ((boxesF (Box.mk (Vec.mk aLX aLY) (Vec.mk aHX aHY)) (Box.mk (Vec.mk bLX bLY) (Vec.mk bHX bHY))).1).Way.X, .int .i64 ((boxesF (Box.mk (Vec.mk aLX aLY) (Vec.mk aHX aHY)) (Box.mk (Vec.mk bLX bLY) (Vec.mk bHX bHY))).1).Way.Y, .int .i64 ((boxesF (Box.mk (Vec.mk aLX aLY) (Vec.mk aHX aHY)) (Box.mk (Vec.mk bLX bLY) (Vec.mk bHX bHY))).1).Deep], .bool ((boxesF (Box.mk (Vec.mk aLX aLY) (Vec.mk aHX aHY)) (Box.mk (Vec.mk bLX bLY) (Vec.mk bHX bHY))).2)], [])
  | _, _ => none⟩

theorem vc_implBoxes (aLX : Int) (aLY : Int) (aHX : Int) (aHY : Int) (bLX : Int) (bLY : Int) (bHX : Int) (bHY : Int) (Q : SV → List Ent → Prop) :
    fnVC tt (look [(163, fs_implMeets)]) (L_boxes) Tryz.f138 [.agg [.int .i64 aLX, .int .i64 aLY, .int .i64 aHX, .int .i64 aHY], .agg [.int .i64 bLX, .int .i64 bLY, .int .i64 bHX, .int .i64 bHY]] [] Q =
    (let w_ := IntKind.wrap IntKind.i64; let s_ := SV.int IntKind.i64; let n_ := Int.toNat; let A18_ := (w_ (bHY - aLY)); let A17_ := (w_ (aHY - bLY)); let A16_ := (w_ (bHX - aLX)); let A15_ := (List.drop (n_ (0 : Int)) [Hit.mk (Vec.mk (-256 : Int) (0 : Int)) A16_, Hit.mk (Vec.mk (0 : Int) (256 : Int)) A17_, Hit.mk (Vec.mk (0 : Int) (-256 : Int)) A18_]); let A14_ := (↑(List.length [Hit.mk (Vec.mk (-256 : Int) (0 : Int)) A16_, Hit.mk (Vec.mk (0 : Int) (256 : Int)) A17_, Hit.mk (Vec.mk (0 : Int) (-256 : Int)) A18_]) : Int); ifB (!boxMeets (Box.mk (Vec.mk aLX aLY) (Vec.mk aHX aHY)) (Box.mk (Vec.mk bLX bLY) (Vec.mk bHX bHY))) (Q (SV.tup [SV.agg [s_ (0 : Int), s_ (0 : Int), s_ (0 : Int)], SV.bool false]) []) (Holds ([Hit.mk (Vec.mk (-256 : Int) (0 : Int)) A16_, Hit.mk (Vec.mk (0 : Int) (256 : Int)) A17_, Hit.mk (Vec.mk (0 : Int) (-256 : Int)) A18_] = [Hit.mk (Vec.mk (-256 : Int) (0 : Int)) A16_, Hit.mk (Vec.mk (0 : Int) (256 : Int)) A17_, Hit.mk (Vec.mk (0 : Int) (-256 : Int)) A18_] ∧ A14_ = A14_ ∧ (0 : Int) ≤ (0 : Int) ∧ (0 : Int) ≤ A14_ ∧ List.foldl less2 (Hit.mk (Vec.mk (256 : Int) (0 : Int)) (w_ (aHX - bLX))) A15_ = List.foldl less2 (Hit.mk (Vec.mk (256 : Int) (0 : Int)) (w_ (aHX - bLX))) A15_ ∧ List.length [Hit.mk (Vec.mk (-256 : Int) (0 : Int)) A16_, Hit.mk (Vec.mk (0 : Int) (256 : Int)) A17_, Hit.mk (Vec.mk (0 : Int) (-256 : Int)) A18_] ≤ (100 : Nat)) ∧ ∀ (y1 : Hit × Hit × List Hit × Int × Int), let y1s1_ := Prod.snd y1; let y1f1_ := Prod.fst (Prod.snd y1); let y1s2_ := Prod.snd (Prod.snd y1); let y1f2_ := Prod.fst (Prod.snd (Prod.snd y1)); let y1s3_ := Prod.snd (Prod.snd (Prod.snd y1)); let y1f3_ := Prod.fst (Prod.snd (Prod.snd (Prod.snd y1))); let y1s4_ := Prod.snd (Prod.snd (Prod.snd (Prod.snd y1))); let A13_ := (↑(List.length y1f2_) : Int); let A11_ := (Hit.mk (Vec.mk (256 : Int) (0 : Int)) (w_ (aHX - bLX))); let A10_ := (Prod.snd y1s3_ + (1 : Int)); let A9_ := (Vec.mk (0 : Int) (256 : Int)); let A8_ := (Vec.mk (0 : Int) (-256 : Int)); let A7_ := (Vec.mk (-256 : Int) (0 : Int)); let A6_ := A18_; let A5_ := A17_; let A4_ := A16_; let A12_ := (List.drop (n_ (w_ A10_)) [Hit.mk A7_ A4_, Hit.mk A9_ A5_, Hit.mk A8_ A6_]); let A3_ := (List.drop (n_ (0 : Int)) [Hit.mk A7_ A4_, Hit.mk A9_ A5_, Hit.mk A8_ A6_]); let A2_ := (↑(List.length [Hit.mk A7_ A4_, Hit.mk A9_ A5_, Hit.mk A8_ A6_]) : Int); Holds (Prod.fst y1s2_ = [Hit.mk A7_ A4_, Hit.mk A9_ A5_, Hit.mk A8_ A6_] ∧ y1f3_ = A2_ ∧ (0 : Int) ≤ y1s4_ ∧ y1s4_ ≤ A2_ ∧ List.foldl less2 y1f1_ (List.drop (n_ y1s4_) [Hit.mk A7_ A4_, Hit.mk A9_ A5_, Hit.mk A8_ A6_]) = List.foldl less2 A11_ A3_ ∧ List.length [Hit.mk A7_ A4_, Hit.mk A9_ A5_, Hit.mk A8_ A6_] ≤ (100 : Nat)) → ifB (decide (Prod.snd y1s3_ < y1f3_)) (((0 : Int) ≤ y1s4_ ∧ y1s4_ < A13_) ∧ ifB (decide (Hit.Deep (Ty.ix Ty.hit y1f2_ (n_ y1s4_)) < Hit.Deep y1f1_)) (Holds (Prod.fst y1s2_ = [Hit.mk A7_ A4_, Hit.mk A9_ A5_, Hit.mk A8_ A6_] ∧ y1f3_ = A2_ ∧ (0 : Int) ≤ w_ A10_ ∧ w_ A10_ ≤ A2_ ∧ List.foldl less2 (Ty.ix Ty.hit y1f2_ (n_ y1s4_)) A12_ = List.foldl less2 A11_ A3_ ∧ List.length [Hit.mk A7_ A4_, Hit.mk A9_ A5_, Hit.mk A8_ A6_] ≤ (100 : Nat)) ∧ n_ (A13_ - w_ A10_) < n_ (A13_ - y1s4_)) (Holds (Prod.fst y1s2_ = [Hit.mk A7_ A4_, Hit.mk A9_ A5_, Hit.mk A8_ A6_] ∧ y1f3_ = A2_ ∧ (0 : Int) ≤ w_ A10_ ∧ w_ A10_ ≤ A2_ ∧ List.foldl less2 y1f1_ A12_ = List.foldl less2 A11_ A3_ ∧ List.length [Hit.mk A7_ A4_, Hit.mk A9_ A5_, Hit.mk A8_ A6_] ≤ (100 : Nat)) ∧ n_ (A13_ - w_ A10_) < n_ (A13_ - y1s4_))) (Q (SV.tup [SV.agg [s_ (Vec.X (Hit.Way y1f1_)), s_ (Vec.Y (Hit.Way y1f1_)), s_ (Hit.Deep y1f1_)], SV.bool true]) []))) := by kernel_rfl

theorem ok_implBoxes : FsOk Tryz.prog 138 fs_implBoxes := fsOk_of tt_ok (tabFs_cons ok_implMeets tabFs_nil) mixed Tryz.func138 (by kernel_rfl) (by kernel_rfl) (by
    intro args LL p r HH h hp
    unfold fs_implBoxes at h
    dsimp only at h
    split at h
    case h_2 => cases h
    rename_i aLX aLY aHX aHY bLX bLY bHX bHY
    simp only [Option.some.injEq, Prod.mk.injEq] at h
    obtain ⟨rfl, rfl, rfl⟩ := h
    refine ⟨by simp [Form, stays], (L_boxes), ?_⟩
    rw [vc_implBoxes]
    try dsimp only
    refine ifB_of (fun c => ?_) (fun c => ?_)
    · simp [boxesF, not_true c]
    have c := not_false c
    refine ⟨⟨(by trivial), (by trivial), by omega, by omega, (by trivial), by simp⟩, ?_⟩
    rintro ⟨z, best, hs, n, i⟩ ⟨h⟩
    dsimp only at h ⊢
    obtain ⟨e1, e2, i0, i1, i2, i3⟩ := h
    have w : IntKind.i64.wrap (i + 1) = i + 1 := wrap_small (by omega) (by omega)
    have ht : (i + 1).toNat = i.toNat + 1 := by omega
    rw [w, ht]
    refine ifB_of (fun c3 => ?_) (fun c3 => ?_)
    · have c3 := of_decide_eq_true c3
      rw [← e1] at i2 i1 i3 e2
      have hd := drop_ix (T := .hit) (xs := hs) (i := i.toNat) (by omega)
      rw [hd, List.foldl_cons] at i2
      refine ⟨⟨i0, by omega⟩, ifB_of (fun c4 => ?_) (fun c4 => ?_)⟩
      · have e : less2 best (Ty.ix .hit hs i.toNat) = Ty.ix .hit hs i.toNat := by
          unfold less2
          rw [c4]
          rfl
        rw [e] at i2
        rw [← e1]
        exact ⟨⟨(by trivial), e2, by omega, by omega, i2, i3⟩, by omega⟩
      · have e : less2 best (Ty.ix .hit hs i.toNat) = best := by
          unfold less2
          rw [c4]
          rfl
        rw [e] at i2
        rw [← e1]
        exact ⟨⟨(by trivial), e2, by omega, by omega, i2, i3⟩, by omega⟩
    · have c3 := of_decide_eq_false c3
      rw [drop_end (by omega)] at i2
      have e : boxesF (Box.mk (Vec.mk aLX aLY) (Vec.mk aHX aHY)) (Box.mk (Vec.mk bLX bLY) (Vec.mk bHX bHY)) = (best, true) := by
        unfold boxesF
        rw [c]
        simp only [cond_true]
        rw [show best = _ from i2]
        rfl
      rw [e]
      exact ⟨(by trivial), (by trivial)⟩)

theorem mixed_no {b : Box} {p : Vec} {w : Int} (h : (mixedF b p w).2 = false) : (mixedF b p w).1 = ⟨⟨0, 0⟩, 0⟩ := by
  unfold mixedF at h ⊢
  cases q : hasPoint b p with
  | true =>
    rw [q] at h
    have hm : boxMeets b ⟨p, p⟩ = true := by
      simp only [hasPoint, isIn, Bool.and_eq_true, decide_eq_true_eq] at q
      simp only [boxMeets, Bool.and_eq_true, decide_eq_true_eq]
      omega
    simp only [cond_true, boxesF, hm] at h
    cases h
  | false =>
    rw [q] at h
    simp only [cond_false] at h ⊢
    unfold roundsF at h ⊢
    split
    · rfl
    · rename_i q2
      rw [if_neg q2] at h
      cases h
noncomputable def fs_implBoxRound : Fs := ⟨[], fun args H => match args, H with
  | [.agg [.int .i64 bLX, .int .i64 bLY, .int .i64 bHX, .int .i64 bHY], .agg [.int .i64 pX, .int .i64 pY], .int .i64 w], [] => some ((some (1 ≤ w ∧ w ≤ 25600)), .tup [.agg [.int .i64 ((mixedF (Box.mk (Vec.mk bLX bLY) (Vec.mk bHX bHY)) (Vec.mk pX pY) w).1).Way.X, .int .i64 ((mixedF (Box.mk (Vec.mk bLX bLY) (Vec.mk bHX bHY)) (Vec.mk pX pY) w).1).Way.Y, .int .i64 ((mixedF (Box.mk (Vec.mk bLX bLY) (Vec.mk bHX bHY)) (Vec.mk pX pY) w).1).Deep], .bool ((mixedF (Box.mk (Vec.mk bLX bLY) (Vec.mk bHX bHY)) (Vec.mk pX pY) w).2)], [])
  | _, _ => none⟩

theorem vc_implBoxRound (bLX : Int) (bLY : Int) (bHX : Int) (bHY : Int) (pX : Int) (pY : Int) (w : Int) (Q : SV → List Ent → Prop) :
    fnVC tt (look [(164, fs_implHasPoint), (165, fs_implNear), (137, fs_implRounds), (138, fs_implBoxes)]) L0 Tryz.f140 [.agg [.int .i64 bLX, .int .i64 bLY, .int .i64 bHX, .int .i64 bHY], .agg [.int .i64 pX, .int .i64 pY], .int .i64 w] [] Q =
    (ifB (!hasPoint (Box.mk (Vec.mk bLX bLY) (Vec.mk bHX bHY)) (Vec.mk pX pY)) (Q (SV.tup [SV.agg [SV.int IntKind.i64 (Vec.X (Hit.Way (Prod.fst (roundsF (minus (Vec.mk pX pY) (nearV (Box.mk (Vec.mk bLX bLY) (Vec.mk bHX bHY)) (Vec.mk pX pY))) (W ((0 : Int) + w)))))), SV.int IntKind.i64 (Vec.Y (Hit.Way (Prod.fst (roundsF (minus (Vec.mk pX pY) (nearV (Box.mk (Vec.mk bLX bLY) (Vec.mk bHX bHY)) (Vec.mk pX pY))) (W ((0 : Int) + w)))))), SV.int IntKind.i64 (Hit.Deep (Prod.fst (roundsF (minus (Vec.mk pX pY) (nearV (Box.mk (Vec.mk bLX bLY) (Vec.mk bHX bHY)) (Vec.mk pX pY))) (W ((0 : Int) + w)))))], SV.bool (Prod.snd (roundsF (minus (Vec.mk pX pY) (nearV (Box.mk (Vec.mk bLX bLY) (Vec.mk bHX bHY)) (Vec.mk pX pY))) (W ((0 : Int) + w))))]) []) (Q (SV.tup [SV.agg [SV.int IntKind.i64 (Vec.X (Hit.Way (Prod.fst (boxesF (Box.mk (Vec.mk bLX bLY) (Vec.mk bHX bHY)) (Box.mk (Vec.mk pX pY) (Vec.mk pX pY)))))), SV.int IntKind.i64 (Vec.Y (Hit.Way (Prod.fst (boxesF (Box.mk (Vec.mk bLX bLY) (Vec.mk bHX bHY)) (Box.mk (Vec.mk pX pY) (Vec.mk pX pY)))))), SV.int IntKind.i64 (IntKind.wrap IntKind.i64 (Hit.Deep (Prod.fst (boxesF (Box.mk (Vec.mk bLX bLY) (Vec.mk bHX bHY)) (Box.mk (Vec.mk pX pY) (Vec.mk pX pY)))) + w))], SV.bool (Prod.snd (boxesF (Box.mk (Vec.mk bLX bLY) (Vec.mk bHX bHY)) (Box.mk (Vec.mk pX pY) (Vec.mk pX pY))))]) [])) := by kernel_rfl

theorem ok_implBoxRound : FsOk Tryz.prog 140 fs_implBoxRound := fsOk_of tt_ok (tabFs_cons ok_implHasPoint (tabFs_cons ok_implNear (tabFs_cons ok_implRounds (tabFs_cons ok_implBoxes tabFs_nil)))) mixed Tryz.func140 (by kernel_rfl) (by kernel_rfl) (by
    intro args LL p r HH h hp
    unfold fs_implBoxRound at h
    dsimp only at h
    split at h
    case h_2 => cases h
    rename_i bLX bLY bHX bHY pX pY w
    simp only [Option.some.injEq, Prod.mk.injEq] at h
    obtain ⟨rfl, rfl, rfl⟩ := h
    refine ⟨by simp [Form, stays], L0, ?_⟩
    rw [vc_implBoxRound]
    try dsimp only
    obtain ⟨h1, h2⟩ := hp _ rfl
    have e : W (0 + w) = w := by rw [Int.zero_add]; exact wrap_small (by omega) (by omega)
    rw [e]
    refine ifB_of (fun c => ?_) (fun c => ?_)
    · have c : hasPoint ⟨⟨bLX, bLY⟩, ⟨bHX, bHY⟩⟩ ⟨pX, pY⟩ = false := not_true c
      simp only [mixedF, c, cond_false]
      exact ⟨(by trivial), (by trivial)⟩
    · have c : hasPoint ⟨⟨bLX, bLY⟩, ⟨bHX, bHY⟩⟩ ⟨pX, pY⟩ = true := not_false c
      simp only [mixedF, c, cond_true]
      exact ⟨(by trivial), (by trivial)⟩)

noncomputable def touchI (a : Shape) (p : Vec) (b : Shape) (q : Vec) : Hit × Bool :=
  bif a.Kind == 1 && b.Kind == 1 then roundsF (minus q p) (W (a.Wide + b.Wide))
  else bif a.Kind == 2 && b.Kind == 2 then boxesF (bounds a p) (bounds b q)
  else bif a.Kind == 2 then mixedF (bounds a p) q b.Wide
  else (turnH (mixedF (bounds b q) p a.Wide).1, (mixedF (bounds b q) p a.Wide).2)
theorem touchI_eq (a : Shape) (p : Vec) (b : Shape) (q : Vec) : touchF a p b q = touchI a p b q := by
  unfold touchF touchI
  congr 3
  have hn := mixed_no (b := bounds b q) (p := p) (w := a.Wide)
  generalize mixedF (bounds b q) p a.Wide = u at *
  obtain ⟨h, ok⟩ := u
  cases ok with
  | true => rfl
  | false =>
    have := hn rfl
    dsimp only at this
    subst this
    rfl
noncomputable def fs_implTouch : Fs := ⟨[], fun args H => match args, H with
  | [.agg [.int .i64 aK, .int .i64 aW, .int .i64 aH], .agg [.int .i64 pX, .int .i64 pY], .agg [.int .i64 bK, .int .i64 bW, .int .i64 bH], .agg [.int .i64 qX, .int .i64 qY]], [] => some (none, .tup [.agg [.int .i64 ((touchAll (Shape.mk aK aW aH) (Vec.mk pX pY) (Shape.mk bK bW bH) (Vec.mk qX qY)).1).Way.X, .int .i64 ((touchAll (Shape.mk aK aW aH) (Vec.mk pX pY) (Shape.mk bK bW bH) (Vec.mk qX qY)).1).Way.Y, .int .i64 ((touchAll (Shape.mk aK aW aH) (Vec.mk pX pY) (Shape.mk bK bW bH) (Vec.mk qX qY)).1).Deep], .bool ((touchAll (Shape.mk aK aW aH) (Vec.mk pX pY) (Shape.mk bK bW bH) (Vec.mk qX qY)).2)], [])
  | _, _ => none⟩

theorem vc_implTouch (aK : Int) (aW : Int) (aH : Int) (pX : Int) (pY : Int) (bK : Int) (bW : Int) (bH : Int) (qX : Int) (qY : Int) (Q : SV → List Ent → Prop) :
    fnVC tt (look [(108, fs_implShapeOk), (109, fs_isPlace), (137, fs_implRounds), (138, fs_implBoxes), (139, fs_implBounds), (140, fs_implBoxRound), (91, fs_implOpposite)]) L0 Tryz.f107 [.agg [.int .i64 aK, .int .i64 aW, .int .i64 aH], .agg [.int .i64 pX, .int .i64 pY], .agg [.int .i64 bK, .int .i64 bW, .int .i64 bH], .agg [.int .i64 qX, .int .i64 qY]] [] Q =
    (let s_ := SV.int IntKind.i64; let A4_ := (roundsF (minus (Vec.mk qX qY) (Vec.mk pX pY)) (W (aW + bW))); let A3_ := (boxesF (bounds (Shape.mk aK aW aH) (Vec.mk pX pY)) (bounds (Shape.mk bK bW bH) (Vec.mk qX qY))); let A2_ := (mixedF (bounds (Shape.mk bK bW bH) (Vec.mk qX qY)) (Vec.mk pX pY) aW); let A1_ := (mixedF (bounds (Shape.mk aK aW aH) (Vec.mk pX pY)) (Vec.mk qX qY) bW); ifB (!shapeOk (Shape.mk aK aW aH)) (Q (SV.tup [SV.agg [s_ (0 : Int), s_ (0 : Int), s_ (0 : Int)], SV.bool false]) []) (ifB (!shapeOk (Shape.mk bK bW bH)) (Q (SV.tup [SV.agg [s_ (0 : Int), s_ (0 : Int), s_ (0 : Int)], SV.bool false]) []) (ifB (!placeOk (Vec.mk pX pY)) (Q (SV.tup [SV.agg [s_ (0 : Int), s_ (0 : Int), s_ (0 : Int)], SV.bool false]) []) (ifB (!placeOk (Vec.mk qX qY)) (Q (SV.tup [SV.agg [s_ (0 : Int), s_ (0 : Int), s_ (0 : Int)], SV.bool false]) []) (ifB (aK == (1 : Int)) (ifB (bK == (1 : Int)) (Q (SV.tup [SV.agg [s_ (Vec.X (Hit.Way (Prod.fst A4_))), s_ (Vec.Y (Hit.Way (Prod.fst A4_))), s_ (Hit.Deep (Prod.fst A4_))], SV.bool (Prod.snd A4_)]) []) (ifB (aK == (2 : Int)) (ifB (bK == (2 : Int)) (Q (SV.tup [SV.agg [s_ (Vec.X (Hit.Way (Prod.fst A3_))), s_ (Vec.Y (Hit.Way (Prod.fst A3_))), s_ (Hit.Deep (Prod.fst A3_))], SV.bool (Prod.snd A3_)]) []) (ifB (aK == (2 : Int)) (((1 : Int) ≤ bW ∧ bW ≤ (25600 : Int)) ∧ Q (SV.tup [SV.agg [s_ (Vec.X (Hit.Way (Prod.fst A1_))), s_ (Vec.Y (Hit.Way (Prod.fst A1_))), s_ (Hit.Deep (Prod.fst A1_))], SV.bool (Prod.snd A1_)]) []) (((1 : Int) ≤ aW ∧ aW ≤ (25600 : Int)) ∧ Q (SV.tup [SV.agg [s_ (W ((0 : Int) - Vec.X (Hit.Way (Prod.fst A2_)))), s_ (W ((0 : Int) - Vec.Y (Hit.Way (Prod.fst A2_)))), s_ (Hit.Deep (Prod.fst A2_))], SV.bool (Prod.snd A2_)]) []))) (ifB (aK == (2 : Int)) (((1 : Int) ≤ bW ∧ bW ≤ (25600 : Int)) ∧ Q (SV.tup [SV.agg [s_ (Vec.X (Hit.Way (Prod.fst A1_))), s_ (Vec.Y (Hit.Way (Prod.fst A1_))), s_ (Hit.Deep (Prod.fst A1_))], SV.bool (Prod.snd A1_)]) []) (((1 : Int) ≤ aW ∧ aW ≤ (25600 : Int)) ∧ Q (SV.tup [SV.agg [s_ (W ((0 : Int) - Vec.X (Hit.Way (Prod.fst A2_)))), s_ (W ((0 : Int) - Vec.Y (Hit.Way (Prod.fst A2_)))), s_ (Hit.Deep (Prod.fst A2_))], SV.bool (Prod.snd A2_)]) [])))) (ifB (aK == (2 : Int)) (ifB (bK == (2 : Int)) (Q (SV.tup [SV.agg [s_ (Vec.X (Hit.Way (Prod.fst A3_))), s_ (Vec.Y (Hit.Way (Prod.fst A3_))), s_ (Hit.Deep (Prod.fst A3_))], SV.bool (Prod.snd A3_)]) []) (ifB (aK == (2 : Int)) (((1 : Int) ≤ bW ∧ bW ≤ (25600 : Int)) ∧ Q (SV.tup [SV.agg [s_ (Vec.X (Hit.Way (Prod.fst A1_))), s_ (Vec.Y (Hit.Way (Prod.fst A1_))), s_ (Hit.Deep (Prod.fst A1_))], SV.bool (Prod.snd A1_)]) []) (((1 : Int) ≤ aW ∧ aW ≤ (25600 : Int)) ∧ Q (SV.tup [SV.agg [s_ (W ((0 : Int) - Vec.X (Hit.Way (Prod.fst A2_)))), s_ (W ((0 : Int) - Vec.Y (Hit.Way (Prod.fst A2_)))), s_ (Hit.Deep (Prod.fst A2_))], SV.bool (Prod.snd A2_)]) []))) (ifB (aK == (2 : Int)) (((1 : Int) ≤ bW ∧ bW ≤ (25600 : Int)) ∧ Q (SV.tup [SV.agg [s_ (Vec.X (Hit.Way (Prod.fst A1_))), s_ (Vec.Y (Hit.Way (Prod.fst A1_))), s_ (Hit.Deep (Prod.fst A1_))], SV.bool (Prod.snd A1_)]) []) (((1 : Int) ≤ aW ∧ aW ≤ (25600 : Int)) ∧ Q (SV.tup [SV.agg [s_ (W ((0 : Int) - Vec.X (Hit.Way (Prod.fst A2_)))), s_ (W ((0 : Int) - Vec.Y (Hit.Way (Prod.fst A2_)))), s_ (Hit.Deep (Prod.fst A2_))], SV.bool (Prod.snd A2_)]) [])))))))) := by kernel_rfl

theorem ok_implTouch : FsOk Tryz.prog 107 fs_implTouch := fsOk_of tt_ok (tabFs_cons ok_implShapeOk (tabFs_cons ok_isPlace (tabFs_cons ok_implRounds (tabFs_cons ok_implBoxes (tabFs_cons ok_implBounds (tabFs_cons ok_implBoxRound (tabFs_cons ok_implOpposite tabFs_nil))))))) mixed Tryz.func107 (by kernel_rfl) (by kernel_rfl) (by
    intro args LL p r HH h hp
    unfold fs_implTouch at h
    dsimp only at h
    split at h
    case h_2 => cases h
    rename_i aK aW aH pX pY bK bW bH qX qY
    simp only [Option.some.injEq, Prod.mk.injEq] at h
    obtain ⟨rfl, rfl, rfl⟩ := h
    refine ⟨by simp [Form, stays], L0, ?_⟩
    rw [vc_implTouch]
    try dsimp only
    refine ifB_of (fun c => ?_) (fun c => ifB_of (fun c2 => ?_) (fun c2 => ifB_of (fun c3 => ?_) (fun c3 => ifB_of (fun c4 => ?_) (fun c4 => ?_))))
    · simp [touchAll, not_true c]
    · simp [touchAll, not_true c2]
    · simp [touchAll, not_true c3]
    · simp [touchAll, not_true c4]
    have ha := shapeOk_le (not_false c)
    have hb := shapeOk_le (not_false c2)
    dsimp only at ha hb
    simp only [touchAll, not_false c, not_false c2, not_false c3, not_false c4, Bool.and_self, cond_true]
    rw [touchI_eq]
    unfold touchI
    clear hp
    repeat' (first | refine ifB_of (fun c => ?_) (fun c => ?_) | refine pre_of (by omega) (fun _ => ?_) | fail)
    all_goals
      first
        | (simp only [*, cond_true, cond_false, Bool.true_and, Bool.false_and, Bool.and_true, Bool.and_false, and_self, true_and]; done)
        | (exfalso; simp_all; done)
        | (simp_all [turnH]; done))

noncomputable def fs_implBodyTouch : Fs := ⟨[], fun args H => match args, H with
  | [.agg [.int .i64 aI, .int .i64 aK, .int .i64 aW, .int .i64 aH, .int .i64 aX, .int .i64 aY, .int .i64 aU, .int .i64 aV, .int .i64 aM, .int .i64 aB, .int .i64 aR, .int .i64 aQ], .agg [.int .i64 bI, .int .i64 bK, .int .i64 bW, .int .i64 bH, .int .i64 bX, .int .i64 bY, .int .i64 bU, .int .i64 bV, .int .i64 bM, .int .i64 bB, .int .i64 bR, .int .i64 bQ]], [] => some (none, .tup [.agg [.int .i64 ((touchAll (Body.mk aI (Shape.mk aK aW aH) (Vec.mk aX aY) (Vec.mk aU aV) aM aB aR aQ).Shape (Body.mk aI (Shape.mk aK aW aH) (Vec.mk aX aY) (Vec.mk aU aV) aM aB aR aQ).At (Body.mk bI (Shape.mk bK bW bH) (Vec.mk bX bY) (Vec.mk bU bV) bM bB bR bQ).Shape (Body.mk bI (Shape.mk bK bW bH) (Vec.mk bX bY) (Vec.mk bU bV) bM bB bR bQ).At).1).Way.X, .int .i64 ((touchAll (Body.mk aI (Shape.mk aK aW aH) (Vec.mk aX aY) (Vec.mk aU aV) aM aB aR aQ).Shape (Body.mk aI (Shape.mk aK aW aH) (Vec.mk aX aY) (Vec.mk aU aV) aM aB aR aQ).At (Body.mk bI (Shape.mk bK bW bH) (Vec.mk bX bY) (Vec.mk bU bV) bM bB bR bQ).Shape (Body.mk bI (Shape.mk bK bW bH) (Vec.mk bX bY) (Vec.mk bU bV) bM bB bR bQ).At).1).Way.Y, .int .i64 ((touchAll (Body.mk aI (Shape.mk aK aW aH) (Vec.mk aX aY) (Vec.mk aU aV) aM aB aR aQ).Shape (Body.mk aI (Shape.mk aK aW aH) (Vec.mk aX aY) (Vec.mk aU aV) aM aB aR aQ).At (Body.mk bI (Shape.mk bK bW bH) (Vec.mk bX bY) (Vec.mk bU bV) bM bB bR bQ).Shape (Body.mk bI (Shape.mk bK bW bH) (Vec.mk bX bY) (Vec.mk bU bV) bM bB bR bQ).At).1).Deep], .bool ((touchAll (Body.mk aI (Shape.mk aK aW aH) (Vec.mk aX aY) (Vec.mk aU aV) aM aB aR aQ).Shape (Body.mk aI (Shape.mk aK aW aH) (Vec.mk aX aY) (Vec.mk aU aV) aM aB aR aQ).At (Body.mk bI (Shape.mk bK bW bH) (Vec.mk bX bY) (Vec.mk bU bV) bM bB bR bQ).Shape (Body.mk bI (Shape.mk bK bW bH) (Vec.mk bX bY) (Vec.mk bU bV) bM bB bR bQ).At).2)], [])
  | _, _ => none⟩

theorem vc_implBodyTouch (aI : Int) (aK : Int) (aW : Int) (aH : Int) (aX : Int) (aY : Int) (aU : Int) (aV : Int) (aM : Int) (aB : Int) (aR : Int) (aQ : Int) (bI : Int) (bK : Int) (bW : Int) (bH : Int) (bX : Int) (bY : Int) (bU : Int) (bV : Int) (bM : Int) (bB : Int) (bR : Int) (bQ : Int) (Q : SV → List Ent → Prop) :
    fnVC tt (look [(107, fs_implTouch)]) L0 Tryz.f65 [.agg [.int .i64 aI, .int .i64 aK, .int .i64 aW, .int .i64 aH, .int .i64 aX, .int .i64 aY, .int .i64 aU, .int .i64 aV, .int .i64 aM, .int .i64 aB, .int .i64 aR, .int .i64 aQ], .agg [.int .i64 bI, .int .i64 bK, .int .i64 bW, .int .i64 bH, .int .i64 bX, .int .i64 bY, .int .i64 bU, .int .i64 bV, .int .i64 bM, .int .i64 bB, .int .i64 bR, .int .i64 bQ]] [] Q =
    (Q (SV.tup [SV.agg [SV.int IntKind.i64 (Vec.X (Hit.Way (Prod.fst (touchAll (Shape.mk aK aW aH) (Vec.mk aX aY) (Shape.mk bK bW bH) (Vec.mk bX bY))))), SV.int IntKind.i64 (Vec.Y (Hit.Way (Prod.fst (touchAll (Shape.mk aK aW aH) (Vec.mk aX aY) (Shape.mk bK bW bH) (Vec.mk bX bY))))), SV.int IntKind.i64 (Hit.Deep (Prod.fst (touchAll (Shape.mk aK aW aH) (Vec.mk aX aY) (Shape.mk bK bW bH) (Vec.mk bX bY))))], SV.bool (Prod.snd (touchAll (Shape.mk aK aW aH) (Vec.mk aX aY) (Shape.mk bK bW bH) (Vec.mk bX bY)))]) []) := by kernel_rfl

theorem ok_implBodyTouch : FsOk Tryz.prog 65 fs_implBodyTouch := fsOk_of tt_ok (tabFs_cons ok_implTouch tabFs_nil) mixed Tryz.func65 (by kernel_rfl) (by kernel_rfl) (by
    intro args LL p r HH h hp
    unfold fs_implBodyTouch at h
    dsimp only at h
    split at h
    case h_2 => cases h
    rename_i aI aK aW aH aX aY aU aV aM aB aR aQ bI bK bW bH bX bY bU bV bM bB bR bQ
    simp only [Option.some.injEq, Prod.mk.injEq] at h
    obtain ⟨rfl, rfl, rfl⟩ := h
    refine ⟨by simp [Form, stays], L0, ?_⟩
    rw [vc_implBodyTouch]
    try dsimp only
    exact ⟨(by trivial), (by trivial)⟩)


noncomputable def touchB (a b : Body) : Hit × Bool := touchAll a.Shape a.At b.Shape b.At
noncomputable def conAt (xs : List Body) (i k : Nat) : List Contact :=
  bif (Ty.ix .body xs i).Mass == 0 && (Ty.ix .body xs k).Mass == 0 then [] else bif (touchB (Ty.ix .body xs i) (Ty.ix .body xs k)).2 then [⟨i, k, (touchB (Ty.ix .body xs i) (Ty.ix .body xs k)).1⟩] else []
/-- With the last m of a list. -/
noncomputable def conRow (xs : List Body) (i : Nat) : Nat → List Contact
  | 0 => []
  | m + 1 => conAt xs i (xs.length - (m + 1)) ++ conRow xs i m
noncomputable def conAll (xs : List Body) : Nat → List Contact
  | 0 => []
  | m + 1 => conRow xs (xs.length - (m + 1)) m ++ conAll xs m
noncomputable def contactsF (xs : List Body) : List Contact := conAll xs xs.length
noncomputable def contactsOf (xs : List Body) : List Contact := bif bodiesOk xs then contactsF xs else []
theorem length_conAt (xs : List Body) (i k : Nat) : (conAt xs i k).length ≤ 1 := by
  unfold conAt
  cases (Ty.ix .body xs i).Mass == 0 && (Ty.ix .body xs k).Mass == 0 <;> cases (touchB (Ty.ix .body xs i) (Ty.ix .body xs k)).2 <;> simp
theorem length_conRow (xs : List Body) (i : Nat) : ∀ m, (conRow xs i m).length ≤ m
  | 0 => by simp [conRow]
  | m + 1 => by
    have h1 := length_conAt xs i (xs.length - (m + 1))
    have h2 := length_conRow xs i m
    simp only [conRow, List.length_append]
    omega
theorem length_conAll (xs : List Body) : ∀ m, (conAll xs m).length ≤ m * m
  | 0 => by simp [conAll]
  | m + 1 => by
    have h1 := length_conRow xs (xs.length - (m + 1)) m
    have h2 := length_conAll xs m
    simp only [conAll, List.length_append, Nat.add_mul, Nat.mul_add, Nat.one_mul, Nat.mul_one]
    omega
theorem length_contactsF {xs : List Body} (h : xs.length ≤ 12) : (contactsF xs).length ≤ 144 := by
  have h1 := length_conAll xs xs.length
  have h2 : xs.length * xs.length ≤ 12 * 12 := Nat.mul_le_mul h h
  unfold contactsF
  omega
theorem length_contactsOf (xs : List Body) : (contactsOf xs).length ≤ 144 := by
  unfold contactsOf
  cases h : bodiesOk xs with
  | true => exact length_contactsF (bodiesOk_len h)
  | false => simp
theorem conRow_at {xs : List Body} {i k : Nat} (h : k < xs.length) : conRow xs i (xs.length - k) = conAt xs i k ++ conRow xs i (xs.length - (k + 1)) := by
  have e : xs.length - k = (xs.length - (k + 1)) + 1 := by omega
  rw [e, conRow]
  congr 2
  omega
theorem conAll_at {xs : List Body} {i : Nat} (h : i < xs.length) : conAll xs (xs.length - i) = conRow xs i (xs.length - (i + 1)) ++ conAll xs (xs.length - (i + 1)) := by
  have e : xs.length - i = (xs.length - (i + 1)) + 1 := by omega
  rw [e, conAll]
  congr 2
  omega
/-- One that touches. -/
def isCt (xs : List Body) (c : Contact) : Prop := ∃ i k : Nat, i < k ∧ k < xs.length ∧ c = ⟨i, k, (touchB (Ty.ix .body xs i) (Ty.ix .body xs k)).1⟩ ∧ (touchB (Ty.ix .body xs i) (Ty.ix .body xs k)).2 = true ∧ ¬ ((Ty.ix .body xs i).Mass = 0 ∧ (Ty.ix .body xs k).Mass = 0)
theorem mem_conAt {xs : List Body} {i k : Nat} {c : Contact} (h : c ∈ conAt xs i k) : c = ⟨i, k, (touchB (Ty.ix .body xs i) (Ty.ix .body xs k)).1⟩ ∧ (touchB (Ty.ix .body xs i) (Ty.ix .body xs k)).2 = true ∧ ¬ ((Ty.ix .body xs i).Mass = 0 ∧ (Ty.ix .body xs k).Mass = 0) := by
  unfold conAt at h
  cases q : (Ty.ix .body xs i).Mass == 0 && (Ty.ix .body xs k).Mass == 0 with
  | true => rw [q] at h; simp at h
  | false =>
    cases q2 : (touchB (Ty.ix .body xs i) (Ty.ix .body xs k)).2 with
    | true =>
      rw [q, q2] at h
      simp only [cond_true, cond_false, List.mem_singleton] at h
      refine ⟨h, rfl, fun e => ?_⟩
      rw [e.1, e.2] at q
      simp at q
    | false => rw [q, q2] at h; simp at h
theorem mem_conRow {xs : List Body} {i : Nat} {c : Contact} : ∀ {m : Nat}, i < xs.length - m → m ≤ xs.length → c ∈ conRow xs i m → isCt xs c
  | 0, _, _, h => by simp [conRow] at h
  | m + 1, hi, hm, h => by
    simp only [conRow, List.mem_append] at h
    rcases h with h | h
    · obtain ⟨h1, h2, h3⟩ := mem_conAt h
      exact ⟨i, xs.length - (m + 1), by omega, by omega, h1, h2, h3⟩
    · exact mem_conRow (by omega) (by omega) h
theorem mem_conAll {xs : List Body} {c : Contact} : ∀ {m : Nat}, m ≤ xs.length → c ∈ conAll xs m → isCt xs c
  | 0, _, h => by simp [conAll] at h
  | m + 1, hm, h => by
    simp only [conAll, List.mem_append] at h
    rcases h with h | h
    · exact mem_conRow (by omega) (by omega) h
    · exact mem_conAll (by omega) h
theorem mem_contactsF {xs : List Body} {c : Contact} (h : c ∈ contactsF xs) : isCt xs c := mem_conAll (Nat.le_refl _) h
theorem touch_ok {xs : List Body} (h : bodiesOk xs = true) {i k : Nat} (hi : i < xs.length) (hk : k < xs.length) : touchB (Ty.ix .body xs i) (Ty.ix .body xs k) = touchF (Ty.ix .body xs i).Shape (Ty.ix .body xs i).At (Ty.ix .body xs k).Shape (Ty.ix .body xs k).At ∧
    shapeOk (Ty.ix .body xs i).Shape = true ∧ placeOk (Ty.ix .body xs i).At = true ∧ shapeOk (Ty.ix .body xs k).Shape = true ∧ placeOk (Ty.ix .body xs k).At = true := by
  have h1 := bodiesOk_each h hi
  have h2 := bodiesOk_each h hk
  simp only [bodyOk, Bool.and_eq_true] at h1 h2
  have a1 := h1.1.1.1.1.1.1.1.2
  have a2 := h1.1.1.1.1.1.1.2
  have b1 := h2.1.1.1.1.1.1.1.2
  have b2 := h2.1.1.1.1.1.1.2
  exact ⟨by simp [touchB, touchAll, a1, a2, b1, b2], a1, a2, b1, b2⟩
theorem conAt_fix {xs : List Body} {i k : Nat} (h1 : ((Ty.ix .body xs i).Mass == 0) = true) (h2 : ((Ty.ix .body xs k).Mass == 0) = true) : conAt xs i k = [] := by
  simp only [conAt, h1, h2, Bool.and_self, cond_true]
theorem conAt_hit {xs : List Body} {i k : Int} (hi : 0 ≤ i) (hk : 0 ≤ k) (h1 : ((Ty.ix .body xs i.toNat).Mass == 0) = false ∨ ((Ty.ix .body xs k.toNat).Mass == 0) = false) (h2 : (touchB (Ty.ix .body xs i.toNat) (Ty.ix .body xs k.toNat)).2 = true) : conAt xs i.toNat k.toNat = [⟨i, k, (touchB (Ty.ix .body xs i.toNat) (Ty.ix .body xs k.toNat)).1⟩] := by
  have e : ((Ty.ix .body xs i.toNat).Mass == 0 && (Ty.ix .body xs k.toNat).Mass == 0) = false := by
    rcases h1 with h1 | h1 <;> simp [h1]
  simp only [conAt, e, h2, cond_true, cond_false, Int.toNat_of_nonneg hi, Int.toNat_of_nonneg hk]
theorem conAt_miss {xs : List Body} {i k : Nat} (h2 : (touchB (Ty.ix .body xs i) (Ty.ix .body xs k)).2 = false) : conAt xs i k = [] := by
  simp only [conAt, h2, cond_false]
  cases (Ty.ix .body xs i).Mass == 0 && (Ty.ix .body xs k).Mass == 0 <;> rfl
def LSsc1  : LS where
  S := List Body × Unit × List Contact × Int
  live := [(0, [none]), (3, [some .contact]), (4, [none])]
  shape := fun s => ([.vec 0, .vec 1, .int .i64 s.2.2.2], [(false, .vec .body s.1), (true, .vec .contact s.2.2.1)])
  get := fun v h => match v, h with
    | [.vec 0, .vec 1, .int .i64 i], [(false, .vec .body xs), (true, .vec .contact out)] => some (xs, (), out, i)
    | _, _ => none
  inv := fun s0 s => Holds (s.1 = s0.1 ∧ 0 ≤ s.2.2.2 ∧ s.2.2.2 ≤ s0.1.length ∧ s.2.2.1 ++ conAll s0.1 (s0.1.length - s.2.2.2.toNat) = conAll s0.1 s0.1.length)
  mu := fun s => ((s.1.length : Int) - s.2.2.2).toNat
  ok := by
    intro v h s hg
    try dsimp only at hg
    split at hg <;> cases hg
    rfl

def LSsc2  : LS where
  S := List Body × Unit × List Contact × Int × Int
  live := [(0, [none]), (3, [some .contact]), (4, [none]), (5, [none])]
  shape := fun s => ([.vec 0, .vec 1, .int .i64 s.2.2.2.1, .int .i64 s.2.2.2.2], [(false, .vec .body s.1), (true, .vec .contact s.2.2.1)])
  get := fun v h => match v, h with
    | [.vec 0, .vec 1, .int .i64 i, .int .i64 k], [(false, .vec .body xs), (true, .vec .contact out)] => some (xs, (), out, i, k)
    | _, _ => none
  inv := fun s0 s => Holds (s.1 = s0.1 ∧ s.2.2.2.1 = s0.2.2.2.1 ∧ s0.2.2.2.1 < s.2.2.2.2 ∧ s.2.2.2.2 ≤ s0.1.length ∧ s.2.2.1 ++ conRow s0.1 s0.2.2.2.1.toNat (s0.1.length - s.2.2.2.2.toNat) = s0.2.2.1 ++ conRow s0.1 s0.2.2.2.1.toNat (s0.1.length - s0.2.2.2.2.toNat))
  mu := fun s => ((s.1.length : Int) - s.2.2.2.2).toNat
  ok := by
    intro v h s hg
    try dsimp only at hg
    split at hg <;> cases hg
    rfl

def L_specCon : Loops := fun n => match n with
  | 3 => some LSsc1
  | 6 => some LSsc2
  | _ => none
noncomputable def fs_l7Contacts : Fs := ⟨[], fun args H => match args, H with
  | [.vec 0], [(false, .vec .body xs)] => some ((some (bodiesOk xs = true)), .vec 1, [(false, .vec .body xs), (true, .vec .contact (contactsF xs))])
  | _, _ => none⟩

theorem vc_l7Contacts (xs : List Body) (Q : SV → List Ent → Prop) :
    fnVC tt (look [(121, fs_l5Touch)]) (L_specCon) Tryz.f96 [.vec 0] [(false, .vec .body xs)] Q =
    (let w_ := IntKind.wrap IntKind.i64; let n_ := Int.toNat; Holds (xs = xs ∧ (0 : Int) ≤ (0 : Int) ∧ (0 : Int) ≤ (↑(List.length xs) : Int) ∧ [] ++ conAll xs (List.length xs - n_ (0 : Int)) = conAll xs (List.length xs)) ∧ ∀ (y12 : List Body × Unit × List Contact × Int), let y12f0_ := Prod.fst y12; let y12s1_ := Prod.snd y12; let y12s2_ := Prod.snd (Prod.snd y12); let y12f2_ := Prod.fst (Prod.snd (Prod.snd y12)); let y12s3_ := Prod.snd (Prod.snd (Prod.snd y12)); let A13_ := (List.length y12f0_ - n_ (w_ (Prod.snd y12s2_ + (1 : Int)))); Holds (Prod.fst y12 = xs ∧ (0 : Int) ≤ y12s3_ ∧ y12s3_ ≤ (↑(List.length xs) : Int) ∧ y12f2_ ++ conAll xs (List.length xs - n_ y12s3_) = conAll xs (List.length xs)) → ifB (decide (Prod.snd y12s2_ < (↑(List.length y12f0_) : Int))) (Holds (Prod.fst y12 = y12f0_ ∧ y12s3_ = y12s3_ ∧ y12s3_ < w_ (Prod.snd y12s2_ + (1 : Int)) ∧ w_ (Prod.snd y12s2_ + (1 : Int)) ≤ (↑(List.length y12f0_) : Int) ∧ y12f2_ ++ conRow y12f0_ (n_ y12s3_) A13_ = y12f2_ ++ conRow y12f0_ (n_ y12s3_) A13_) ∧ ∀ (y1 : List Body × Unit × List Contact × Int × Int), let y1f0_ := Prod.fst y1; let y1s1_ := Prod.snd y1; let y1f2_ := Prod.fst (Prod.snd (Prod.snd y1)); let y1s3_ := Prod.snd (Prod.snd (Prod.snd y1)); let y1f3_ := Prod.fst (Prod.snd (Prod.snd (Prod.snd y1))); let y1s4_ := Prod.snd (Prod.snd (Prod.snd (Prod.snd y1))); let A10_ := (↑(List.length y12f0_) : Int); let A9_ := (Ty.ix Ty.body y1f0_ (n_ y1s4_)); let A8_ := (Ty.ix Ty.body y1f0_ (n_ y1f3_)); let A6_ := (Prod.snd y1s3_ + (1 : Int)); let A7_ := (List.length y12f0_ - n_ (w_ A6_)); let A5_ := (n_ y12s3_); let A4_ := (↑(List.length y1f0_) : Int); let A11_ := (A4_ - w_ A6_); let A3_ := A13_; let A2_ := (touchF (Body.Shape A8_) (Body.At A8_) (Body.Shape A9_) (Body.At A9_)); Holds (Prod.fst y1 = y12f0_ ∧ y1f3_ = y12s3_ ∧ y12s3_ < y1s4_ ∧ y1s4_ ≤ A10_ ∧ y1f2_ ++ conRow y12f0_ A5_ (List.length y12f0_ - n_ y1s4_) = y12f2_ ++ conRow y12f0_ A5_ A3_) → ifB (decide (Prod.snd y1s3_ < A4_)) (((0 : Int) ≤ y1f3_ ∧ y1f3_ < A4_) ∧ ifB (Body.Mass A8_ == (0 : Int)) (((0 : Int) ≤ y1s4_ ∧ y1s4_ < A4_) ∧ ifB (Body.Mass A9_ == (0 : Int)) (Holds (Prod.fst y1 = y12f0_ ∧ y1f3_ = y12s3_ ∧ y12s3_ < w_ A6_ ∧ w_ A6_ ≤ A10_ ∧ y1f2_ ++ conRow y12f0_ A5_ A7_ = y12f2_ ++ conRow y12f0_ A5_ A3_) ∧ n_ A11_ < n_ (A4_ - y1s4_)) (((0 : Int) ≤ y1f3_ ∧ y1f3_ < A4_) ∧ ((0 : Int) ≤ y1f3_ ∧ y1f3_ < A4_) ∧ ((0 : Int) ≤ y1s4_ ∧ y1s4_ < A4_) ∧ ((0 : Int) ≤ y1s4_ ∧ y1s4_ < A4_) ∧ (shapeOk (Body.Shape A8_) = true ∧ placeOk (Body.At A8_) = true ∧ shapeOk (Body.Shape A9_) = true ∧ placeOk (Body.At A9_) = true) ∧ ifB (Prod.snd A2_) ((List.length y1f2_ + List.length [Contact.mk y1f3_ y1s4_ (Prod.fst A2_)]) * (40 : Nat) ≤ room ∧ Holds (Prod.fst y1 = y12f0_ ∧ y1f3_ = y12s3_ ∧ y12s3_ < w_ A6_ ∧ w_ A6_ ≤ A10_ ∧ y1f2_ ++ [Contact.mk y1f3_ y1s4_ (Prod.fst A2_)] ++ conRow y12f0_ A5_ A7_ = y12f2_ ++ conRow y12f0_ A5_ A3_) ∧ n_ A11_ < n_ (A4_ - y1s4_)) (Holds (Prod.fst y1 = y12f0_ ∧ y1f3_ = y12s3_ ∧ y12s3_ < w_ A6_ ∧ w_ A6_ ≤ A10_ ∧ y1f2_ ++ conRow y12f0_ A5_ A7_ = y12f2_ ++ conRow y12f0_ A5_ A3_) ∧ n_ A11_ < n_ (A4_ - y1s4_)))) (((0 : Int) ≤ y1f3_ ∧ y1f3_ < A4_) ∧ ((0 : Int) ≤ y1f3_ ∧ y1f3_ < A4_) ∧ ((0 : Int) ≤ y1s4_ ∧ y1s4_ < A4_) ∧ ((0 : Int) ≤ y1s4_ ∧ y1s4_ < A4_) ∧ (shapeOk (Body.Shape A8_) = true ∧ placeOk (Body.At A8_) = true ∧ shapeOk (Body.Shape A9_) = true ∧ placeOk (Body.At A9_) = true) ∧ ifB (Prod.snd A2_) ((List.length y1f2_ + List.length [Contact.mk y1f3_ y1s4_ (Prod.fst A2_)]) * (40 : Nat) ≤ room ∧ Holds (Prod.fst y1 = y12f0_ ∧ y1f3_ = y12s3_ ∧ y12s3_ < w_ A6_ ∧ w_ A6_ ≤ A10_ ∧ y1f2_ ++ [Contact.mk y1f3_ y1s4_ (Prod.fst A2_)] ++ conRow y12f0_ A5_ A7_ = y12f2_ ++ conRow y12f0_ A5_ A3_) ∧ n_ A11_ < n_ (A4_ - y1s4_)) (Holds (Prod.fst y1 = y12f0_ ∧ y1f3_ = y12s3_ ∧ y12s3_ < w_ A6_ ∧ w_ A6_ ≤ A10_ ∧ y1f2_ ++ conRow y12f0_ A5_ A7_ = y12f2_ ++ conRow y12f0_ A5_ A3_) ∧ n_ A11_ < n_ (A4_ - y1s4_)))) (Holds (Prod.fst y1 = xs ∧ (0 : Int) ≤ w_ (Prod.fst y1s3_ + (1 : Int)) ∧ w_ (Prod.fst y1s3_ + (1 : Int)) ≤ (↑(List.length xs) : Int) ∧ y1f2_ ++ conAll xs (List.length xs - n_ (w_ (Prod.fst y1s3_ + (1 : Int)))) = conAll xs (List.length xs)) ∧ n_ (A4_ - w_ (Prod.fst y1s3_ + (1 : Int))) < n_ (A10_ - y12s3_))) (Q (SV.vec (1 : Nat)) [(false, Blk.vec Ty.body y12f0_), (true, Blk.vec Ty.contact y12f2_)])) := by kernel_rfl

theorem ok_l7Contacts : FsOk Tryz.prog 96 fs_l7Contacts := fsOk_of tt_ok (tabFs_cons ok_l5Touch tabFs_nil) mixed Tryz.func96 (by kernel_rfl) (by kernel_rfl) (by
    intro args LL p r HH h hp
    unfold fs_l7Contacts at h
    dsimp only at h
    split at h
    case h_2 => cases h
    rename_i xs
    simp only [Option.some.injEq, Prod.mk.injEq] at h
    obtain ⟨rfl, rfl, rfl⟩ := h
    refine ⟨by simp [Form, stays], (L_specCon), ?_⟩
    rw [vc_l7Contacts]
    try dsimp only
    have hok := hp _ rfl
    have hl := bodiesOk_len hok
    have hq := length_contactsF hl
    unfold contactsF at hq
    refine ⟨⟨(by trivial), by omega, by omega, rfl⟩, ?_⟩
    rintro ⟨xs', u, out, i⟩ ⟨h⟩
    dsimp only at h ⊢
    obtain ⟨rfl, h0, h1, h2⟩ := h
    refine ifB_of (fun c1 => ?_) (fun c1 => ?_)
    · have hi := of_decide_eq_true c1
      have e1 : (i + 1).toNat = i.toNat + 1 := by omega
      have hs2 := congrArg List.length h2
      rw [conAll_at (show i.toNat < xs'.length by omega)] at h2 hs2
      simp only [List.length_append] at hs2
      have hw : IntKind.i64.wrap (i + 1) = i + 1 := wrap_small (by omega) (by omega)
      rw [hw]
      refine ⟨⟨(by trivial), (by trivial), by omega, by omega, (by trivial)⟩, ?_⟩
      rintro ⟨xs'', u', out', i', k⟩ ⟨h⟩
      dsimp only at h ⊢
      obtain ⟨rfl, rfl, g1, g2, g3⟩ := h
      have hs3 := congrArg List.length g3
      rw [e1] at g3 hs3
      simp only [List.length_append] at hs3
      refine ifB_of (fun c2 => ?_) (fun c2 => ?_)
      · have hk := of_decide_eq_true c2
        have e2 : (k + 1).toNat = k.toNat + 1 := by omega
        rw [conRow_at (show k.toNat < xs''.length by omega)] at g3
        have ht := touch_ok hok (i := i'.toNat) (k := k.toNat) (by omega) (by omega)
        rw [← ht.1]
        have hI : 0 ≤ i' ∧ i' < ↑xs''.length := ⟨by omega, by omega⟩
        have hK : 0 ≤ k ∧ k < ↑xs''.length := ⟨by omega, by omega⟩
        have hw2 : IntKind.i64.wrap (k + 1) = k + 1 := wrap_small (by omega) (by omega)
        rw [hw2, e1, e2]
        have fin : ∀ {u : List Contact}, conAt xs'' i'.toNat k.toNat = u → (Holds (xs'' = xs'' ∧ i' = i' ∧ i' < k + 1 ∧ k + 1 ≤ ↑xs''.length ∧ out' ++ u ++ conRow xs'' i'.toNat (xs''.length - (k.toNat + 1)) = out ++ conRow xs'' i'.toNat (xs''.length - (i'.toNat + 1))) ∧ (↑xs''.length - (k + 1)).toNat < (↑xs''.length - k).toNat) := by
          rintro u rfl
          exact ⟨⟨rfl, rfl, by omega, by omega, by rw [← g3, List.append_assoc]⟩, by omega⟩
        have fin0 := @fin []
        rw [List.append_nil] at fin0
        refine ⟨hI, ifB_of (fun c3 => ⟨hK, ifB_of (fun c4 => fin0 (conAt_fix c3 c4)) (fun c4 => ?_)⟩) (fun c3 => ?_)⟩
        · refine ⟨hI, hI, hK, hK, ht.2, ifB_of (fun c5 => ?_) (fun c5 => fin0 (conAt_miss c5))⟩
          exact ⟨by simp only [room, List.length_singleton]; omega, fin (conAt_hit hI.1 hK.1 (.inr c4) c5)⟩
        · refine ⟨hI, hI, hK, hK, ht.2, ifB_of (fun c5 => ?_) (fun c5 => fin0 (conAt_miss c5))⟩
          exact ⟨by simp only [room, List.length_singleton]; omega, fin (conAt_hit hI.1 hK.1 (.inl c3) c5)⟩
      · have hk := of_decide_eq_false c2
        simp (disch := omega) only [wrap_small, e1]
        have e3 : xs''.length - k.toNat = 0 := by omega
        rw [e3] at g3
        refine ⟨⟨(by trivial), by omega, by omega, ?_⟩, by omega⟩
        rw [← h2, ← List.append_assoc, ← g3]
        simp [conRow]
    · have hi := of_decide_eq_false c1
      have e3 : xs'.length - i.toNat = 0 := by omega
      rw [e3] at h2
      simp only [conAll, List.append_nil] at h2
      rw [h2]
      exact ⟨(by trivial), (by trivial)⟩)

def LSic1  : LS where
  S := List Body × Unit × List Contact × Unit × Int × Int
  live := [(0, [none]), (3, [some .contact]), (12, [none]), (13, [none]), (14, [none])]
  shape := fun s => ([.vec 0, .vec 1, .vec 0, .int .i64 s.2.2.2.2.1, .int .i64 s.2.2.2.2.2], [(false, .vec .body s.1), (true, .vec .contact s.2.2.1)])
  get := fun v h => match v, h with
    | [.vec 0, .vec 1, .vec 0, .int .i64 n, .int .i64 i], [(false, .vec .body xs), (true, .vec .contact out)] => some (xs, (), out, (), n, i)
    | _, _ => none
  inv := fun s0 s => Holds (s.1 = s0.1 ∧ s.2.2.2.2.1 = s0.1.length ∧ 0 ≤ s.2.2.2.2.2 ∧ s.2.2.2.2.2 ≤ s0.1.length ∧ s.2.2.1 ++ conAll s0.1 (s0.1.length - s.2.2.2.2.2.toNat) = conAll s0.1 s0.1.length)
  mu := fun s => ((s.1.length : Int) - s.2.2.2.2.2).toNat
  ok := by
    intro v h s hg
    try dsimp only at hg
    split at hg <;> cases hg
    rfl

def LSic2  : LS where
  S := List Body × Unit × List Contact × Int × Body × Int × Unit × Int × Int
  live := [(0, [none]), (3, [some .contact]), (4, [none]), (5, [none]), (6, [none]), (12, [none]), (13, [none]), (14, [none])]
  shape := fun s => ([.vec 0, .vec 1, .int .i64 s.2.2.2.1, .ptr 2 0 0, .int .i64 s.2.2.2.2.2.1, .vec 0, .int .i64 s.2.2.2.2.2.2.2.1, .int .i64 s.2.2.2.2.2.2.2.2], [(false, .vec .body s.1), (true, .vec .contact s.2.2.1), (true, .box [.int .i64 s.2.2.2.2.1.Id, .int .i64 s.2.2.2.2.1.Shape.Kind, .int .i64 s.2.2.2.2.1.Shape.Wide, .int .i64 s.2.2.2.2.1.Shape.High, .int .i64 s.2.2.2.2.1.At.X, .int .i64 s.2.2.2.2.1.At.Y, .int .i64 s.2.2.2.2.1.Drive.X, .int .i64 s.2.2.2.2.1.Drive.Y, .int .i64 s.2.2.2.2.1.Mass, .int .i64 s.2.2.2.2.1.Bounce, .int .i64 s.2.2.2.2.1.Rub, .int .i64 s.2.2.2.2.1.Quiet])])
  get := fun v h => match v, h with
    | [.vec 0, .vec 1, .int .i64 i, .ptr 2 0 0, .int .i64 k, .vec 0, .int .i64 n, .int .i64 j], [(false, .vec .body xs), (true, .vec .contact out), (true, .box [.int .i64 bI, .int .i64 bK, .int .i64 bW, .int .i64 bH, .int .i64 bX, .int .i64 bY, .int .i64 bU, .int .i64 bV, .int .i64 bM, .int .i64 bB, .int .i64 bR, .int .i64 bQ])] => some (xs, (), out, i, (Body.mk bI (Shape.mk bK bW bH) (Vec.mk bX bY) (Vec.mk bU bV) bM bB bR bQ), k, (), n, j)
    | _, _ => none
  inv := fun s0 s => Holds (s.1 = s0.1 ∧ s.2.2.2.1 = s0.2.2.2.1 ∧ s.2.2.2.2.1 = s0.2.2.2.2.1 ∧ s.2.2.2.2.2.2.2.1 = s0.2.2.2.2.2.2.2.1 ∧ s.2.2.2.2.2.2.2.2 = s0.2.2.2.2.2.2.2.2 ∧ s0.2.2.2.1 < s.2.2.2.2.2.1 ∧ s.2.2.2.2.2.1 ≤ s0.1.length ∧ s.2.2.1 ++ conRow s0.1 s0.2.2.2.1.toNat (s0.1.length - s.2.2.2.2.2.1.toNat) = s0.2.2.1 ++ conRow s0.1 s0.2.2.2.1.toNat (s0.1.length - s0.2.2.2.2.2.1.toNat))
  mu := fun s => ((s.1.length : Int) - s.2.2.2.2.2.1).toNat
  ok := by
    intro v h s hg
    try dsimp only at hg
    split at hg <;> cases hg
    rfl

def L_implCon : Loops := fun n => match n with
  | 5 => some LSic1
  | 8 => some LSic2
  | _ => none
noncomputable def fs_implContacts : Fs := ⟨[], fun args H => match args, H with
  | [.vec 0], [(false, .vec .body xs)] => some ((some (xs.length ≤ 1048576)), .vec 1, [(false, .vec .body xs), (true, .vec .contact (contactsOf xs))])
  | _, _ => none⟩

theorem vc_implContacts (xs : List Body) (Q : SV → List Ent → Prop) :
    fnVC tt (look [(47, fs_implBodiesOk), (64, fs_bodyFixed), (65, fs_implBodyTouch)]) (L_implCon) Tryz.f21 [.vec 0] [(false, .vec .body xs)] Q =
    (let w_ := IntKind.wrap IntKind.i64; let n_ := Int.toNat; let ib_ := Ty.ix Ty.body; List.length xs ≤ (4611686018427387904 : Nat) ∧ ifB (!bodiesOk xs) (Q (SV.vec (1 : Nat)) [(false, Blk.vec Ty.body xs), (true, Blk.vec Ty.contact [])]) (Holds (xs = xs ∧ (↑(List.length xs) : Int) = (↑(List.length xs) : Int) ∧ (0 : Int) ≤ (0 : Int) ∧ (0 : Int) ≤ (↑(List.length xs) : Int) ∧ [] ++ conAll xs (List.length xs - n_ (0 : Int)) = conAll xs (List.length xs)) ∧ ∀ (y11 : List Body × Unit × List Contact × Unit × Int × Int), let y11f0_ := Prod.fst y11; let y11s1_ := Prod.snd y11; let y11f2_ := Prod.fst (Prod.snd (Prod.snd y11)); let y11s4_ := Prod.snd (Prod.snd (Prod.snd (Prod.snd y11))); let y11f4_ := Prod.fst (Prod.snd (Prod.snd (Prod.snd (Prod.snd y11)))); let y11s5_ := Prod.snd (Prod.snd (Prod.snd (Prod.snd (Prod.snd y11)))); Holds (Prod.fst y11 = xs ∧ y11f4_ = (↑(List.length xs) : Int) ∧ (0 : Int) ≤ y11s5_ ∧ y11s5_ ≤ (↑(List.length xs) : Int) ∧ y11f2_ ++ conAll xs (List.length xs - n_ y11s5_) = conAll xs (List.length xs)) → ifB (decide (Prod.snd y11s4_ < y11f4_)) (((0 : Int) ≤ y11s5_ ∧ y11s5_ < (↑(List.length y11f0_) : Int)) ∧ Holds (Prod.fst y11 = y11f0_ ∧ y11s5_ = y11s5_ ∧ ib_ y11f0_ (n_ y11s5_) = ib_ y11f0_ (n_ y11s5_) ∧ y11f4_ = y11f4_ ∧ y11s5_ = y11s5_ ∧ y11s5_ < w_ (Prod.snd y11s4_ + (1 : Int)) ∧ w_ (Prod.snd y11s4_ + (1 : Int)) ≤ (↑(List.length y11f0_) : Int) ∧ y11f2_ ++ conRow y11f0_ (n_ y11s5_) (List.length y11f0_ - n_ (w_ (Prod.snd y11s4_ + (1 : Int)))) = y11f2_ ++ conRow y11f0_ (n_ y11s5_) (List.length y11f0_ - n_ (w_ (Prod.snd y11s4_ + (1 : Int))))) ∧ ∀ (y1 : List Body × Unit × List Contact × Int × Body × Int × Unit × Int × Int), let y1f0_ := Prod.fst y1; let y1s1_ := Prod.snd y1; let y1f2_ := Prod.fst (Prod.snd (Prod.snd y1)); let y1f3_ := Prod.fst (Prod.snd (Prod.snd (Prod.snd y1))); let y1f4_ := Prod.fst (Prod.snd (Prod.snd (Prod.snd (Prod.snd y1)))); let y1s5_ := Prod.snd (Prod.snd (Prod.snd (Prod.snd (Prod.snd y1)))); let y1f5_ := Prod.fst (Prod.snd (Prod.snd (Prod.snd (Prod.snd (Prod.snd y1))))); let y1s7_ := Prod.snd (Prod.snd (Prod.snd (Prod.snd (Prod.snd (Prod.snd (Prod.snd y1)))))); let y1f7_ := Prod.fst (Prod.snd (Prod.snd (Prod.snd (Prod.snd (Prod.snd (Prod.snd (Prod.snd y1))))))); let y1s8_ := Prod.snd (Prod.snd (Prod.snd (Prod.snd (Prod.snd (Prod.snd (Prod.snd (Prod.snd y1))))))); let A9_ := (↑(List.length y11f0_) : Int); let A7_ := (↑(List.length y1f0_) : Int); let A4_ := (Prod.fst y1s5_ + (1 : Int)); let A10_ := (A7_ - w_ A4_); let A8_ := (List.length y11f0_ - n_ (w_ A4_)); let A3_ := (touchAll (Body.Shape y1f4_) (Body.At y1f4_) (Body.Shape (ib_ y1f0_ (n_ y1f5_))) (Body.At (ib_ y1f0_ (n_ y1f5_)))); let A2_ := y11s4_; let A6_ := (n_ (Prod.snd A2_)); let A5_ := (List.length y11f0_ - n_ (w_ (Prod.snd A2_ + (1 : Int)))); Holds (Prod.fst y1 = y11f0_ ∧ y1f3_ = Prod.snd A2_ ∧ y1f4_ = ib_ y11f0_ A6_ ∧ y1f7_ = Prod.fst A2_ ∧ y1s8_ = Prod.snd A2_ ∧ Prod.snd A2_ < y1f5_ ∧ y1f5_ ≤ A9_ ∧ y1f2_ ++ conRow y11f0_ A6_ (List.length y11f0_ - n_ y1f5_) = y11f2_ ++ conRow y11f0_ A6_ A5_) → ifB (decide (Prod.fst y1s5_ < A7_)) (ifB (Body.Mass y1f4_ == (0 : Int)) (((0 : Int) ≤ y1f5_ ∧ y1f5_ < A7_) ∧ ifB (Body.Mass (ib_ y1f0_ (n_ y1f5_)) == (0 : Int)) (Holds (Prod.fst y1 = y11f0_ ∧ y1f3_ = Prod.snd A2_ ∧ y1f4_ = ib_ y11f0_ A6_ ∧ y1f7_ = Prod.fst A2_ ∧ y1s8_ = Prod.snd A2_ ∧ Prod.snd A2_ < w_ A4_ ∧ w_ A4_ ≤ A9_ ∧ y1f2_ ++ conRow y11f0_ A6_ A8_ = y11f2_ ++ conRow y11f0_ A6_ A5_) ∧ n_ A10_ < n_ (A7_ - y1f5_)) (((0 : Int) ≤ y1f5_ ∧ y1f5_ < A7_) ∧ ifB (Prod.snd A3_) ((List.length y1f2_ + List.length [Contact.mk y1f3_ y1f5_ (Prod.fst A3_)]) * (40 : Nat) ≤ room ∧ Holds (Prod.fst y1 = y11f0_ ∧ y1f3_ = Prod.snd A2_ ∧ y1f4_ = ib_ y11f0_ A6_ ∧ y1f7_ = Prod.fst A2_ ∧ y1s8_ = Prod.snd A2_ ∧ Prod.snd A2_ < w_ A4_ ∧ w_ A4_ ≤ A9_ ∧ y1f2_ ++ [Contact.mk y1f3_ y1f5_ (Prod.fst A3_)] ++ conRow y11f0_ A6_ A8_ = y11f2_ ++ conRow y11f0_ A6_ A5_) ∧ n_ A10_ < n_ (A7_ - y1f5_)) (Holds (Prod.fst y1 = y11f0_ ∧ y1f3_ = Prod.snd A2_ ∧ y1f4_ = ib_ y11f0_ A6_ ∧ y1f7_ = Prod.fst A2_ ∧ y1s8_ = Prod.snd A2_ ∧ Prod.snd A2_ < w_ A4_ ∧ w_ A4_ ≤ A9_ ∧ y1f2_ ++ conRow y11f0_ A6_ A8_ = y11f2_ ++ conRow y11f0_ A6_ A5_) ∧ n_ A10_ < n_ (A7_ - y1f5_)))) (((0 : Int) ≤ y1f5_ ∧ y1f5_ < A7_) ∧ ifB (Prod.snd A3_) ((List.length y1f2_ + List.length [Contact.mk y1f3_ y1f5_ (Prod.fst A3_)]) * (40 : Nat) ≤ room ∧ Holds (Prod.fst y1 = y11f0_ ∧ y1f3_ = Prod.snd A2_ ∧ y1f4_ = ib_ y11f0_ A6_ ∧ y1f7_ = Prod.fst A2_ ∧ y1s8_ = Prod.snd A2_ ∧ Prod.snd A2_ < w_ A4_ ∧ w_ A4_ ≤ A9_ ∧ y1f2_ ++ [Contact.mk y1f3_ y1f5_ (Prod.fst A3_)] ++ conRow y11f0_ A6_ A8_ = y11f2_ ++ conRow y11f0_ A6_ A5_) ∧ n_ A10_ < n_ (A7_ - y1f5_)) (Holds (Prod.fst y1 = y11f0_ ∧ y1f3_ = Prod.snd A2_ ∧ y1f4_ = ib_ y11f0_ A6_ ∧ y1f7_ = Prod.fst A2_ ∧ y1s8_ = Prod.snd A2_ ∧ Prod.snd A2_ < w_ A4_ ∧ w_ A4_ ≤ A9_ ∧ y1f2_ ++ conRow y11f0_ A6_ A8_ = y11f2_ ++ conRow y11f0_ A6_ A5_) ∧ n_ A10_ < n_ (A7_ - y1f5_)))) (Holds (Prod.fst y1 = xs ∧ y1f7_ = (↑(List.length xs) : Int) ∧ (0 : Int) ≤ w_ (Prod.snd y1s7_ + (1 : Int)) ∧ w_ (Prod.snd y1s7_ + (1 : Int)) ≤ (↑(List.length xs) : Int) ∧ y1f2_ ++ conAll xs (List.length xs - n_ (w_ (Prod.snd y1s7_ + (1 : Int)))) = conAll xs (List.length xs)) ∧ n_ (A7_ - w_ (Prod.snd y1s7_ + (1 : Int))) < n_ (A9_ - Prod.snd A2_))) (Q (SV.vec (1 : Nat)) [(false, Blk.vec Ty.body y11f0_), (true, Blk.vec Ty.contact y11f2_)]))) := by kernel_rfl

theorem ok_implContacts : FsOk Tryz.prog 21 fs_implContacts := fsOk_of tt_ok (tabFs_cons ok_implBodiesOk (tabFs_cons ok_bodyFixed (tabFs_cons ok_implBodyTouch tabFs_nil))) mixed Tryz.func21 (by kernel_rfl) (by kernel_rfl) (by
    intro args LL p r HH h hp
    unfold fs_implContacts at h
    dsimp only at h
    split at h
    case h_2 => cases h
    rename_i xs
    simp only [Option.some.injEq, Prod.mk.injEq] at h
    obtain ⟨rfl, rfl, rfl⟩ := h
    refine ⟨by simp [Form, stays], (L_implCon), ?_⟩
    rw [vc_implContacts]
    try dsimp only
    have hb := hp _ rfl
    refine ⟨by omega, ifB_of (fun c1 => ?_) (fun c1 => ?_)⟩
    · simp [contactsOf, not_true c1]
    have hok := not_false c1
    have hl := bodiesOk_len hok
    have hq := length_contactsF hl
    unfold contactsF at hq
    simp only [contactsOf, hok, cond_true]
    refine ⟨⟨(by trivial), (by trivial), by omega, by omega, (by trivial)⟩, ?_⟩
    rintro ⟨xs', u, out, v, n, i⟩ ⟨h⟩
    dsimp only at h ⊢
    obtain ⟨rfl, rfl, h0, h1, h2⟩ := h
    refine ifB_of (fun c1 => ?_) (fun c1 => ?_)
    · have hi := of_decide_eq_true c1
      have e1 : (i + 1).toNat = i.toNat + 1 := by omega
      have hs2 := congrArg List.length h2
      rw [conAll_at (show i.toNat < xs'.length by omega)] at h2 hs2
      simp only [List.length_append] at hs2
      have hw : IntKind.i64.wrap (i + 1) = i + 1 := wrap_small (by omega) (by omega)
      rw [hw]
      refine ⟨⟨by omega, hi⟩, ⟨(by trivial), (by trivial), (by trivial), (by trivial), (by trivial), by omega, by omega, (by trivial)⟩, ?_⟩
      rintro ⟨xs'', u', out', i', b, k, v', n', j⟩ ⟨h⟩
      dsimp only at h ⊢
      obtain ⟨rfl, rfl, rfl, rfl, rfl, g1, g2, g3⟩ := h
      have hs3 := congrArg List.length g3
      rw [e1] at g3 hs3
      simp only [List.length_append] at hs3
      refine ifB_of (fun c2 => ?_) (fun c2 => ?_)
      · have hk := of_decide_eq_true c2
        have e2 : (k + 1).toNat = k.toNat + 1 := by omega
        rw [conRow_at (show k.toNat < xs''.length by omega)] at g3
        have hK : 0 ≤ k ∧ k < ↑xs''.length := ⟨by omega, by omega⟩
        have hw2 : IntKind.i64.wrap (k + 1) = k + 1 := wrap_small (by omega) (by omega)
        rw [hw2, e1, e2]
        have fin : ∀ {u : List Contact}, conAt xs'' j.toNat k.toNat = u → (Holds (xs'' = xs'' ∧ j = j ∧ Ty.ix .body xs'' j.toNat = Ty.ix .body xs'' j.toNat ∧ (xs''.length : Int) = xs''.length ∧ j = j ∧ j < k + 1 ∧ k + 1 ≤ ↑xs''.length ∧ out' ++ u ++ conRow xs'' j.toNat (xs''.length - (k.toNat + 1)) = out ++ conRow xs'' j.toNat (xs''.length - (j.toNat + 1))) ∧ (↑xs''.length - (k + 1)).toNat < (↑xs''.length - k).toNat) := by
          rintro u rfl
          exact ⟨⟨rfl, rfl, rfl, rfl, rfl, by omega, by omega, by rw [← g3, List.append_assoc]⟩, by omega⟩
        have fin0 := @fin []
        rw [List.append_nil] at fin0
        refine ifB_of (fun c3 => ⟨hK, ifB_of (fun c4 => fin0 (conAt_fix c3 c4)) (fun c4 => ?_)⟩) (fun c3 => ?_)
        · refine ⟨hK, ifB_of (fun c5 => ?_) (fun c5 => fin0 (conAt_miss c5))⟩
          exact ⟨by simp only [room, List.length_singleton]; omega, fin (conAt_hit h0 hK.1 (.inr c4) c5)⟩
        · refine ⟨hK, ifB_of (fun c5 => ?_) (fun c5 => fin0 (conAt_miss c5))⟩
          exact ⟨by simp only [room, List.length_singleton]; omega, fin (conAt_hit h0 hK.1 (.inl c3) c5)⟩
      · have hk := of_decide_eq_false c2
        simp (disch := omega) only [wrap_small, e1]
        have e3 : xs''.length - k.toNat = 0 := by omega
        rw [e3] at g3
        refine ⟨⟨(by trivial), (by trivial), by omega, by omega, ?_⟩, by omega⟩
        rw [← h2, ← List.append_assoc, ← g3]
        simp [conRow]
    · have hi := of_decide_eq_false c1
      have e3 : xs'.length - i.toNat = 0 := by omega
      rw [e3] at h2
      simp only [conAll, List.append_nil] at h2
      rw [h2]
      exact ⟨(by trivial), (by trivial)⟩)

end Go.Proofs.YtnahfbjdicjdpaaGreat.Sym

namespace Go.Proofs.YtnahfbjdicjdpaaGreat.Grp
set_option linter.unusedVariables false
set_option linter.unusedSimpArgs false

abbrev Edge := Nat × Nat
def upd (f : Nat → Int) (a : Nat) (g : Int) : Nat → Int := fun i => if i = a then g else f i
def relax (f : Nat → Int) (e : Edge) : Nat → Int := upd (upd f e.1 (min (f e.1) (f e.2))) e.2 (min (f e.1) (f e.2))
def round (E : List Edge) (f : Nat → Int) : Nat → Int := E.foldl relax f
def rounds (E : List Edge) : Nat → (Nat → Int) → (Nat → Int)
  | 0, f => f
  | n + 1, f => rounds E n (round E f)
theorem rounds_succ (E : List Edge) : ∀ (n : Nat) (f : Nat → Int), rounds E (n + 1) f = round E (rounds E n f)
  | 0, f => rfl
  | n + 1, f => rounds_succ E n (round E f)
def closed (E : List Edge) (C : Nat → Prop) : Prop := ∀ e, e ∈ E → (C e.1 ↔ C e.2)
def conn (E : List Edge) (i j : Nat) : Prop := ∀ C, closed E C → C i → C j
theorem conn_refl {E : List Edge} (i : Nat) : conn E i i := fun _ _ h => h
theorem conn_trans {E : List Edge} {i j k : Nat} (h : conn E i j) (g : conn E j k) : conn E i k := fun C hC hi => g C hC (h C hC hi)
theorem conn_symm {E : List Edge} {i j : Nat} (h : conn E i j) : conn E j i := fun C hC hj => Classical.byContradiction fun hi => h (fun x => ¬ C x) (fun e he => not_congr (hC e he)) hi hj
theorem conn_edge {E : List Edge} {e : Edge} (h : e ∈ E) : conn E e.1 e.2 := fun _ hC h1 => (hC e h).1 h1
theorem cm_ex (E : List Edge) (i : Nat) : ∃ m, conn E i m ∧ ∀ j, conn E i j → m ≤ j := by
  refine Classical.byContradiction fun hn => ?_
  have : ∀ k, ¬ conn E i k := by
    intro k
    induction k using Nat.strongRecOn with
    | ind k ih =>
      intro hk
      exact hn ⟨k, hk, fun j hj => Nat.le_of_not_lt fun hlt => ih j hlt hj⟩
  exact this i (conn_refl i)
noncomputable def cm (E : List Edge) (i : Nat) : Nat := Classical.choose (cm_ex E i)
theorem cm_conn (E : List Edge) (i : Nat) : conn E i (cm E i) := (Classical.choose_spec (cm_ex E i)).1
theorem cm_least {E : List Edge} {i j : Nat} (h : conn E i j) : cm E i ≤ j := (Classical.choose_spec (cm_ex E i)).2 j h
theorem cm_le (E : List Edge) (i : Nat) : cm E i ≤ i := cm_least (conn_refl i)
theorem cm_eq {E : List Edge} {i j : Nat} (h : conn E i j) : cm E i = cm E j :=
  Nat.le_antisymm (cm_least (conn_trans h (cm_conn E j))) (cm_least (conn_trans (conn_symm h) (cm_conn E i)))
theorem cm_cm (E : List Edge) (i : Nat) : cm E (cm E i) = cm E i := (cm_eq (cm_conn E i)).symm
/-- Labels of one's own part, none behind one. -/
def Lab (E : List Edge) (f : Nat → Int) : Prop := ∀ i, ∃ j : Nat, f i = j ∧ conn E i j ∧ j ≤ i
def set (E : List Edge) (f : Nat → Int) (i : Nat) : Prop := f i = cm E i
theorem lab_ge {E : List Edge} {f : Nat → Int} (h : Lab E f) (i : Nat) : (cm E i : Int) ≤ f i := by
  obtain ⟨j, h1, h2, _⟩ := h i
  have := cm_least h2
  omega
theorem lab_id (E : List Edge) : Lab E (fun i => i) := fun i => ⟨i, rfl, conn_refl i, Nat.le_refl _⟩
theorem relax_at (f : Nat → Int) (e : Edge) (i : Nat) : relax f e i = if i = e.2 ∨ i = e.1 then min (f e.1) (f e.2) else f i := by
  unfold relax upd
  by_cases h : i = e.2 <;> by_cases g : i = e.1 <;> simp [h, g]
theorem relax_lab {E : List Edge} {f : Nat → Int} {e : Edge} (he : e ∈ E) (h : Lab E f) : Lab E (relax f e) := by
  intro i
  rw [relax_at]
  obtain ⟨a, a1, a2, a3⟩ := h e.1
  obtain ⟨b, b1, b2, b3⟩ := h e.2
  split
  · rename_i q
    by_cases hab : a ≤ b
    · refine ⟨a, by rw [a1, b1]; omega, ?_, ?_⟩
      · rcases q with q | q
        · rw [q]; exact conn_trans (conn_symm (conn_edge he)) a2
        · rw [q]; exact a2
      · rcases q with q | q <;> omega
    · refine ⟨b, by rw [a1, b1]; omega, ?_, ?_⟩
      · rcases q with q | q
        · rw [q]; exact b2
        · rw [q]; exact conn_trans (conn_edge he) b2
      · rcases q with q | q <;> omega
  · exact h i
theorem relax_set {E : List Edge} {f : Nat → Int} {e : Edge} (he : e ∈ E) (h : Lab E f) {i : Nat} (hi : set E f i) : set E (relax f e) i := by
  unfold set at hi ⊢
  rw [relax_at]
  split
  · rename_i q
    have c := cm_eq (conn_edge he)
    have g1 := lab_ge h e.1
    have g2 := lab_ge h e.2
    rcases q with q | q <;> rw [q] at hi ⊢ <;> omega
  · exact hi
theorem relax_hit {E : List Edge} {f : Nat → Int} {e : Edge} (he : e ∈ E) (h : Lab E f) (hs : set E f e.1 ∨ set E f e.2) : set E (relax f e) e.1 ∧ set E (relax f e) e.2 := by
  have c := cm_eq (conn_edge he)
  have g1 := lab_ge h e.1
  have g2 := lab_ge h e.2
  unfold set at hs ⊢
  rw [relax_at, relax_at, if_pos (.inr rfl), if_pos (.inl rfl)]
  rcases hs with hs | hs <;> constructor <;> omega
theorem fold_lab {E : List Edge} : ∀ (F : List Edge) (f : Nat → Int), (∀ e, e ∈ F → e ∈ E) → Lab E f → Lab E (F.foldl relax f)
  | [], _, _, h => h
  | e :: F, f, hF, h => fold_lab F (relax f e) (fun d hd => hF d (List.mem_cons_of_mem _ hd)) (relax_lab (hF e List.mem_cons_self) h)
theorem fold_set {E : List Edge} {i : Nat} : ∀ (F : List Edge) (f : Nat → Int), (∀ e, e ∈ F → e ∈ E) → Lab E f → set E f i → set E (F.foldl relax f) i
  | [], _, _, _, hi => hi
  | e :: F, f, hF, h, hi => fold_set F (relax f e) (fun d hd => hF d (List.mem_cons_of_mem _ hd)) (relax_lab (hF e List.mem_cons_self) h) (relax_set (hF e List.mem_cons_self) h hi)
theorem fold_hit {E : List Edge} {e : Edge} : ∀ (F : List Edge) (f : Nat → Int), (∀ e, e ∈ F → e ∈ E) → Lab E f → e ∈ F → (set E f e.1 ∨ set E f e.2) → set E (F.foldl relax f) e.1 ∧ set E (F.foldl relax f) e.2
  | d :: F, f, hF, h, he, hs => by
    have hd := hF d List.mem_cons_self
    have hF' : ∀ c, c ∈ F → c ∈ E := fun c hc => hF c (List.mem_cons_of_mem _ hc)
    rw [List.foldl_cons]
    rcases List.mem_cons.1 he with rfl | he'
    · have := relax_hit hd h hs
      exact ⟨fold_set F _ hF' (relax_lab hd h) this.1, fold_set F _ hF' (relax_lab hd h) this.2⟩
    · exact fold_hit F _ hF' (relax_lab hd h) he' (hs.imp (relax_set hd h) (relax_set hd h))
theorem round_lab {E : List Edge} {f : Nat → Int} (h : Lab E f) : Lab E (round E f) := fold_lab E f (fun _ he => he) h
theorem round_set {E : List Edge} {f : Nat → Int} (h : Lab E f) {i : Nat} (hi : set E f i) : set E (round E f) i := fold_set E f (fun _ he => he) h hi
/-- Where not all are set, a round sets one more. -/
theorem round_new {E : List Edge} {f : Nat → Int} (h : Lab E f) {i : Nat} (hi : ¬ set E f i) : ∃ e, e ∈ E ∧ ((set E f e.1 ∧ ¬ set E f e.2) ∨ (¬ set E f e.1 ∧ set E f e.2)) := by
  refine Classical.byContradiction fun hn => hi ?_
  have hC : closed E fun j => conn E i j ∧ set E f j := by
    intro e he
    have c := conn_edge he
    have hs : set E f e.1 ↔ set E f e.2 := by
      refine ⟨fun h1 => Classical.byContradiction fun h2 => hn ⟨e, he, .inl ⟨h1, h2⟩⟩, fun h2 => Classical.byContradiction fun h1 => hn ⟨e, he, .inr ⟨h1, h2⟩⟩⟩
    exact ⟨fun x => ⟨conn_trans x.1 c, hs.1 x.2⟩, fun x => ⟨conn_trans x.1 (conn_symm c), hs.2 x.2⟩⟩
  have hm : set E f (cm E i) := by
    have g := lab_ge h (cm E i)
    obtain ⟨j, j1, j2, j3⟩ := h (cm E i)
    unfold set
    rw [cm_cm] at g ⊢
    omega
  exact (conn_symm (cm_conn E i) _ hC ⟨cm_conn E i, hm⟩).2
noncomputable def many (P : Nat → Prop) : Nat → Nat
  | 0 => 0
  | n + 1 => many P n + (if (Classical.propDecidable (P n)).decide then 1 else 0)
theorem many_mono {P Q : Nat → Prop} (h : ∀ i, P i → Q i) : ∀ n, many P n ≤ many Q n
  | 0 => Nat.le_refl _
  | n + 1 => by
    have := many_mono h n
    unfold many
    by_cases p : P n
    · have q := h n p
      simp [p, q]
      exact this
    · simp [p]
      omega
theorem many_lt {P Q : Nat → Prop} (h : ∀ i, P i → Q i) {k : Nat} (hk : Q k) (hn : ¬ P k) : ∀ n, k < n → many P n < many Q n
  | n + 1, hlt => by
    have m := many_mono h n
    unfold many
    by_cases e : k = n
    · subst e
      simp [hk, hn]
      omega
    · have := many_lt h hk hn n (by omega)
      by_cases p : P n
      · have q := h n p
        simp [p, q]
        exact this
      · simp [p]
        omega
theorem many_le (P : Nat → Prop) : ∀ n, many P n ≤ n
  | 0 => Nat.le_refl _
  | n + 1 => by
    have := many_le P n
    unfold many
    split <;> omega
theorem many_all {P : Nat → Prop} : ∀ n, many P n = n → ∀ i, i < n → P i
  | n + 1, h, i, hi => by
    have g := many_le P n
    unfold many at h
    by_cases p : P n
    · by_cases e : i = n
      · rw [e]; exact p
      · exact many_all n (by simp [p] at h; exact h) i (by omega)
    · simp [p] at h
      omega
theorem rounds_lab {E : List Edge} {f : Nat → Int} (h : Lab E f) (r : Nat) : Lab E (rounds E r f) := by
  induction r with
  | zero => exact h
  | succ r ih => rw [rounds_succ]; exact round_lab ih
theorem rounds_many {E : List Edge} {f : Nat → Int} {n : Nat} (hE : ∀ e, e ∈ E → e.1 < n ∧ e.2 < n) (h : Lab E f) (r : Nat) : (∀ i, set E (rounds E r f) i) ∨ r ≤ many (set E (rounds E r f)) n := by
  induction r with
  | zero => exact .inr (Nat.zero_le _)
  | succ r ih =>
    rw [rounds_succ]
    have hl := rounds_lab h r
    rcases ih with ih | ih
    · exact .inl fun i => round_set hl (ih i)
    · by_cases hall : ∀ i, set E (rounds E r f) i
      · exact .inl fun i => round_set hl (hall i)
      · right
        obtain ⟨i, hi⟩ := Classical.not_forall.1 hall
        obtain ⟨e, he, hs⟩ := round_new hl hi
        have hit := fold_hit (e := e) E _ (fun _ x => x) hl he (hs.imp (·.1) (·.2))
        have hlt : many (set E (rounds E r f)) n < many (set E (round E (rounds E r f))) n := by
          rcases hs with hs | hs
          · exact many_lt (P := set E (rounds E r f)) (Q := set E (round E (rounds E r f))) (fun i x => round_set hl x) hit.2 hs.2 n (hE e he).2
          · exact many_lt (P := set E (rounds E r f)) (Q := set E (round E (rounds E r f))) (fun i x => round_set hl x) hit.1 hs.1 n (hE e he).1
        omega
/-- Behind n rounds each label is the least of its part. -/
theorem rounds_cm {E : List Edge} {n : Nat} (hE : ∀ e, e ∈ E → e.1 < n ∧ e.2 < n) {i : Nat} (hi : i < n) : rounds E n (fun j => j) i = cm E i := by
  rcases rounds_many hE (lab_id E) n with h | h
  · exact h i
  · exact many_all n (Nat.le_antisymm (many_le _ _) h) i hi

/-- The first of a part. -/
def lead (free : Nat → Bool) (c : Nat → Nat) (k : Nat) : Bool := free k && c k == k
def num (free : Nat → Bool) (c : Nat → Nat) : Nat → Nat
  | 0 => 0
  | m + 1 => num free c m + (bif lead free c m then 1 else 0)
def firsts (free : Nat → Bool) (c : Nat → Nat) : Nat → List Nat
  | 0 => []
  | m + 1 => firsts free c m ++ (bif lead free c m then [m] else [])
theorem length_firsts (free : Nat → Bool) (c : Nat → Nat) : ∀ m, (firsts free c m).length = num free c m
  | 0 => rfl
  | m + 1 => by
    simp only [firsts, num, List.length_append, length_firsts free c m]
    cases lead free c m <;> rfl
theorem firsts_lt (free : Nat → Bool) (c : Nat → Nat) : ∀ m k, k ∈ firsts free c m → k < m
  | m + 1, k, h => by
    simp only [firsts, List.mem_append] at h
    rcases h with h | h
    · exact Nat.lt_succ_of_lt (firsts_lt free c m k h)
    · cases q : lead free c m with
      | true => rw [q] at h; simp at h; omega
      | false => rw [q] at h; simp at h
theorem num_mono (free : Nat → Bool) (c : Nat → Nat) {a b : Nat} (h : a ≤ b) : num free c a ≤ num free c b := by
  induction h with
  | refl => exact Nat.le_refl _
  | step h ih => exact Nat.le_trans ih (Nat.le_add_right _ _)
theorem num_lt {free : Nat → Bool} {c : Nat → Nat} {a b : Nat} (hl : lead free c a = true) (h : a < b) : num free c a < num free c b := by
  have h1 : num free c (a + 1) = num free c a + 1 := by simp [num, hl]
  have := num_mono free c (show a + 1 ≤ b from h)
  omega
theorem firsts_at {free : Nat → Bool} {c : Nat → Nat} {k : Nat} (hk : lead free c k = true) : ∀ m, k < m → (firsts free c m)[num free c k]? = some k
  | m + 1, h => by
    have hl := length_firsts free c m
    by_cases e : k = m
    · subst e
      simp only [firsts, hk, cond_true]
      rw [List.getElem?_append_right (by omega), hl, Nat.sub_self]
      rfl
    · have hlt := num_lt hk (show k < m by omega)
      simp only [firsts]
      rw [List.getElem?_append_left (by omega)]
      exact firsts_at hk m (by omega)
theorem firsts_lead (free : Nat → Bool) (c : Nat → Nat) : ∀ m k, k ∈ firsts free c m → lead free c k = true
  | m + 1, k, h => by
    simp only [firsts, List.mem_append] at h
    rcases h with h | h
    · exact firsts_lead free c m k h
    · cases q : lead free c m with
      | true => rw [q] at h; simp at h; rw [h]; exact q
      | false => rw [q] at h; simp at h
/-- The place of one of the firsts tells which it is. -/
theorem firsts_pos {free : Nat → Bool} {c : Nat → Nat} {m p k : Nat} (h : (firsts free c m)[p]? = some k) : p = num free c k := by
  have hm := List.mem_of_getElem? h
  have hk := firsts_lead free c m k hm
  have hlt := firsts_lt free c m k hm
  have hp := (List.getElem?_eq_some_iff.1 h).1
  rw [length_firsts] at hp
  -- the leaders below p are as many
  have key : ∀ m p, (firsts free c m)[p]? = some k → p = num free c k := by
    intro m
    induction m with
    | zero => intro p h; simp [firsts] at h
    | succ m ih =>
      intro p h
      simp only [firsts] at h
      by_cases hlt : p < (firsts free c m).length
      · rw [List.getElem?_append_left hlt] at h
        exact ih p h
      · rw [List.getElem?_append_right (by omega)] at h
        cases q : lead free c m with
        | false => rw [q] at h; simp at h
        | true =>
          rw [q] at h
          simp only [cond_true] at h
          have hp := (List.getElem?_eq_some_iff.1 h).1
          simp only [List.length_singleton] at hp
          have e : p - (firsts free c m).length = 0 := by omega
          rw [e] at h
          simp at h
          rw [← h, ← length_firsts free c m]
          omega
  exact key m p h
end Go.Proofs.YtnahfbjdicjdpaaGreat.Grp

namespace Go.Proofs.YtnahfbjdicjdpaaGreat.Sym
open Go
set_option linter.unusedVariables false
set_option linter.unusedSimpArgs false
set_option maxRecDepth 100000

def gi (gs : List Int) (j : Nat) : Int := Ty.ix .int gs j
theorem gi_set {gs : List Int} {a j : Nat} {g : Int} (h : a < gs.length) : gi (gs.set a g) j = if a = j then g else gi gs j := by
  unfold gi
  split
  · rename_i e
    subst e
    exact ix_set_self (T := .int) h
  · rename_i e
    exact ix_set_ne (T := .int) e
def freeB (xs : List Body) (k : Nat) : Bool := !((Ty.ix .body xs k).Mass == 0)
def edgeC (c : Contact) : Grp.Edge := (c.A.toNat, c.B.toNat)
noncomputable def edgesX (xs : List Body) : List Grp.Edge := ((contactsF xs).filter fun c => freeB xs c.A.toNat && freeB xs c.B.toNat).map edgeC
noncomputable def cmX (xs : List Body) (i : Nat) : Nat := Grp.cm (edgesX xs) i
noncomputable def numX (xs : List Body) (i : Nat) : Nat := Grp.num (freeB xs) (cmX xs) i
theorem of_edges {xs : List Body} {e : Grp.Edge} (h : e ∈ edgesX xs) : ∃ c, c ∈ contactsF xs ∧ edgeC c = e ∧ freeB xs e.1 = true ∧ freeB xs e.2 = true ∧ e.1 < xs.length ∧ e.2 < xs.length := by
  obtain ⟨c, hc, rfl⟩ := List.mem_map.1 h
  obtain ⟨h1, h2⟩ := List.mem_filter.1 hc
  rw [Bool.and_eq_true] at h2
  obtain ⟨a, b, q1, q2, q3, _⟩ := mem_contactsF h1
  refine ⟨c, h1, rfl, h2.1, h2.2, ?_, ?_⟩
  · rw [q3]; simp only [edgeC]; omega
  · rw [q3]; simp only [edgeC]; omega
theorem free_cm {xs : List Body} {i : Nat} (h : freeB xs i = true) : freeB xs (cmX xs i) = true :=
  Grp.cm_conn (edgesX xs) i (fun k => freeB xs k = true) (fun e he => by
    obtain ⟨c, _, _, h1, h2, _⟩ := of_edges he
    exact ⟨fun _ => h2, fun _ => h1⟩) h
theorem cm_cmX (xs : List Body) (i : Nat) : cmX xs (cmX xs i) = cmX xs i := Grp.cm_cm _ _
theorem cmX_le (xs : List Body) (i : Nat) : cmX xs i ≤ i := Grp.cm_le _ _
theorem lead_cm {xs : List Body} {i : Nat} (h : freeB xs i = true) : Grp.lead (freeB xs) (cmX xs) (cmX xs i) = true := by
  unfold Grp.lead
  rw [free_cm h, cm_cmX]
  simp
theorem lead_iff {xs : List Body} {i : Nat} : Grp.lead (freeB xs) (cmX xs) i = true ↔ freeB xs i = true ∧ cmX xs i = i := by
  simp [Grp.lead]
/-- What is known of j's group when all in front of i have one. -/
noncomputable def gOf (xs : List Body) (i j : Nat) : Int := bif freeB xs j && decide (cmX xs j < i) then (numX xs (cmX xs j) : Int) else -1
theorem num_succ (xs : List Body) (i : Nat) : numX xs (i + 1) = numX xs i + (bif Grp.lead (freeB xs) (cmX xs) i then 1 else 0) := rfl
end Go.Proofs.YtnahfbjdicjdpaaGreat.Sym

namespace Go.Proofs.YtnahfbjdicjdpaaGreat.Sym
open Go
set_option linter.unusedVariables false
set_option linter.unusedSimpArgs false
set_option maxRecDepth 100000
noncomputable section

theorem contact_ok0 {xs : List Body} {i : Nat} (h : i < (contactsF xs).length) : 0 ≤ (Ty.ix .contact (contactsF xs) i).A ∧ (Ty.ix .contact (contactsF xs) i).A < xs.length ∧ 0 ≤ (Ty.ix .contact (contactsF xs) i).B ∧ (Ty.ix .contact (contactsF xs) i).B < xs.length ∧ (Ty.ix .contact (contactsF xs) i) ∈ contactsF xs := by
  have hm : Ty.ix .contact (contactsF xs) i ∈ contactsF xs := List.mem_of_getElem? (ix_get (T := .contact) h)
  obtain ⟨a, b, h1, h2, h3, _⟩ := mem_contactsF hm
  refine ⟨?_, ?_, ?_, ?_, hm⟩ <;> rw [h3] <;> dsimp only <;> omega
def groupsX (xs : List Body) : List Int := gen (fun j => gOf xs xs.length j) xs.length
theorem num_le (xs : List Body) : ∀ i, numX xs i ≤ i
  | 0 => Nat.le_refl _
  | i + 1 => by
    have := num_le xs i
    rw [num_succ]
    cases Grp.lead (freeB xs) (cmX xs) i <;> simp only [cond_true, cond_false] <;> omega
end
end Go.Proofs.YtnahfbjdicjdpaaGreat.Sym

namespace Go.Proofs.YtnahfbjdicjdpaaGreat.Sym
open Go
set_option linter.unusedVariables false
set_option linter.unusedSimpArgs false
set_option maxRecDepth 100000
noncomputable section

def awkF (xs : List Body) : Nat → List Bool
  | 0 => []
  | i + 1 => bif freeB xs i && !((Ty.ix .body xs i).Quiet == 8) then (awkF xs i ++ bif Grp.lead (freeB xs) (cmX xs) i then [false] else []).set (numX xs (cmX xs i)) true else awkF xs i ++ bif Grp.lead (freeB xs) (cmX xs) i then [false] else []
theorem length_awkF (xs : List Body) : ∀ i, (awkF xs i).length = numX xs i
  | 0 => rfl
  | i + 1 => by
    have h : (awkF xs i ++ bif Grp.lead (freeB xs) (cmX xs) i then [false] else []).length = numX xs (i + 1) := by
      rw [List.length_append, length_awkF xs i, num_succ]
      cases Grp.lead (freeB xs) (cmX xs) i <;> rfl
    unfold awkF
    cases freeB xs i && !((Ty.ix .body xs i).Quiet == 8)
    · exact h
    · simp only [cond_true, List.length_set]
      exact h
theorem gOf_all {xs : List Body} {i : Nat} (h : i < xs.length) : gOf xs xs.length i = bif freeB xs i then (numX xs (cmX xs i) : Int) else -1 := by
  have := cmX_le xs i
  unfold gOf
  rw [decide_eq_true (show cmX xs i < xs.length by omega), Bool.and_true]
/-- Is it the first of its part? -/
theorem lead_len {xs : List Body} {i : Nat} (h : i < xs.length) : (gOf xs xs.length i == (numX xs i : Int)) = Grp.lead (freeB xs) (cmX xs) i := by
  rw [gOf_all h]
  cases f : freeB xs i with
  | false =>
    have : Grp.lead (freeB xs) (cmX xs) i = false := by simp [Grp.lead, f]
    rw [this]
    simp only [cond_false]
    exact beq_eq_false_iff_ne.2 (by omega)
  | true =>
    simp only [cond_true]
    have hle := cmX_le xs i
    by_cases e : cmX xs i = i
    · rw [lead_iff.2 ⟨f, e⟩, e]
      exact beq_self_eq_true _
    · have h1 : Grp.lead (freeB xs) (cmX xs) i = false := by simp [Grp.lead, f, e]
      have := Grp.num_lt (b := i) (lead_cm f) (by omega)
      rw [h1]
      unfold numX
      exact beq_eq_false_iff_ne.2 (by omega)
theorem num_in {xs : List Body} {i : Nat} (f : freeB xs i = true) : numX xs (cmX xs i) < numX xs (i + 1) := Grp.num_lt (lead_cm f) (Nat.lt_succ_of_le (cmX_le xs i))
theorem awk_fixed {xs : List Body} {i : Nat} (f : freeB xs i = false) : awkF xs (i + 1) = awkF xs i := by
  rw [awkF]
  simp [f, Grp.lead]
theorem awk_free {xs : List Body} {i : Nat} {l q : Bool} (f : freeB xs i = true) (hl : Grp.lead (freeB xs) (cmX xs) i = l) (hq : (!((Ty.ix .body xs i).Quiet == 8)) = q) :
    awkF xs (i + 1) = bif q then (awkF xs i ++ bif l then [false] else []).set (numX xs (cmX xs i)) true else awkF xs i ++ bif l then [false] else [] := by
  rw [awkF, f, hl, hq]
  rfl
end
end Go.Proofs.YtnahfbjdicjdpaaGreat.Sym

namespace Go.Proofs.YtnahfbjdicjdpaaGreat.Sym
open Go
set_option linter.unusedVariables false
set_option linter.unusedSimpArgs false
set_option maxRecDepth 100000

/-- A body driven by so much more. -/
def pushB (b : Body) (p : Vec) : Body :=
  if b.Mass = 0 then b else { b with Drive := ⟨withinI (W (b.Drive.X + p.X)) 20000000, withinI (W (b.Drive.Y + p.Y)) 20000000⟩, Quiet := 0 }
/-- A body moved by a way. -/
def moveB (b : Body) (w : Vec) : Body :=
  { b with
    At := ⟨withinI (W (b.At.X + w.X)) 2560000, withinI (W (b.At.Y + w.Y)) 2560000⟩,
    Drive := ⟨if withinI (W (b.At.X + w.X)) 2560000 = W (b.At.X + w.X) then b.Drive.X else 0, if withinI (W (b.At.Y + w.Y)) 2560000 = W (b.At.Y + w.Y) then b.Drive.Y else 0⟩ }
/-- The same shape, mass, bounce, rub, number. -/
def kin (a b : Body) : Prop := a.Id = b.Id ∧ a.Shape = b.Shape ∧ a.Mass = b.Mass ∧ a.Bounce = b.Bounce ∧ a.Rub = b.Rub
theorem kin_refl (a : Body) : kin a a := ⟨rfl, rfl, rfl, rfl, rfl⟩
theorem kin_push (b : Body) (p : Vec) : kin b (pushB b p) := by
  unfold pushB
  split <;> exact ⟨rfl, rfl, rfl, rfl, rfl⟩
theorem kin_move (b : Body) (w : Vec) : kin b (moveB b w) := ⟨rfl, rfl, rfl, rfl, rfl⟩
theorem kin_trans {a b c : Body} (h : kin a b) (k : kin b c) : kin a c :=
  ⟨h.1.trans k.1, h.2.1.trans k.2.1, h.2.2.1.trans k.2.2.1, h.2.2.2.1.trans k.2.2.2.1, h.2.2.2.2.trans k.2.2.2.2⟩
theorem kin_pok {a b : Body} (h : kin a b) (k : POk a) : POk b := by
  obtain ⟨h1, h2, h3, h4, h5⟩ := h
  exact ⟨h3 ▸ k.m0, h3 ▸ k.m1, h4 ▸ k.b0, h4 ▸ k.b1, h5 ▸ k.r0, h5 ▸ k.r1⟩
/-- Two lists of bodies, each the other's kin. -/
def Kin (xs ys : List Body) : Prop := xs.length = ys.length ∧ ∀ k, k < xs.length → kin (Ty.ix .body xs k) (Ty.ix .body ys k)
theorem Kin.refl (xs : List Body) : Kin xs xs := ⟨rfl, fun _ _ => kin_refl _⟩
theorem Kin.trans {xs ys zs : List Body} (h : Kin xs ys) (k : Kin ys zs) : Kin xs zs :=
  ⟨h.1.trans k.1, fun j hj => kin_trans (h.2 j hj) (k.2 j (h.1 ▸ hj))⟩
theorem Kin.set {xs : List Body} {k : Nat} {b : Body} (h : kin (Ty.ix .body xs k) b) : Kin xs (xs.set k b) := by
  refine ⟨by simp, fun j hj => ?_⟩
  by_cases e : k = j
  · subst e
    rw [ix_set_self (T := .body) hj]
    exact h
  · rw [ix_set_ne (T := .body) e]
    exact kin_refl _
/-- All may push. -/
def AllP (xs : List Body) : Prop := ∀ k, k < xs.length → POk (Ty.ix .body xs k)
theorem allP_kin {xs ys : List Body} (h : Kin xs ys) (k : AllP xs) : AllP ys := fun j hj => kin_pok (h.2 j (h.1 ▸ hj)) (k j (h.1 ▸ hj))
theorem allP_ok {xs : List Body} (h : bodiesOk xs = true) : AllP xs := fun k hk => pok_of (bodiesOk_each h hk)
def zeroV2 (p : Vec) : Bool := p.X == 0 && p.Y == 0
def bearsF (b : Body) (p : Vec) : Bool := b.Mass == 0 || driveOk (plus b.Drive p)
def oppV (p : Vec) : Vec := ⟨W (0 - p.X), W (0 - p.Y)⟩
/-- Two bodies of a list pushed by a contact. -/
def pushOne (xs : List Body) (c : Contact) (z : Bool) : List Body :=
  let a := Ty.ix .body xs c.A.toNat
  let b := Ty.ix .body xs c.B.toNat
  let p := pushV a b c.Hit z
  if (!zeroV2 p && bearsF a (oppV p) && bearsF b p) = true then (xs.set c.A.toNat (pushB a (oppV p))).set c.B.toNat (pushB b p) else xs
theorem kin_pushOne {xs : List Body} {c : Contact} {z : Bool} (hne : c.A.toNat ≠ c.B.toNat) : Kin xs (pushOne xs c z) := by
  unfold pushOne
  dsimp only
  split
  · refine (Kin.set (k := c.A.toNat) (kin_push _ _)).trans (Kin.set ?_)
    rw [ix_set_ne (T := .body) hne]
    exact kin_push _ _
  · exact .refl _
@[simp] theorem length_pushOne (xs : List Body) (c : Contact) (z : Bool) : (pushOne xs c z).length = xs.length := by
  unfold pushOne
  dsimp only
  split <;> simp
def pushRound (xs : List Body) (z : Bool) : List Contact → List Body
  | [] => xs
  | c :: r => pushRound (pushOne xs c z) z r
/-- Contacts of bodies that there are. -/
def ctOk (n : Nat) (c : Contact) : Prop := 0 ≤ c.A ∧ c.A < n ∧ 0 ≤ c.B ∧ c.B < n ∧ c.A ≠ c.B
theorem kin_pushRound : ∀ {cs : List Contact} {xs : List Body} {z : Bool}, (∀ c, c ∈ cs → ctOk xs.length c) → Kin xs (pushRound xs z cs)
  | [], xs, z, _ => .refl _
  | c :: r, xs, z, h => by
    have hc := h c List.mem_cons_self
    have k := kin_pushOne (xs := xs) (c := c) (z := z) (by obtain ⟨h1, h2, h3, h4, h5⟩ := hc; omega)
    exact k.trans (kin_pushRound fun d hd => by rw [← k.1]; exact h d (List.mem_cons_of_mem _ hd))
def pushAllF (xs : List Body) (cs : List Contact) : List Body := pushRound (pushRound (pushRound (pushRound xs true cs) false cs) false cs) false cs
theorem kin_pushAllF {cs : List Contact} {xs : List Body} (h : ∀ c, c ∈ cs → ctOk xs.length c) : Kin xs (pushAllF xs cs) := by
  have k1 := kin_pushRound (z := true) h
  have k2 := kin_pushRound (xs := pushRound xs true cs) (z := false) (cs := cs) (by rw [← k1.1]; exact h)
  have k3 := kin_pushRound (xs := pushRound (pushRound xs true cs) false cs) (z := false) (cs := cs) (by rw [← k2.1, ← k1.1]; exact h)
  have k4 := kin_pushRound (xs := pushRound (pushRound (pushRound xs true cs) false cs) false cs) (z := false) (cs := cs) (by rw [← k3.1, ← k2.1, ← k1.1]; exact h)
  exact ((k1.trans k2).trans k3).trans k4
@[simp] theorem length_pushRound (z : Bool) : ∀ (cs : List Contact) (xs : List Body), (pushRound xs z cs).length = xs.length
  | [], xs => rfl
  | c :: r, xs => (length_pushRound z r (pushOne xs c z)).trans (length_pushOne xs c z)
@[simp] theorem length_pushAllF (xs : List Body) (cs : List Contact) : (pushAllF xs cs).length = xs.length := by simp [pushAllF]
/-- With so many rounds to go. -/
def pushRest (cs : List Contact) : Nat → List Body → List Body
  | 0, xs => xs
  | m + 1, xs => pushRest cs m (pushRound xs (m == 3) cs)
theorem pushRest_all (xs : List Body) (cs : List Contact) : pushRest cs 4 xs = pushAllF xs cs := by
  unfold pushAllF
  rw [pushRest, pushRest, pushRest, pushRest, pushRest]
  have e1 : ((3 : Nat) == 3) = true := by decide
  have e2 : ((2 : Nat) == 3) = false := by decide
  have e3 : ((1 : Nat) == 3) = false := by decide
  have e4 : ((0 : Nat) == 3) = false := by decide
  rw [e1, e2, e3, e4]
theorem pushRest_at {cs : List Contact} {j : Int} (h0 : 0 ≤ j) (h1 : j < 4) (xs : List Body) : pushRest cs (4 - j).toNat xs = pushRest cs (4 - (j + 1)).toNat (pushRound xs (j == 0) cs) := by
  have e : (4 - j).toNat = (4 - (j + 1)).toNat + 1 := by omega
  rw [e, pushRest]
  congr 2
  rw [Bool.eq_iff_iff]
  simp only [beq_iff_eq]
  omega
/-- Contacts that may be. -/
def CtsOk (n : Nat) (cs : List Contact) : Prop := cs.length ≤ 144 ∧ ∀ k, k < cs.length → ctOk n (Ty.ix .contact cs k)
theorem ctsOk_mem {n : Nat} {cs : List Contact} (h : CtsOk n cs) : ∀ c, c ∈ cs → ctOk n c := by
  intro c hc
  obtain ⟨k, hk, e⟩ := List.getElem_of_mem hc
  have := h.2 k hk
  subst e
  rwa [ix_eq (T := .contact) (List.getElem?_eq_getElem hk)] at this
theorem ct_ne {n : Nat} {c : Contact} (h : ctOk n c) : c.A.toNat ≠ c.B.toNat := by
  obtain ⟨h1, h2, h3, h4, h5⟩ := h
  omega
def shareF (a b : Body) (n : Int) : Int := if a.Mass = 0 then 0 else if b.Mass = 0 then n else W ((W (n * b.Mass)).tdiv (W (a.Mass + b.Mass)))
def apartOne (xs : List Body) (c : Contact) : List Body :=
  let n := W ((W (c.Hit.Deep - 64)).tdiv 4)
  let a := Ty.ix .body xs c.A.toNat
  let b := Ty.ix .body xs c.B.toNat
  if n ≤ 0 then xs else
    let ys := if a.Mass = 0 then xs else xs.set c.A.toNat (moveB a (scaled (oppV c.Hit.Way) (shareF a b n)))
    if b.Mass = 0 then ys else ys.set c.B.toNat (moveB b (scaled c.Hit.Way (shareF b a n)))
@[simp] theorem length_apartOne (xs : List Body) (c : Contact) : (apartOne xs c).length = xs.length := by
  unfold apartOne
  dsimp only
  repeat' split
  all_goals simp
theorem kin_apartOne {xs : List Body} {c : Contact} (hne : c.A.toNat ≠ c.B.toNat) : Kin xs (apartOne xs c) := by
  unfold apartOne
  dsimp only
  split
  · exact .refl _
  · have k1 : Kin xs (if (Ty.ix .body xs c.A.toNat).Mass = 0 then xs else xs.set c.A.toNat (moveB (Ty.ix .body xs c.A.toNat) (scaled (oppV c.Hit.Way) (shareF (Ty.ix .body xs c.A.toNat) (Ty.ix .body xs c.B.toNat) (W ((W (c.Hit.Deep - 64)).tdiv 4)))))) := by
      split
      · exact .refl _
      · exact Kin.set (kin_move _ _)
    split
    · exact k1
    · refine k1.trans (Kin.set ?_)
      split
      · exact kin_move _ _
      · rw [ix_set_ne (T := .body) hne]
        exact kin_move _ _
def apartF (xs : List Body) : List Contact → List Body
  | [] => xs
  | c :: r => apartF (apartOne xs c) r
@[simp] theorem length_apartF : ∀ (cs : List Contact) (xs : List Body), (apartF xs cs).length = xs.length
  | [], xs => rfl
  | c :: r, xs => (length_apartF r (apartOne xs c)).trans (length_apartOne xs c)
theorem kin_apartF : ∀ {cs : List Contact} {xs : List Body}, (∀ c, c ∈ cs → ctOk xs.length c) → Kin xs (apartF xs cs)
  | [], xs, _ => .refl _
  | c :: r, xs, h => by
    have hc := h c List.mem_cons_self
    have k := kin_apartOne (xs := xs) (c := c) (by obtain ⟨h1, h2, h3, h4, h5⟩ := hc; omega)
    exact k.trans (kin_apartF fun d hd => by rw [← k.1]; exact h d (List.mem_cons_of_mem _ hd))
end Go.Proofs.YtnahfbjdicjdpaaGreat.Sym

namespace Go.Proofs.YtnahfbjdicjdpaaGreat.Sym
open Go
set_option linter.unusedVariables false
set_option linter.unusedSimpArgs false
set_option maxRecDepth 100000

theorem withinS_drive (n : Int) : withinS n 20000000 = withinI n 20000000 := by rw [withinI_drive]; exact withinS_const n (by omega) (by omega)
theorem withinI_far (n : Int) : withinI n 2560000 = clampTo 2560000 n := withinI_const n (by omega) (by omega)
theorem withinS_at (n : Int) : withinS n 2560000 = withinI n 2560000 := by rw [withinI_far]; exact withinS_const n (by omega) (by omega)
theorem W_opp (a p : Int) : W (a + W (0 - p)) = W (a - p) := by
  simp only [W, IntKind.wrap_i64]
  omega
theorem setC_drive (xs : List Body) (e : Nat) (a b : Int) : setC .body xs e (0 + 6) [.int .i64 a, .int .i64 b] = xs.set e { Ty.ix .body xs e with Drive := ⟨a, b⟩ } := rfl
theorem setC_quiet (xs : List Body) (e : Nat) (b : Int) : setC .body xs e (0 + 11) [.int .i64 b] = xs.set e { Ty.ix .body xs e with Quiet := b } := rfl
theorem set_ix {T : Ty} (xs : List T.El) {e : Nat} (h : e < xs.length) : xs.set e (T.ix xs e) = xs := by
  apply List.ext_getElem?
  intro j
  rw [List.getElem?_set]
  split
  · rename_i q
    subst q
    exact (ix_get (T := T) h).symm
  · rfl
noncomputable def fs_specPushB : Fs := ⟨[], fun args H => match args, H with
  | [.agg [.int .i64 bI, .int .i64 bK, .int .i64 bW, .int .i64 bH, .int .i64 bX, .int .i64 bY, .int .i64 bU, .int .i64 bV, .int .i64 bM, .int .i64 bB, .int .i64 bR, .int .i64 bQ], .agg [.int .i64 pX, .int .i64 pY]], [] => some (none, .agg [.int .i64 (pushB (Body.mk bI (Shape.mk bK bW bH) (Vec.mk bX bY) (Vec.mk bU bV) bM bB bR bQ) (Vec.mk pX pY)).Id, .int .i64 (pushB (Body.mk bI (Shape.mk bK bW bH) (Vec.mk bX bY) (Vec.mk bU bV) bM bB bR bQ) (Vec.mk pX pY)).Shape.Kind, .int .i64 (pushB (Body.mk bI (Shape.mk bK bW bH) (Vec.mk bX bY) (Vec.mk bU bV) bM bB bR bQ) (Vec.mk pX pY)).Shape.Wide, .int .i64 (pushB (Body.mk bI (Shape.mk bK bW bH) (Vec.mk bX bY) (Vec.mk bU bV) bM bB bR bQ) (Vec.mk pX pY)).Shape.High, .int .i64 (pushB (Body.mk bI (Shape.mk bK bW bH) (Vec.mk bX bY) (Vec.mk bU bV) bM bB bR bQ) (Vec.mk pX pY)).At.X, .int .i64 (pushB (Body.mk bI (Shape.mk bK bW bH) (Vec.mk bX bY) (Vec.mk bU bV) bM bB bR bQ) (Vec.mk pX pY)).At.Y, .int .i64 (pushB (Body.mk bI (Shape.mk bK bW bH) (Vec.mk bX bY) (Vec.mk bU bV) bM bB bR bQ) (Vec.mk pX pY)).Drive.X, .int .i64 (pushB (Body.mk bI (Shape.mk bK bW bH) (Vec.mk bX bY) (Vec.mk bU bV) bM bB bR bQ) (Vec.mk pX pY)).Drive.Y, .int .i64 (pushB (Body.mk bI (Shape.mk bK bW bH) (Vec.mk bX bY) (Vec.mk bU bV) bM bB bR bQ) (Vec.mk pX pY)).Mass, .int .i64 (pushB (Body.mk bI (Shape.mk bK bW bH) (Vec.mk bX bY) (Vec.mk bU bV) bM bB bR bQ) (Vec.mk pX pY)).Bounce, .int .i64 (pushB (Body.mk bI (Shape.mk bK bW bH) (Vec.mk bX bY) (Vec.mk bU bV) bM bB bR bQ) (Vec.mk pX pY)).Rub, .int .i64 (pushB (Body.mk bI (Shape.mk bK bW bH) (Vec.mk bX bY) (Vec.mk bU bV) bM bB bR bQ) (Vec.mk pX pY)).Quiet], [])
  | _, _ => none⟩

theorem vc_specPushB (bI : Int) (bK : Int) (bW : Int) (bH : Int) (bX : Int) (bY : Int) (bU : Int) (bV : Int) (bM : Int) (bB : Int) (bR : Int) (bQ : Int) (pX : Int) (pY : Int) (Q : SV → List Ent → Prop) :
    fnVC tt (look [(127, fs_specWithin)]) L0 Tryz.f157 [.agg [.int .i64 bI, .int .i64 bK, .int .i64 bW, .int .i64 bH, .int .i64 bX, .int .i64 bY, .int .i64 bU, .int .i64 bV, .int .i64 bM, .int .i64 bB, .int .i64 bR, .int .i64 bQ], .agg [.int .i64 pX, .int .i64 pY]] [] Q =
    (ifB (bM == (0 : Int)) (Q (SV.agg [SV.int IntKind.i64 bI, SV.int IntKind.i64 bK, SV.int IntKind.i64 bW, SV.int IntKind.i64 bH, SV.int IntKind.i64 bX, SV.int IntKind.i64 bY, SV.int IntKind.i64 bU, SV.int IntKind.i64 bV, SV.int IntKind.i64 bM, SV.int IntKind.i64 bB, SV.int IntKind.i64 bR, SV.int IntKind.i64 bQ]) []) (Q (SV.agg [SV.int IntKind.i64 bI, SV.int IntKind.i64 bK, SV.int IntKind.i64 bW, SV.int IntKind.i64 bH, SV.int IntKind.i64 bX, SV.int IntKind.i64 bY, SV.int IntKind.i64 (withinS (IntKind.wrap IntKind.i64 (bU + pX)) (20000000 : Int)), SV.int IntKind.i64 (withinS (IntKind.wrap IntKind.i64 (bV + pY)) (20000000 : Int)), SV.int IntKind.i64 bM, SV.int IntKind.i64 bB, SV.int IntKind.i64 bR, SV.int IntKind.i64 (0 : Int)]) [])) := by kernel_rfl

theorem ok_specPushB : FsOk Tryz.prog 157 fs_specPushB := fsOk_of tt_ok (tabFs_cons ok_specWithin tabFs_nil) mixed Tryz.func157 (by kernel_rfl) (by kernel_rfl) (by
    intro args LL p r HH h hp
    unfold fs_specPushB at h
    dsimp only at h
    split at h
    case h_2 => cases h
    rename_i bI bK bW bH bX bY bU bV bM bB bR bQ pX pY
    simp only [Option.some.injEq, Prod.mk.injEq] at h
    obtain ⟨rfl, rfl, rfl⟩ := h
    refine ⟨by simp [Form, stays], L0, ?_⟩
    rw [vc_specPushB]
    try dsimp only
    unfold pushB
    refine ifB_of (fun c => ?_) (fun c => ?_)
    · have c : bM = 0 := eq_of_beq c
      simp [if_pos c]
    · have c : ¬ bM = 0 := beq_eq_false_iff_ne.1 c
      simp [if_neg c, withinS_drive, W])

noncomputable def fs_specMoveB : Fs := ⟨[], fun args H => match args, H with
  | [.agg [.int .i64 bI, .int .i64 bK, .int .i64 bW, .int .i64 bH, .int .i64 bX, .int .i64 bY, .int .i64 bU, .int .i64 bV, .int .i64 bM, .int .i64 bB, .int .i64 bR, .int .i64 bQ], .agg [.int .i64 pX, .int .i64 pY]], [] => some (none, .agg [.int .i64 (moveB (Body.mk bI (Shape.mk bK bW bH) (Vec.mk bX bY) (Vec.mk bU bV) bM bB bR bQ) (Vec.mk pX pY)).Id, .int .i64 (moveB (Body.mk bI (Shape.mk bK bW bH) (Vec.mk bX bY) (Vec.mk bU bV) bM bB bR bQ) (Vec.mk pX pY)).Shape.Kind, .int .i64 (moveB (Body.mk bI (Shape.mk bK bW bH) (Vec.mk bX bY) (Vec.mk bU bV) bM bB bR bQ) (Vec.mk pX pY)).Shape.Wide, .int .i64 (moveB (Body.mk bI (Shape.mk bK bW bH) (Vec.mk bX bY) (Vec.mk bU bV) bM bB bR bQ) (Vec.mk pX pY)).Shape.High, .int .i64 (moveB (Body.mk bI (Shape.mk bK bW bH) (Vec.mk bX bY) (Vec.mk bU bV) bM bB bR bQ) (Vec.mk pX pY)).At.X, .int .i64 (moveB (Body.mk bI (Shape.mk bK bW bH) (Vec.mk bX bY) (Vec.mk bU bV) bM bB bR bQ) (Vec.mk pX pY)).At.Y, .int .i64 (moveB (Body.mk bI (Shape.mk bK bW bH) (Vec.mk bX bY) (Vec.mk bU bV) bM bB bR bQ) (Vec.mk pX pY)).Drive.X, .int .i64 (moveB (Body.mk bI (Shape.mk bK bW bH) (Vec.mk bX bY) (Vec.mk bU bV) bM bB bR bQ) (Vec.mk pX pY)).Drive.Y, .int .i64 (moveB (Body.mk bI (Shape.mk bK bW bH) (Vec.mk bX bY) (Vec.mk bU bV) bM bB bR bQ) (Vec.mk pX pY)).Mass, .int .i64 (moveB (Body.mk bI (Shape.mk bK bW bH) (Vec.mk bX bY) (Vec.mk bU bV) bM bB bR bQ) (Vec.mk pX pY)).Bounce, .int .i64 (moveB (Body.mk bI (Shape.mk bK bW bH) (Vec.mk bX bY) (Vec.mk bU bV) bM bB bR bQ) (Vec.mk pX pY)).Rub, .int .i64 (moveB (Body.mk bI (Shape.mk bK bW bH) (Vec.mk bX bY) (Vec.mk bU bV) bM bB bR bQ) (Vec.mk pX pY)).Quiet], [])
  | _, _ => none⟩

theorem vc_specMoveB (bI : Int) (bK : Int) (bW : Int) (bH : Int) (bX : Int) (bY : Int) (bU : Int) (bV : Int) (bM : Int) (bB : Int) (bR : Int) (bQ : Int) (pX : Int) (pY : Int) (Q : SV → List Ent → Prop) :
    fnVC tt (look [(127, fs_specWithin)]) L0 Tryz.f135 [.agg [.int .i64 bI, .int .i64 bK, .int .i64 bW, .int .i64 bH, .int .i64 bX, .int .i64 bY, .int .i64 bU, .int .i64 bV, .int .i64 bM, .int .i64 bB, .int .i64 bR, .int .i64 bQ], .agg [.int .i64 pX, .int .i64 pY]] [] Q =
    (ifB (withinS (IntKind.wrap IntKind.i64 (bX + pX)) (2560000 : Int) != IntKind.wrap IntKind.i64 (bX + pX)) (ifB (withinS (IntKind.wrap IntKind.i64 (bY + pY)) (2560000 : Int) != IntKind.wrap IntKind.i64 (bY + pY)) (Q (SV.agg [SV.int IntKind.i64 bI, SV.int IntKind.i64 bK, SV.int IntKind.i64 bW, SV.int IntKind.i64 bH, SV.int IntKind.i64 (withinS (IntKind.wrap IntKind.i64 (bX + pX)) (2560000 : Int)), SV.int IntKind.i64 (withinS (IntKind.wrap IntKind.i64 (bY + pY)) (2560000 : Int)), SV.int IntKind.i64 (0 : Int), SV.int IntKind.i64 (0 : Int), SV.int IntKind.i64 bM, SV.int IntKind.i64 bB, SV.int IntKind.i64 bR, SV.int IntKind.i64 bQ]) []) (Q (SV.agg [SV.int IntKind.i64 bI, SV.int IntKind.i64 bK, SV.int IntKind.i64 bW, SV.int IntKind.i64 bH, SV.int IntKind.i64 (withinS (IntKind.wrap IntKind.i64 (bX + pX)) (2560000 : Int)), SV.int IntKind.i64 (withinS (IntKind.wrap IntKind.i64 (bY + pY)) (2560000 : Int)), SV.int IntKind.i64 (0 : Int), SV.int IntKind.i64 bV, SV.int IntKind.i64 bM, SV.int IntKind.i64 bB, SV.int IntKind.i64 bR, SV.int IntKind.i64 bQ]) [])) (ifB (withinS (IntKind.wrap IntKind.i64 (bY + pY)) (2560000 : Int) != IntKind.wrap IntKind.i64 (bY + pY)) (Q (SV.agg [SV.int IntKind.i64 bI, SV.int IntKind.i64 bK, SV.int IntKind.i64 bW, SV.int IntKind.i64 bH, SV.int IntKind.i64 (withinS (IntKind.wrap IntKind.i64 (bX + pX)) (2560000 : Int)), SV.int IntKind.i64 (withinS (IntKind.wrap IntKind.i64 (bY + pY)) (2560000 : Int)), SV.int IntKind.i64 bU, SV.int IntKind.i64 (0 : Int), SV.int IntKind.i64 bM, SV.int IntKind.i64 bB, SV.int IntKind.i64 bR, SV.int IntKind.i64 bQ]) []) (Q (SV.agg [SV.int IntKind.i64 bI, SV.int IntKind.i64 bK, SV.int IntKind.i64 bW, SV.int IntKind.i64 bH, SV.int IntKind.i64 (withinS (IntKind.wrap IntKind.i64 (bX + pX)) (2560000 : Int)), SV.int IntKind.i64 (withinS (IntKind.wrap IntKind.i64 (bY + pY)) (2560000 : Int)), SV.int IntKind.i64 bU, SV.int IntKind.i64 bV, SV.int IntKind.i64 bM, SV.int IntKind.i64 bB, SV.int IntKind.i64 bR, SV.int IntKind.i64 bQ]) []))) := by kernel_rfl

theorem ok_specMoveB : FsOk Tryz.prog 135 fs_specMoveB := fsOk_of tt_ok (tabFs_cons ok_specWithin tabFs_nil) mixed Tryz.func135 (by kernel_rfl) (by kernel_rfl) (by
    intro args LL p r HH h hp
    unfold fs_specMoveB at h
    dsimp only at h
    split at h
    case h_2 => cases h
    rename_i bI bK bW bH bX bY bU bV bM bB bR bQ pX pY
    simp only [Option.some.injEq, Prod.mk.injEq] at h
    obtain ⟨rfl, rfl, rfl⟩ := h
    refine ⟨by simp [Form, stays], L0, ?_⟩
    rw [vc_specMoveB]
    try dsimp only
    unfold moveB
    simp only [withinS_at]
    refine ifB_of (fun c => ifB_of (fun c2 => ?_) (fun c2 => ?_)) (fun c => ifB_of (fun c2 => ?_) (fun c2 => ?_))
    all_goals
      simp only [bne_iff_ne, ne_eq, bne_eq_false_iff_eq] at c c2
      simp [W, c, c2])

noncomputable def fs_specShare : Fs := ⟨[], fun args H => match args, H with
  | [.agg [.int .i64 aI, .int .i64 aK, .int .i64 aW, .int .i64 aH, .int .i64 aX, .int .i64 aY, .int .i64 aU, .int .i64 aV, .int .i64 aM, .int .i64 aB, .int .i64 aR, .int .i64 aQ], .agg [.int .i64 bI, .int .i64 bK, .int .i64 bW, .int .i64 bH, .int .i64 bX, .int .i64 bY, .int .i64 bU, .int .i64 bV, .int .i64 bM, .int .i64 bB, .int .i64 bR, .int .i64 bQ], .int .i64 n], [] => some ((some (0 ≤ (Body.mk aI (Shape.mk aK aW aH) (Vec.mk aX aY) (Vec.mk aU aV) aM aB aR aQ).Mass ∧ (Body.mk aI (Shape.mk aK aW aH) (Vec.mk aX aY) (Vec.mk aU aV) aM aB aR aQ).Mass ≤ 1000000 ∧ 0 ≤ (Body.mk bI (Shape.mk bK bW bH) (Vec.mk bX bY) (Vec.mk bU bV) bM bB bR bQ).Mass ∧ (Body.mk bI (Shape.mk bK bW bH) (Vec.mk bX bY) (Vec.mk bU bV) bM bB bR bQ).Mass ≤ 1000000)), .int .i64 (shareF (Body.mk aI (Shape.mk aK aW aH) (Vec.mk aX aY) (Vec.mk aU aV) aM aB aR aQ) (Body.mk bI (Shape.mk bK bW bH) (Vec.mk bX bY) (Vec.mk bU bV) bM bB bR bQ) n), [])
  | _, _ => none⟩

theorem vc_specShare (aI : Int) (aK : Int) (aW : Int) (aH : Int) (aX : Int) (aY : Int) (aU : Int) (aV : Int) (aM : Int) (aB : Int) (aR : Int) (aQ : Int) (bI : Int) (bK : Int) (bW : Int) (bH : Int) (bX : Int) (bY : Int) (bU : Int) (bV : Int) (bM : Int) (bB : Int) (bR : Int) (bQ : Int) (n : Int) (Q : SV → List Ent → Prop) :
    fnVC tt (look []) L0 Tryz.f158 [.agg [.int .i64 aI, .int .i64 aK, .int .i64 aW, .int .i64 aH, .int .i64 aX, .int .i64 aY, .int .i64 aU, .int .i64 aV, .int .i64 aM, .int .i64 aB, .int .i64 aR, .int .i64 aQ], .agg [.int .i64 bI, .int .i64 bK, .int .i64 bW, .int .i64 bH, .int .i64 bX, .int .i64 bY, .int .i64 bU, .int .i64 bV, .int .i64 bM, .int .i64 bB, .int .i64 bR, .int .i64 bQ], .int .i64 n] [] Q =
    (ifB (aM == (0 : Int)) (Q (SV.int IntKind.i64 (0 : Int)) []) (ifB (bM == (0 : Int)) (Q (SV.int IntKind.i64 n) []) (IntKind.wrap IntKind.i64 (aM + bM) ≠ (0 : Int) ∧ Q (SV.int IntKind.i64 (IntKind.wrap IntKind.i64 (Int.tdiv (IntKind.wrap IntKind.i64 (n * bM)) (IntKind.wrap IntKind.i64 (aM + bM))))) []))) := by kernel_rfl

theorem ok_specShare : FsOk Tryz.prog 158 fs_specShare := fsOk_of tt_ok tabFs_nil mixed Tryz.func158 (by kernel_rfl) (by kernel_rfl) (by
    intro args LL p r HH h hp
    unfold fs_specShare at h
    dsimp only at h
    split at h
    case h_2 => cases h
    rename_i aI aK aW aH aX aY aU aV aM aB aR aQ bI bK bW bH bX bY bU bV bM bB bR bQ n
    simp only [Option.some.injEq, Prod.mk.injEq] at h
    obtain ⟨rfl, rfl, rfl⟩ := h
    refine ⟨by simp [Form, stays], L0, ?_⟩
    rw [vc_specShare]
    try dsimp only
    unfold shareF
    refine ifB_of (fun c => ?_) (fun c => ifB_of (fun c2 => ?_) (fun c2 => ?_))
    · have c : aM = 0 := eq_of_beq c
      simp [if_pos c]
    · have c : ¬ aM = 0 := beq_eq_false_iff_ne.1 c
      have c2 : bM = 0 := eq_of_beq c2
      simp [if_neg c, if_pos c2]
    · have c : ¬ aM = 0 := beq_eq_false_iff_ne.1 c
      have c2 : ¬ bM = 0 := beq_eq_false_iff_ne.1 c2
      simp only [if_neg c, if_neg c2]
      obtain ⟨h1, h2, h3, h4⟩ := hp _ rfl
      rw [show IntKind.i64.wrap (aM + bM) = aM + bM from wrap_small (by omega) (by omega)]
      exact ⟨by omega, (by trivial), (by trivial)⟩)

noncomputable def fs_specFits : Fs := ⟨[], fun args H => match args, H with
  | [.agg [.int .i64 aI, .int .i64 aK, .int .i64 aW, .int .i64 aH, .int .i64 aX, .int .i64 aY, .int .i64 aU, .int .i64 aV, .int .i64 aM, .int .i64 aB, .int .i64 aR, .int .i64 aQ], .agg [.int .i64 bI, .int .i64 bK, .int .i64 bW, .int .i64 bH, .int .i64 bX, .int .i64 bY, .int .i64 bU, .int .i64 bV, .int .i64 bM, .int .i64 bB, .int .i64 bR, .int .i64 bQ], .agg [.int .i64 pX, .int .i64 pY]], [] => some (none, .bool (bearsF (Body.mk aI (Shape.mk aK aW aH) (Vec.mk aX aY) (Vec.mk aU aV) aM aB aR aQ) (oppV (Vec.mk pX pY)) && bearsF (Body.mk bI (Shape.mk bK bW bH) (Vec.mk bX bY) (Vec.mk bU bV) bM bB bR bQ) (Vec.mk pX pY)), [])
  | _, _ => none⟩

theorem vc_specFits (aI : Int) (aK : Int) (aW : Int) (aH : Int) (aX : Int) (aY : Int) (aU : Int) (aV : Int) (aM : Int) (aB : Int) (aR : Int) (aQ : Int) (bI : Int) (bK : Int) (bW : Int) (bH : Int) (bX : Int) (bY : Int) (bU : Int) (bV : Int) (bM : Int) (bB : Int) (bR : Int) (bQ : Int) (pX : Int) (pY : Int) (Q : SV → List Ent → Prop) :
    fnVC tt (look [(113, fs_l6Drive)]) L0 Tryz.f156 [.agg [.int .i64 aI, .int .i64 aK, .int .i64 aW, .int .i64 aH, .int .i64 aX, .int .i64 aY, .int .i64 aU, .int .i64 aV, .int .i64 aM, .int .i64 aB, .int .i64 aR, .int .i64 aQ], .agg [.int .i64 bI, .int .i64 bK, .int .i64 bW, .int .i64 bH, .int .i64 bX, .int .i64 bY, .int .i64 bU, .int .i64 bV, .int .i64 bM, .int .i64 bB, .int .i64 bR, .int .i64 bQ], .agg [.int .i64 pX, .int .i64 pY]] [] Q =
    (ifB (aM == (0 : Int)) (ifB (bM == (0 : Int)) (Q (SV.bool true) []) (Q (SV.bool (driveOk (Vec.mk (IntKind.wrap IntKind.i64 (bU + pX)) (IntKind.wrap IntKind.i64 (bV + pY))))) [])) (ifB (driveOk (Vec.mk (IntKind.wrap IntKind.i64 (aU - pX)) (IntKind.wrap IntKind.i64 (aV - pY)))) (ifB (bM == (0 : Int)) (Q (SV.bool true) []) (Q (SV.bool (driveOk (Vec.mk (IntKind.wrap IntKind.i64 (bU + pX)) (IntKind.wrap IntKind.i64 (bV + pY))))) [])) (Q (SV.bool false) []))) := by kernel_rfl

theorem ok_specFits : FsOk Tryz.prog 156 fs_specFits := fsOk_of tt_ok (tabFs_cons ok_l6Drive tabFs_nil) mixed Tryz.func156 (by kernel_rfl) (by kernel_rfl) (by
    intro args LL p r HH h hp
    unfold fs_specFits at h
    dsimp only at h
    split at h
    case h_2 => cases h
    rename_i aI aK aW aH aX aY aU aV aM aB aR aQ bI bK bW bH bX bY bU bV bM bB bR bQ pX pY
    simp only [Option.some.injEq, Prod.mk.injEq] at h
    obtain ⟨rfl, rfl, rfl⟩ := h
    refine ⟨by simp [Form, stays], L0, ?_⟩
    rw [vc_specFits]
    try dsimp only
    simp only [bearsF, plus, oppV, W_opp]
    refine ifB_of (fun c => ifB_of (fun c2 => ?_) (fun c2 => ?_)) (fun c => ifB_of (fun c2 => ifB_of (fun c3 => ?_) (fun c3 => ?_)) (fun c2 => ?_))
    all_goals
      simp_all [W])

noncomputable def fs_specOne : Fs := ⟨[true], fun args H => match args, H with
  | [.vec 0, .agg [.int .i64 cA, .int .i64 cB, .int .i64 cX, .int .i64 cY, .int .i64 cD], .bool z], [(true, .vec .body xs)] => some ((some (AllP xs ∧ ctOk xs.length ⟨cA, cB, ⟨⟨cX, cY⟩, cD⟩⟩)), .tup [], [(true, .vec .body (pushOne xs ⟨cA, cB, ⟨⟨cX, cY⟩, cD⟩⟩ z))])
  | _, _ => none⟩

theorem vc_specOne (z : Bool) (xs : List Body) (cA : Int) (cB : Int) (cX : Int) (cY : Int) (cD : Int) (Q : SV → List Ent → Prop) :
    fnVC tt (look [(155, fs_l8Push), (156, fs_specFits), (157, fs_specPushB)]) L0 Tryz.f133 [.vec 0, .agg [.int .i64 cA, .int .i64 cB, .int .i64 cX, .int .i64 cY, .int .i64 cD], .bool z] [(true, .vec .body xs)] Q =
    (((0 : Int) ≤ cA ∧ cA < (↑(List.length xs) : Int)) ∧ ((0 : Int) ≤ cB ∧ cB < (↑(List.length xs) : Int)) ∧ (POk (Ty.ix Ty.body xs (Int.toNat cA)) ∧ POk (Ty.ix Ty.body xs (Int.toNat cB))) ∧ ifB (Vec.X (pushV (Ty.ix Ty.body xs (Int.toNat cA)) (Ty.ix Ty.body xs (Int.toNat cB)) (Hit.mk (Vec.mk cX cY) cD) z) == (0 : Int) && Vec.Y (pushV (Ty.ix Ty.body xs (Int.toNat cA)) (Ty.ix Ty.body xs (Int.toNat cB)) (Hit.mk (Vec.mk cX cY) cD) z) == (0 : Int)) (Q (SV.tup []) [(true, Blk.vec Ty.body xs)]) (((0 : Int) ≤ cA ∧ cA < (↑(List.length xs) : Int)) ∧ ((0 : Int) ≤ cB ∧ cB < (↑(List.length xs) : Int)) ∧ ifB (!(bearsF (Ty.ix Ty.body xs (Int.toNat cA)) (oppV (pushV (Ty.ix Ty.body xs (Int.toNat cA)) (Ty.ix Ty.body xs (Int.toNat cB)) (Hit.mk (Vec.mk cX cY) cD) z)) && bearsF (Ty.ix Ty.body xs (Int.toNat cB)) (pushV (Ty.ix Ty.body xs (Int.toNat cA)) (Ty.ix Ty.body xs (Int.toNat cB)) (Hit.mk (Vec.mk cX cY) cD) z))) (Q (SV.tup []) [(true, Blk.vec Ty.body xs)]) (((0 : Int) ≤ cA ∧ cA < (↑(List.length xs) : Int)) ∧ ((0 : Int) ≤ cA ∧ cA < (↑(List.length xs) : Int)) ∧ ((0 : Int) ≤ cB ∧ cB < (↑(List.length (List.set xs (Int.toNat cA) (pushB (Ty.ix Ty.body xs (Int.toNat cA)) (Vec.mk (IntKind.wrap IntKind.i64 ((0 : Int) - Vec.X (pushV (Ty.ix Ty.body xs (Int.toNat cA)) (Ty.ix Ty.body xs (Int.toNat cB)) (Hit.mk (Vec.mk cX cY) cD) z))) (IntKind.wrap IntKind.i64 ((0 : Int) - Vec.Y (pushV (Ty.ix Ty.body xs (Int.toNat cA)) (Ty.ix Ty.body xs (Int.toNat cB)) (Hit.mk (Vec.mk cX cY) cD) z))))))) : Int)) ∧ ((0 : Int) ≤ cB ∧ cB < (↑(List.length (List.set xs (Int.toNat cA) (pushB (Ty.ix Ty.body xs (Int.toNat cA)) (Vec.mk (IntKind.wrap IntKind.i64 ((0 : Int) - Vec.X (pushV (Ty.ix Ty.body xs (Int.toNat cA)) (Ty.ix Ty.body xs (Int.toNat cB)) (Hit.mk (Vec.mk cX cY) cD) z))) (IntKind.wrap IntKind.i64 ((0 : Int) - Vec.Y (pushV (Ty.ix Ty.body xs (Int.toNat cA)) (Ty.ix Ty.body xs (Int.toNat cB)) (Hit.mk (Vec.mk cX cY) cD) z))))))) : Int)) ∧ Q (SV.tup []) [(true, Blk.vec Ty.body (List.set (List.set xs (Int.toNat cA) (pushB (Ty.ix Ty.body xs (Int.toNat cA)) (Vec.mk (IntKind.wrap IntKind.i64 ((0 : Int) - Vec.X (pushV (Ty.ix Ty.body xs (Int.toNat cA)) (Ty.ix Ty.body xs (Int.toNat cB)) (Hit.mk (Vec.mk cX cY) cD) z))) (IntKind.wrap IntKind.i64 ((0 : Int) - Vec.Y (pushV (Ty.ix Ty.body xs (Int.toNat cA)) (Ty.ix Ty.body xs (Int.toNat cB)) (Hit.mk (Vec.mk cX cY) cD) z)))))) (Int.toNat cB) (pushB (Ty.ix Ty.body (List.set xs (Int.toNat cA) (pushB (Ty.ix Ty.body xs (Int.toNat cA)) (Vec.mk (IntKind.wrap IntKind.i64 ((0 : Int) - Vec.X (pushV (Ty.ix Ty.body xs (Int.toNat cA)) (Ty.ix Ty.body xs (Int.toNat cB)) (Hit.mk (Vec.mk cX cY) cD) z))) (IntKind.wrap IntKind.i64 ((0 : Int) - Vec.Y (pushV (Ty.ix Ty.body xs (Int.toNat cA)) (Ty.ix Ty.body xs (Int.toNat cB)) (Hit.mk (Vec.mk cX cY) cD) z)))))) (Int.toNat cB)) (pushV (Ty.ix Ty.body xs (Int.toNat cA)) (Ty.ix Ty.body xs (Int.toNat cB)) (Hit.mk (Vec.mk cX cY) cD) z))))]))) := by kernel_rfl

theorem ok_specOne : FsOk Tryz.prog 133 fs_specOne := fsOk_of tt_ok (tabFs_cons ok_l8Push (tabFs_cons ok_specFits (tabFs_cons ok_specPushB tabFs_nil))) mixed Tryz.func133 (by kernel_rfl) (by kernel_rfl) (by
    intro args LL p r HH h hp
    unfold fs_specOne at h
    dsimp only at h
    split at h
    case h_2 => cases h
    rename_i cA cB cX cY cD z xs
    simp only [Option.some.injEq, Prod.mk.injEq] at h
    obtain ⟨rfl, rfl, rfl⟩ := h
    refine ⟨by simp [Form, stays], L0, ?_⟩
    rw [vc_specOne]
    try dsimp only
    obtain ⟨hA, hc⟩ := hp _ rfl
    have hne := ct_ne hc
    obtain ⟨a0, a1, b0, b1, ne⟩ := hc
    dsimp only at a0 a1 b0 b1 ne hne
    have PA := hA cA.toNat (by omega)
    have PB := hA cB.toNat (by omega)
    refine ⟨⟨a0, a1⟩, ⟨b0, b1⟩, ⟨PA, PB⟩, ?_⟩
    unfold pushOne
    dsimp only
    generalize pushV (Ty.body.ix xs cA.toNat) (Ty.body.ix xs cB.toNat) ⟨⟨cX, cY⟩, cD⟩ z = p
    have b2 : cB < ((xs.set cA.toNat (pushB (Ty.body.ix xs cA.toNat) ⟨IntKind.i64.wrap (0 - p.X), IntKind.i64.wrap (0 - p.Y)⟩)).length : Int) := by rw [List.length_set]; exact b1
    refine ifB_of (fun c => ?_) (fun c => ⟨⟨a0, a1⟩, ⟨b0, b1⟩, ifB_of (fun c2 => ?_) (fun c2 => ⟨⟨a0, a1⟩, ⟨a0, a1⟩, ⟨b0, b2⟩, ⟨b0, b2⟩, ?_⟩)⟩)
    · have c : zeroV2 p = true := c
      simp [c]
    · have c2 := not_true c2
      rw [Bool.and_assoc, c2]
      simp
    · have c : zeroV2 p = false := c
      have c2 := not_false c2
      rw [Bool.and_assoc, c2, c, ix_set_ne (T := .body) hne]
      exact ⟨rfl, rfl⟩)

noncomputable def fs_specCopyB : Fs := ⟨[], fun args H => match args, H with
  | [.vec 0], [(false, .vec .body xs)] => some ((some (xs.length ≤ 1048576)), .vec 1, [(false, .vec .body xs), (true, .vec .body xs)])
  | _, _ => none⟩

theorem vc_specCopyB (xs : List Body) (Q : SV → List Ent → Prop) :
    fnVC tt (look []) L0 Tryz.f67 [.vec 0] [(false, .vec .body xs)] Q =
    (((0 : Nat) + List.length xs) * (96 : Nat) ≤ room ∧ Q (SV.vec (1 : Nat)) [(false, Blk.vec Ty.body xs), (true, Blk.vec Ty.body ([] ++ xs))]) := by kernel_rfl

theorem ok_specCopyB : FsOk Tryz.prog 67 fs_specCopyB := fsOk_of tt_ok tabFs_nil mixed Tryz.func67 (by kernel_rfl) (by kernel_rfl) (by
    intro args LL p r HH h hp
    unfold fs_specCopyB at h
    dsimp only at h
    split at h
    case h_2 => cases h
    rename_i xs
    simp only [Option.some.injEq, Prod.mk.injEq] at h
    obtain ⟨rfl, rfl, rfl⟩ := h
    refine ⟨by simp [Form, stays], L0, ?_⟩
    rw [vc_specCopyB]
    try dsimp only
    have hb := hp _ rfl
    refine ⟨by simp only [room, List.length_nil]; omega, ?_⟩
    simp)

noncomputable def fs_cloneBodies : Fs := ⟨[], fun args H => match args, H with
  | [.vec 0], [(false, .vec .body xs)] => some ((some (xs.length ≤ 1048576)), .vec 1, [(false, .vec .body xs), (true, .vec .body xs)])
  | _, _ => none⟩

theorem vc_cloneBodies (xs : List Body) (Q : SV → List Ent → Prop) :
    fnVC tt (look []) L0 Tryz.f53 [.vec 0] [(false, .vec .body xs)] Q =
    (∀ (b : Bool), (b = true → List.length xs = (0 : Nat)) → ifB b (Q (SV.vec (1 : Nat)) [(false, Blk.vec Ty.body xs), (true, Blk.vec Ty.body [])]) (((0 : Nat) + List.length xs) * (96 : Nat) ≤ room ∧ Q (SV.vec (1 : Nat)) [(false, Blk.vec Ty.body xs), (true, Blk.vec Ty.body ([] ++ xs))])) := by kernel_rfl

theorem ok_cloneBodies : FsOk Tryz.prog 53 fs_cloneBodies := fsOk_of tt_ok tabFs_nil mixed Tryz.func53 (by kernel_rfl) (by kernel_rfl) (by
    intro args LL p r HH h hp
    unfold fs_cloneBodies at h
    dsimp only at h
    split at h
    case h_2 => cases h
    rename_i xs
    simp only [Option.some.injEq, Prod.mk.injEq] at h
    obtain ⟨rfl, rfl, rfl⟩ := h
    refine ⟨by simp [Form, stays], L0, ?_⟩
    rw [vc_cloneBodies]
    try dsimp only
    have hb := hp _ rfl
    intro z hz
    refine ifB_of (fun c => ?_) (fun c => ⟨by simp only [room]; omega, ?_⟩)
    · have := List.length_eq_zero_iff.1 (hz c)
      subst this
      exact ⟨rfl, rfl⟩
    · simp)

theorem pushRound_drop {cs : List Contact} {k : Nat} (h : k < cs.length) (ys : List Body) (z : Bool) : pushRound ys z (cs.drop k) = pushRound (pushOne ys (Ty.ix .contact cs k) z) z (cs.drop (k + 1)) := by
  rw [drop_ix (T := .contact) h]
  rfl
def LSall1  : LS where
  S := List Body × List Contact × Unit × List Body × Int
  live := [(1, [none]), (5, [some .body]), (6, [none])]
  shape := fun s => ([.vec 1, .vec 2, .int .i64 s.2.2.2.2], [(false, .vec .body s.1), (false, .vec .contact s.2.1), (true, .vec .body s.2.2.2.1)])
  get := fun v h => match v, h with
    | [.vec 1, .vec 2, .int .i64 j], [(false, .vec .body xs), (false, .vec .contact cs), (true, .vec .body ys)] => some (xs, cs, (), ys, j)
    | _, _ => none
  inv := fun s0 s => Holds (s.1 = s0.1 ∧ s.2.1 = s0.2.1 ∧ 0 ≤ s.2.2.2.2 ∧ s.2.2.2.2 ≤ 4 ∧ Kin s0.1 s.2.2.2.1 ∧ pushRest s0.2.1 (4 - s.2.2.2.2).toNat s.2.2.2.1 = pushAllF s0.1 s0.2.1)
  mu := fun s => (4 - s.2.2.2.2).toNat
  ok := by
    intro v h s hg
    try dsimp only at hg
    split at hg <;> cases hg
    rfl

def LSall2  : LS where
  S := List Body × List Contact × Unit × List Body × Int × Int
  live := [(1, [none]), (5, [some .body]), (6, [none]), (7, [none])]
  shape := fun s => ([.vec 1, .vec 2, .int .i64 s.2.2.2.2.1, .int .i64 s.2.2.2.2.2], [(false, .vec .body s.1), (false, .vec .contact s.2.1), (true, .vec .body s.2.2.2.1)])
  get := fun v h => match v, h with
    | [.vec 1, .vec 2, .int .i64 j, .int .i64 k], [(false, .vec .body xs), (false, .vec .contact cs), (true, .vec .body ys)] => some (xs, cs, (), ys, j, k)
    | _, _ => none
  inv := fun s0 s => Holds (s.1 = s0.1 ∧ s.2.1 = s0.2.1 ∧ s.2.2.2.2.1 = s0.2.2.2.2.1 ∧ 0 ≤ s.2.2.2.2.2 ∧ s.2.2.2.2.2 ≤ s0.2.1.length ∧ Kin s0.1 s.2.2.2.1 ∧ pushRound s.2.2.2.1 (s0.2.2.2.2.1 == 0) (s0.2.1.drop s.2.2.2.2.2.toNat) = pushRound s0.2.2.2.1 (s0.2.2.2.2.1 == 0) (s0.2.1.drop s0.2.2.2.2.2.toNat))
  mu := fun s => ((s.2.1.length : Int) - s.2.2.2.2.2).toNat
  ok := by
    intro v h s hg
    try dsimp only at hg
    split at hg <;> cases hg
    rfl

def L_specAll : Loops := fun n => match n with
  | 3 => some LSall1
  | 6 => some LSall2
  | _ => none
noncomputable def fs_specAll : Fs := ⟨[], fun args H => match args, H with
  | [.vec 0, .vec 1], [(false, .vec .body xs), (false, .vec .contact cs)] => some ((some (AllP xs ∧ xs.length ≤ 12 ∧ CtsOk xs.length cs)), .vec 2, [(false, .vec .body xs), (false, .vec .contact cs), (true, .vec .body (pushAllF xs cs))])
  | _, _ => none⟩

theorem vc_specAll (xs : List Body) (cs : List Contact) (Q : SV → List Ent → Prop) :
    fnVC tt (look [(67, fs_specCopyB), (133, fs_specOne)]) (L_specAll) Tryz.f101 [.vec 0, .vec 1] [(false, .vec .body xs), (false, .vec .contact cs)] Q =
    (let w_ := IntKind.wrap IntKind.i64; let n_ := Int.toNat; List.length xs ≤ (1048576 : Nat) ∧ Holds (xs = xs ∧ cs = cs ∧ (0 : Int) ≤ (0 : Int) ∧ (0 : Int) ≤ (4 : Int) ∧ Kin xs xs ∧ pushRest cs (n_ ((4 : Int) - (0 : Int))) xs = pushAllF xs cs) ∧ ∀ (y4 : List Body × List Contact × Unit × List Body × Int), let y4f0_ := Prod.fst y4; let y4f1_ := Prod.fst (Prod.snd y4); let y4s3_ := Prod.snd (Prod.snd (Prod.snd y4)); let y4f3_ := Prod.fst (Prod.snd (Prod.snd (Prod.snd y4))); let y4s4_ := Prod.snd (Prod.snd (Prod.snd (Prod.snd y4))); let A5_ := (List.drop (n_ (0 : Int)) y4f1_); Holds (Prod.fst y4 = xs ∧ y4f1_ = cs ∧ (0 : Int) ≤ y4s4_ ∧ y4s4_ ≤ (4 : Int) ∧ Kin xs y4f3_ ∧ pushRest cs (n_ ((4 : Int) - y4s4_)) y4f3_ = pushAllF xs cs) → ifB (decide (Prod.snd y4s3_ < (4 : Int))) (Holds (Prod.fst y4 = y4f0_ ∧ y4f1_ = y4f1_ ∧ y4s4_ = y4s4_ ∧ (0 : Int) ≤ (0 : Int) ∧ (0 : Int) ≤ (↑(List.length y4f1_) : Int) ∧ Kin y4f0_ y4f3_ ∧ pushRound y4f3_ (Prod.snd y4s3_ == (0 : Int)) A5_ = pushRound y4f3_ (Prod.snd y4s3_ == (0 : Int)) A5_) ∧ ∀ (y1 : List Body × List Contact × Unit × List Body × Int × Int), let y1f0_ := Prod.fst y1; let y1s1_ := Prod.snd y1; let y1f1_ := Prod.fst (Prod.snd y1); let y1f3_ := Prod.fst (Prod.snd (Prod.snd (Prod.snd y1))); let y1s4_ := Prod.snd (Prod.snd (Prod.snd (Prod.snd y1))); let y1f4_ := Prod.fst (Prod.snd (Prod.snd (Prod.snd (Prod.snd y1)))); let y1s5_ := Prod.snd (Prod.snd (Prod.snd (Prod.snd (Prod.snd y1)))); let A3_ := y4s3_; let A2_ := (Ty.ix Ty.contact y1f1_ (n_ y1s5_)); Holds (Prod.fst y1 = y4f0_ ∧ y1f1_ = y4f1_ ∧ y1f4_ = Prod.snd A3_ ∧ (0 : Int) ≤ y1s5_ ∧ y1s5_ ≤ (↑(List.length y4f1_) : Int) ∧ Kin y4f0_ y1f3_ ∧ pushRound y1f3_ (Prod.snd A3_ == (0 : Int)) (List.drop (n_ y1s5_) y4f1_) = pushRound (Prod.fst A3_) (Prod.snd A3_ == (0 : Int)) A5_) → ifB (decide (Prod.snd y1s4_ < (↑(List.length y1f1_) : Int))) (((0 : Int) ≤ y1s5_ ∧ y1s5_ < (↑(List.length y1f1_) : Int)) ∧ ((∀ (k : Nat), k < List.length y1f3_ → POk (Ty.ix Ty.body y1f3_ k)) ∧ (0 : Int) ≤ Contact.A A2_ ∧ Contact.A A2_ < (↑(List.length y1f3_) : Int) ∧ (0 : Int) ≤ Contact.B A2_ ∧ Contact.B A2_ < (↑(List.length y1f3_) : Int) ∧ Contact.A A2_ ≠ Contact.B A2_) ∧ Holds (Prod.fst y1 = y4f0_ ∧ y1f1_ = y4f1_ ∧ y1f4_ = Prod.snd A3_ ∧ (0 : Int) ≤ w_ (Prod.snd y1s4_ + (1 : Int)) ∧ w_ (Prod.snd y1s4_ + (1 : Int)) ≤ (↑(List.length y4f1_) : Int) ∧ Kin y4f0_ (pushOne y1f3_ A2_ (Prod.fst y1s4_ == (0 : Int))) ∧ pushRound (pushOne y1f3_ A2_ (Prod.fst y1s4_ == (0 : Int))) (Prod.snd A3_ == (0 : Int)) (List.drop (n_ (w_ (Prod.snd y1s4_ + (1 : Int)))) y4f1_) = pushRound (Prod.fst A3_) (Prod.snd A3_ == (0 : Int)) A5_) ∧ n_ ((↑(List.length y1f1_) : Int) - w_ (Prod.snd y1s4_ + (1 : Int))) < n_ ((↑(List.length y1f1_) : Int) - y1s5_)) (Holds (Prod.fst y1 = xs ∧ y1f1_ = cs ∧ (0 : Int) ≤ w_ (Prod.fst y1s4_ + (1 : Int)) ∧ w_ (Prod.fst y1s4_ + (1 : Int)) ≤ (4 : Int) ∧ Kin xs y1f3_ ∧ pushRest cs (n_ ((4 : Int) - w_ (Prod.fst y1s4_ + (1 : Int)))) y1f3_ = pushAllF xs cs) ∧ n_ ((4 : Int) - w_ (Prod.fst y1s4_ + (1 : Int))) < n_ ((4 : Int) - Prod.snd A3_))) (Q (SV.vec (2 : Nat)) [(false, Blk.vec Ty.body y4f0_), (false, Blk.vec Ty.contact y4f1_), (true, Blk.vec Ty.body y4f3_)])) := by kernel_rfl

theorem ok_specAll : FsOk Tryz.prog 101 fs_specAll := fsOk_of tt_ok (tabFs_cons ok_specCopyB (tabFs_cons ok_specOne tabFs_nil)) mixed Tryz.func101 (by kernel_rfl) (by kernel_rfl) (by
    intro args LL p r HH h hp
    unfold fs_specAll at h
    dsimp only at h
    split at h
    case h_2 => cases h
    rename_i xs cs
    simp only [Option.some.injEq, Prod.mk.injEq] at h
    obtain ⟨rfl, rfl, rfl⟩ := h
    refine ⟨by simp [Form, stays], (L_specAll), ?_⟩
    rw [vc_specAll]
    try dsimp only
    obtain ⟨hA, hl, hc⟩ := hp _ rfl
    have hc0 := hc.1
    refine ⟨by omega, ⟨(by trivial), (by trivial), by omega, by omega, .refl _, pushRest_all _ _⟩, ?_⟩
    rintro ⟨xs', cs', u, ys, j⟩ ⟨h⟩
    dsimp only at h ⊢
    obtain ⟨rfl, rfl, j0, j1, hk, h2⟩ := h
    refine ifB_of (fun c1 => ?_) (fun c1 => ?_)
    · have c1 := of_decide_eq_true c1
      rw [pushRest_at j0 c1] at h2
      refine ⟨⟨(by trivial), (by trivial), (by trivial), by omega, by omega, hk, (by trivial)⟩, ?_⟩
      rintro ⟨xs'', cs'', u', zs, j', k⟩ ⟨h⟩
      dsimp only at h ⊢
      obtain ⟨rfl, rfl, rfl, k0, k1, hk2, h3⟩ := h
      refine ifB_of (fun c2 => ?_) (fun c2 => ?_)
      · have c2 := of_decide_eq_true c2
        have hik : k.toNat < cs''.length := by omega
        rw [pushRound_drop hik] at h3
        have e2 : (k + 1).toNat = k.toNat + 1 := by omega
        have w : IntKind.i64.wrap (k + 1) = k + 1 := wrap_small (by omega) (by omega)
        have hck := hc.2 _ hik
        rw [w, e2]
        refine ⟨⟨k0, c2⟩, ⟨allP_kin hk2 hA, hk2.1 ▸ hck⟩, ⟨(by trivial), (by trivial), (by trivial), by omega, by omega, ?_, h3⟩, by omega⟩
        exact hk2.trans (kin_pushOne (ct_ne hck))
      · have c2 := of_decide_eq_false c2
        have w : IntKind.i64.wrap (j' + 1) = j' + 1 := wrap_small (by omega) (by omega)
        rw [drop_end (by omega)] at h3
        have h3 : zs = pushRound ys (j' == 0) cs'' := h3
        rw [w]
        refine ⟨⟨(by trivial), (by trivial), by omega, by omega, hk2, by rw [h3]; exact h2⟩, by omega⟩
    · have c1 := of_decide_eq_false c1
      have e : (4 - j).toNat = 0 := by omega
      rw [e] at h2
      have h2 : ys = _ := h2
      rw [h2]
      exact ⟨rfl, rfl⟩)

end Go.Proofs.YtnahfbjdicjdpaaGreat.Sym

namespace Go.Proofs.YtnahfbjdicjdpaaGreat.Sym
open Go
set_option linter.unusedVariables false
set_option linter.unusedSimpArgs false
set_option maxRecDepth 100000
noncomputable section

/-- Sleepy, all of a group? -/
def stillG (xs : List Body) (gs : List Int) (g : Int) (n : Nat) : Bool := allTo (fun i => !(gi gs i == g) || (Ty.ix .body xs i).Quiet == 7) n
def bedB (b : Body) : Body := { b with Quiet := 8, Drive := ⟨0, 0⟩ }
def bedAt (xs : List Body) (gs : List Int) (g : Int) (all : Bool) (i : Nat) : Body := bif all && gi gs i == g then bedB (Ty.ix .body xs i) else Ty.ix .body xs i
def settleOne (xs : List Body) (gs : List Int) (g : Int) (aw : Bool) : List Body := gen (bedAt xs gs g (aw && stillG xs gs g xs.length)) xs.length
/-- The groups from the g-th on. -/
def settleF (gs : List Int) : Nat → List Bool → List Body → List Body
  | _, [], xs => xs
  | g, a :: r, xs => settleF gs (g + 1) r (settleOne xs gs g a)
@[simp] theorem length_settleOne (xs : List Body) (gs : List Int) (g : Int) (aw : Bool) : (settleOne xs gs g aw).length = xs.length := by simp [settleOne]
theorem length_settleF (gs : List Int) : ∀ (ws : List Bool) (g : Nat) (xs : List Body), (settleF gs g ws xs).length = xs.length
  | [], _, _ => rfl
  | a :: r, g, xs => (length_settleF gs r (g + 1) (settleOne xs gs g a)).trans (length_settleOne xs gs g a)
theorem ix_fill3 {T : Ty} (f : Nat → T.El) (xs : List T.El) {i : Nat} (h : i < xs.length) : T.ix (fill f xs i) i = T.ix xs i := by
  apply ix_eq
  unfold fill
  rw [List.getElem?_append_right (by simp)]
  simp [ix_get (T := T) h]
end
end Go.Proofs.YtnahfbjdicjdpaaGreat.Sym

namespace Go.Proofs.YtnahfbjdicjdpaaGreat.Sym
open Go
set_option linter.unusedVariables false
set_option linter.unusedSimpArgs false
set_option maxRecDepth 100000

end Go.Proofs.YtnahfbjdicjdpaaGreat.Sym

namespace Go.Proofs.YtnahfbjdicjdpaaGreat.Sym
open Go
set_option linter.unusedVariables false
set_option linter.unusedSimpArgs false
set_option maxRecDepth 100000

def farN (c : Contact) : Int := W ((W (c.Hit.Deep - 64)).tdiv 4)
theorem apartOne_stay {xs : List Body} {c : Contact} (h : farN c ≤ 0) : apartOne xs c = xs := by
  unfold apartOne
  dsimp only
  exact if_pos h
noncomputable def fs_specApartOne : Fs := ⟨[true], fun args H => match args, H with
  | [.vec 0, .agg [.int .i64 cA, .int .i64 cB, .int .i64 cX, .int .i64 cY, .int .i64 cD]], [(true, .vec .body xs)] => some ((some (AllP xs ∧ ctOk xs.length ⟨cA, cB, ⟨⟨cX, cY⟩, cD⟩⟩)), .tup [], [(true, .vec .body (apartOne xs ⟨cA, cB, ⟨⟨cX, cY⟩, cD⟩⟩))])
  | _, _ => none⟩

theorem vc_specApartOne (xs : List Body) (cA : Int) (cB : Int) (cX : Int) (cY : Int) (cD : Int) (Q : SV → List Ent → Prop) :
    fnVC tt (look [(158, fs_specShare), (135, fs_specMoveB)]) L0 Tryz.f134 [.vec 0, .agg [.int .i64 cA, .int .i64 cB, .int .i64 cX, .int .i64 cY, .int .i64 cD]] [(true, .vec .body xs)] Q =
    (let w_ := IntKind.wrap IntKind.i64; let vb_ := Blk.vec Ty.body; let A5_ := (Ty.ix Ty.body xs (Int.toNat cA)); let A4_ := (w_ (Int.tdiv (w_ (cD - (64 : Int))) (4 : Int))); let A3_ := (Ty.ix Ty.body xs (Int.toNat cB)); let A2_ := (moveB A3_ (Vec.mk (w_ (Int.tdiv (w_ (cX * shareF A3_ A5_ A4_)) (256 : Int))) (w_ (Int.tdiv (w_ (cY * shareF A3_ A5_ A4_)) (256 : Int))))); let A1_ := (List.set xs (Int.toNat cA) (moveB A5_ (Vec.mk (w_ (Int.tdiv (w_ (w_ ((0 : Int) - cX) * shareF A5_ A3_ A4_)) (256 : Int))) (w_ (Int.tdiv (w_ (w_ ((0 : Int) - cY) * shareF A5_ A3_ A4_)) (256 : Int)))))); ifB (decide (w_ (Int.tdiv (w_ (cD - (64 : Int))) (4 : Int)) ≤ (0 : Int))) (Q (SV.tup []) [(true, vb_ xs)]) (((0 : Int) ≤ cA ∧ cA < (↑(List.length xs) : Int)) ∧ ((0 : Int) ≤ cB ∧ cB < (↑(List.length xs) : Int)) ∧ ((0 : Int) ≤ Body.Mass A5_ ∧ Body.Mass A5_ ≤ (1000000 : Int) ∧ (0 : Int) ≤ Body.Mass A3_ ∧ Body.Mass A3_ ≤ (1000000 : Int)) ∧ ((0 : Int) ≤ Body.Mass A3_ ∧ Body.Mass A3_ ≤ (1000000 : Int) ∧ (0 : Int) ≤ Body.Mass A5_ ∧ Body.Mass A5_ ≤ (1000000 : Int)) ∧ ifB (decide (Body.Mass A5_ > (0 : Int))) (((0 : Int) ≤ cA ∧ cA < (↑(List.length xs) : Int)) ∧ ifB (decide (Body.Mass A3_ > (0 : Int))) (((0 : Int) ≤ cB ∧ cB < (↑(List.length A1_) : Int)) ∧ Q (SV.tup []) [(true, vb_ (List.set A1_ (Int.toNat cB) A2_))]) (Q (SV.tup []) [(true, vb_ A1_)])) (ifB (decide (Body.Mass A3_ > (0 : Int))) (((0 : Int) ≤ cB ∧ cB < (↑(List.length xs) : Int)) ∧ Q (SV.tup []) [(true, vb_ (List.set xs (Int.toNat cB) A2_))]) (Q (SV.tup []) [(true, vb_ xs)])))) := by kernel_rfl

theorem ok_specApartOne : FsOk Tryz.prog 134 fs_specApartOne := fsOk_of tt_ok (tabFs_cons ok_specShare (tabFs_cons ok_specMoveB tabFs_nil)) mixed Tryz.func134 (by kernel_rfl) (by kernel_rfl) (by
    intro args LL p r HH h hp
    unfold fs_specApartOne at h
    dsimp only at h
    split at h
    case h_2 => cases h
    rename_i cA cB cX cY cD xs
    simp only [Option.some.injEq, Prod.mk.injEq] at h
    obtain ⟨rfl, rfl, rfl⟩ := h
    refine ⟨by simp [Form, stays], L0, ?_⟩
    rw [vc_specApartOne]
    try dsimp only
    obtain ⟨hA, hc⟩ := hp _ rfl
    have hne := ct_ne hc
    obtain ⟨a0, a1, b0, b1, ne⟩ := hc
    dsimp only at a0 a1 b0 b1 ne hne
    have PA := hA cA.toNat (by omega)
    have PB := hA cB.toNat (by omega)
    have mA := PA.m0
    have mB := PB.m0
    have mA1 := PA.m1
    have mB1 := PB.m1
    refine ifB_of (fun c => ?_) (fun c => ⟨⟨a0, a1⟩, ⟨b0, b1⟩, ⟨mA, by omega, mB, by omega⟩, ⟨mB, by omega, mA, by omega⟩, ifB_of (fun c2 => ⟨⟨a0, a1⟩, ifB_of (fun c3 => ⟨⟨b0, by rw [List.length_set]; exact b1⟩, ?_⟩) (fun c3 => ?_)⟩) (fun c2 => ifB_of (fun c3 => ⟨⟨b0, b1⟩, ?_⟩) (fun c3 => ?_))⟩)
    · rw [apartOne_stay (c := ⟨cA, cB, ⟨⟨cX, cY⟩, cD⟩⟩) (of_decide_eq_true c)]
      exact ⟨rfl, rfl⟩
    · have c2 := of_decide_eq_true c2
      have c3 := of_decide_eq_true c3
      unfold apartOne
      dsimp only
      rw [if_neg (of_decide_eq_false c), if_neg (show ¬ (Ty.ix .body xs cA.toNat).Mass = 0 by omega), if_neg (show ¬ (Ty.ix .body xs cB.toNat).Mass = 0 by omega)]
      exact ⟨rfl, rfl⟩
    · have c2 := of_decide_eq_true c2
      have c3 := of_decide_eq_false c3
      unfold apartOne
      dsimp only
      rw [if_neg (of_decide_eq_false c), if_neg (show ¬ (Ty.ix .body xs cA.toNat).Mass = 0 by omega), if_pos (show (Ty.ix .body xs cB.toNat).Mass = 0 by omega)]
      exact ⟨rfl, rfl⟩
    · have c2 := of_decide_eq_false c2
      have c3 := of_decide_eq_true c3
      unfold apartOne
      dsimp only
      rw [if_neg (of_decide_eq_false c), if_pos (show (Ty.ix .body xs cA.toNat).Mass = 0 by omega), if_neg (show ¬ (Ty.ix .body xs cB.toNat).Mass = 0 by omega)]
      exact ⟨rfl, rfl⟩
    · have c2 := of_decide_eq_false c2
      have c3 := of_decide_eq_false c3
      unfold apartOne
      dsimp only
      rw [if_neg (of_decide_eq_false c), if_pos (show (Ty.ix .body xs cA.toNat).Mass = 0 by omega), if_pos (show (Ty.ix .body xs cB.toNat).Mass = 0 by omega)]
      exact ⟨rfl, rfl⟩)

def LSsap  : LS where
  S := List Body × List Contact × Unit × List Body × Int
  live := [(1, [none]), (5, [some .body]), (6, [none])]
  shape := fun s => ([.vec 1, .vec 2, .int .i64 s.2.2.2.2], [(false, .vec .body s.1), (false, .vec .contact s.2.1), (true, .vec .body s.2.2.2.1)])
  get := fun v h => match v, h with
    | [.vec 1, .vec 2, .int .i64 k], [(false, .vec .body xs), (false, .vec .contact cs), (true, .vec .body ys)] => some (xs, cs, (), ys, k)
    | _, _ => none
  inv := fun s0 s => Holds (s.1 = s0.1 ∧ s.2.1 = s0.2.1 ∧ 0 ≤ s.2.2.2.2 ∧ s.2.2.2.2 ≤ s0.2.1.length ∧ Kin s0.1 s.2.2.2.1 ∧ apartF s.2.2.2.1 (s0.2.1.drop s.2.2.2.2.toNat) = apartF s0.1 s0.2.1)
  mu := fun s => ((s.2.1.length : Int) - s.2.2.2.2).toNat
  ok := by
    intro v h s hg
    try dsimp only at hg
    split at hg <;> cases hg
    rfl

def L_sap : Loops := fun n => match n with
  | 3 => some LSsap
  | _ => none
theorem apartF_drop {cs : List Contact} {k : Nat} (h : k < cs.length) (ys : List Body) : apartF ys (cs.drop k) = apartF (apartOne ys (Ty.ix .contact cs k)) (cs.drop (k + 1)) := by
  rw [drop_ix (T := .contact) h]
  rfl
noncomputable def fs_specAparts : Fs := ⟨[], fun args H => match args, H with
  | [.vec 0, .vec 1], [(false, .vec .body xs), (false, .vec .contact cs)] => some ((some (AllP xs ∧ xs.length ≤ 12 ∧ CtsOk xs.length cs)), .vec 2, [(false, .vec .body xs), (false, .vec .contact cs), (true, .vec .body (apartF xs cs))])
  | _, _ => none⟩

theorem vc_specAparts (xs : List Body) (cs : List Contact) (Q : SV → List Ent → Prop) :
    fnVC tt (look [(67, fs_specCopyB), (134, fs_specApartOne)]) (L_sap) Tryz.f103 [.vec 0, .vec 1] [(false, .vec .body xs), (false, .vec .contact cs)] Q =
    (let w_ := IntKind.wrap IntKind.i64; List.length xs ≤ (1048576 : Nat) ∧ Holds (xs = xs ∧ cs = cs ∧ (0 : Int) ≤ (0 : Int) ∧ (0 : Int) ≤ (↑(List.length cs) : Int) ∧ Kin xs xs ∧ apartF xs (List.drop (Int.toNat (0 : Int)) cs) = apartF xs cs) ∧ ∀ (y1 : List Body × List Contact × Unit × List Body × Int), let y1s1_ := Prod.snd y1; let y1f1_ := Prod.fst (Prod.snd y1); let y1s3_ := Prod.snd (Prod.snd (Prod.snd y1)); let y1f3_ := Prod.fst (Prod.snd (Prod.snd (Prod.snd y1))); let y1s4_ := Prod.snd (Prod.snd (Prod.snd (Prod.snd y1))); let A2_ := (Ty.ix Ty.contact y1f1_ (Int.toNat y1s4_)); Holds (Prod.fst y1 = xs ∧ y1f1_ = cs ∧ (0 : Int) ≤ y1s4_ ∧ y1s4_ ≤ (↑(List.length cs) : Int) ∧ Kin xs y1f3_ ∧ apartF y1f3_ (List.drop (Int.toNat y1s4_) cs) = apartF xs cs) → ifB (decide (Prod.snd y1s3_ < (↑(List.length y1f1_) : Int))) (((0 : Int) ≤ y1s4_ ∧ y1s4_ < (↑(List.length y1f1_) : Int)) ∧ ((∀ (k : Nat), k < List.length y1f3_ → POk (Ty.ix Ty.body y1f3_ k)) ∧ (0 : Int) ≤ Contact.A A2_ ∧ Contact.A A2_ < (↑(List.length y1f3_) : Int) ∧ (0 : Int) ≤ Contact.B A2_ ∧ Contact.B A2_ < (↑(List.length y1f3_) : Int) ∧ Contact.A A2_ ≠ Contact.B A2_) ∧ Holds (Prod.fst y1 = xs ∧ y1f1_ = cs ∧ (0 : Int) ≤ w_ (Prod.snd y1s3_ + (1 : Int)) ∧ w_ (Prod.snd y1s3_ + (1 : Int)) ≤ (↑(List.length cs) : Int) ∧ Kin xs (apartOne y1f3_ A2_) ∧ apartF (apartOne y1f3_ A2_) (List.drop (Int.toNat (w_ (Prod.snd y1s3_ + (1 : Int)))) cs) = apartF xs cs) ∧ Int.toNat ((↑(List.length y1f1_) : Int) - w_ (Prod.snd y1s3_ + (1 : Int))) < Int.toNat ((↑(List.length y1f1_) : Int) - y1s4_)) (Q (SV.vec (2 : Nat)) [(false, Blk.vec Ty.body (Prod.fst y1)), (false, Blk.vec Ty.contact y1f1_), (true, Blk.vec Ty.body y1f3_)])) := by kernel_rfl

theorem ok_specAparts : FsOk Tryz.prog 103 fs_specAparts := fsOk_of tt_ok (tabFs_cons ok_specCopyB (tabFs_cons ok_specApartOne tabFs_nil)) mixed Tryz.func103 (by kernel_rfl) (by kernel_rfl) (by
    intro args LL p r HH h hp
    unfold fs_specAparts at h
    dsimp only at h
    split at h
    case h_2 => cases h
    rename_i xs cs
    simp only [Option.some.injEq, Prod.mk.injEq] at h
    obtain ⟨rfl, rfl, rfl⟩ := h
    refine ⟨by simp [Form, stays], (L_sap), ?_⟩
    rw [vc_specAparts]
    try dsimp only
    obtain ⟨hA, hl, hc⟩ := hp _ rfl
    have hc0 := hc.1
    refine ⟨by omega, ⟨(by trivial), (by trivial), by omega, by omega, .refl _, (by trivial)⟩, ?_⟩
    rintro ⟨xs', cs', u, ys, k⟩ ⟨h⟩
    dsimp only at h ⊢
    obtain ⟨rfl, rfl, k0, k1, hk2, h3⟩ := h
    refine ifB_of (fun c2 => ?_) (fun c2 => ?_)
    · have c2 := of_decide_eq_true c2
      have hik : k.toNat < cs'.length := by omega
      rw [apartF_drop hik] at h3
      have e2 : (k + 1).toNat = k.toNat + 1 := by omega
      have w : IntKind.i64.wrap (k + 1) = k + 1 := wrap_small (by omega) (by omega)
      have hck := hc.2 _ hik
      rw [w, e2]
      refine ⟨⟨k0, c2⟩, ⟨allP_kin hk2 hA, hk2.1 ▸ hck⟩, ⟨(by trivial), (by trivial), by omega, by omega, ?_, h3⟩, by omega⟩
      exact hk2.trans (kin_apartOne (ct_ne hck))
    · have c2 := of_decide_eq_false c2
      rw [drop_end (by omega)] at h3
      have h3 : ys = _ := h3
      rw [h3]
      exact ⟨rfl, rfl⟩)

end Go.Proofs.YtnahfbjdicjdpaaGreat.Sym

namespace Go.Proofs.YtnahfbjdicjdpaaGreat.Sym
open Go
set_option linter.unusedVariables false
set_option linter.unusedSimpArgs false
set_option maxRecDepth 100000
noncomputable section

def mapX (f : Nat → Body → Body) (xs : List Body) : List Body := gen (fun i => f i (Ty.ix .body xs i)) xs.length
@[simp] theorem length_mapX (f : Nat → Body → Body) (xs : List Body) : (mapX f xs).length = xs.length := by simp [mapX]
def wakeS (gs : List Int) (ws : List Bool) (i : Nat) (b : Body) : Body := bif b.Quiet == 8 && Ty.ix .bool ws (gi gs i).toNat then { b with Quiet := 0 } else b
def pullS (pull : Int) (_ : Nat) (b : Body) : Body := bif moves b then { b with Drive := ⟨b.Drive.X, max (W (b.Drive.Y - W (pull * b.Mass))) (-20000000)⟩ } else b
def liveF (xs : List Body) (cs : List Contact) : List Contact := cs.filter fun c => moves (Ty.ix .body xs c.A.toNat) || moves (Ty.ix .body xs c.B.toNat)
def goS (_ : Nat) (b : Body) : Body := bif moves b then moveB b (speed b) else b
def quietS (was : List Body) (i : Nat) (b : Body) : Body := bif moves b then { b with Quiet := bif isIn (speed b).X (-8) 8 && isIn (speed b).Y (-8) 8 then min (W ((Ty.ix .body was i).Quiet + 1)) 7 else 0 } else b
/-- A step of bodies that are well. -/
def stepF (xs : List Body) (pull : Int) : List Body :=
  let woken := mapX (wakeS (groupsX xs) (awkF xs xs.length)) xs
  let pulled := mapX (pullS pull) woken
  let live := liveF pulled (contactsF xs)
  settleF (groupsX xs) 0 (awkF xs xs.length) (mapX (quietS woken) (apartF (mapX goS (pushAllF pulled live)) live))
def stepOf (xs : List Body) (pull : Int) : List Body := bif bodiesOk xs && isIn pull 0 2560 then stepF xs pull else []
theorem fill_ix {f : Nat → Body} {xs ys : List Body} {i : Nat} (h : ys = fill f xs i) (hi : i < xs.length) : ys.length = xs.length ∧ Ty.ix .body ys i = Ty.ix .body xs i := by
  subst h
  exact ⟨length_fill _ _ (by omega), ix_fill3 (T := .body) _ _ hi⟩
theorem fill_go {f : Nat → Body} {xs ys : List Body} {i : Nat} (h : ys = fill f xs i) (hi : i < xs.length) {b : Body} (hb : b = f i) : ys.set i b = fill f xs (i + 1) := by
  subst h hb
  exact fill_step f xs hi
theorem fill_stay {f : Nat → Body} {xs ys : List Body} {i : Nat} (h : ys = fill f xs i) (hi : i < xs.length) (q : f i = Ty.ix .body xs i) : ys = fill f xs (i + 1) := by
  have hf := fill_ix h hi
  have := fill_go h hi (b := Ty.ix .body ys i) (by rw [q]; exact hf.2)
  rw [← this]
  exact (set_ix (T := .body) ys (by omega)).symm
theorem fill_map {f : Nat → Body → Body} {xs ys : List Body} {i : Nat} (h : ys = fill (fun e => f e (Ty.ix .body xs e)) xs i) (hi : i = xs.length) : ys = mapX f xs := by
  rw [h, fill_end _ _ hi]
  rfl
theorem groups_in {xs : List Body} (hok : bodiesOk xs = true) {i : Nat} (hi : i < xs.length) (hq : ((Ty.ix .body xs i).Quiet == 8) = true) : freeB xs i = true := by
  have h1 := bodiesOk_each hok hi
  have hq := eq_of_beq hq
  simp only [bodyOk, Bool.and_eq_true] at h1
  unfold freeB
  cases q : (Ty.ix .body xs i).Mass == 0 with
  | false => rfl
  | true =>
    exfalso
    have h2 := h1.2
    rw [if_pos (eq_of_beq q), hq] at h2
    simp at h2
theorem kin_mapX {f : Nat → Body → Body} (hf : ∀ i b, kin b (f i b)) (xs : List Body) : Kin xs (mapX f xs) := by
  refine ⟨(length_mapX f xs).symm, fun k hk => ?_⟩
  rw [show Ty.ix .body (mapX f xs) k = f k (Ty.ix .body xs k) from ix_gen (T := .body) hk]
  exact hf _ _
theorem kin_wakeS (gs : List Int) (ws : List Bool) (i : Nat) (b : Body) : kin b (wakeS gs ws i b) := by
  unfold wakeS
  cases b.Quiet == 8 && Ty.ix .bool ws (gi gs i).toNat <;> exact ⟨rfl, rfl, rfl, rfl, rfl⟩
theorem kin_pullS (pull : Int) (i : Nat) (b : Body) : kin b (pullS pull i b) := by
  unfold pullS
  cases moves b <;> exact ⟨rfl, rfl, rfl, rfl, rfl⟩
theorem kin_goS (i : Nat) (b : Body) : kin b (goS i b) := by
  unfold goS
  cases moves b
  · exact kin_refl _
  · exact kin_move _ _
theorem liveF_drop {xs : List Body} {cs : List Contact} {i : Nat} (h : i < cs.length) : liveF xs (cs.drop i) = (bif moves (Ty.ix .body xs (Ty.ix .contact cs i).A.toNat) || moves (Ty.ix .body xs (Ty.ix .contact cs i).B.toNat) then [Ty.ix .contact cs i] else []) ++ liveF xs (cs.drop (i + 1)) := by
  unfold liveF
  rw [drop_ix (T := .contact) h, List.filter_cons]
  cases moves (Ty.ix .body xs (Ty.ix .contact cs i).A.toNat) || moves (Ty.ix .body xs (Ty.ix .contact cs i).B.toNat) <;> simp
theorem live_ok {xs zs : List Body} (h : xs.length ≤ 12) : CtsOk xs.length (liveF zs (contactsF xs)) := by
  have h1 := length_contactsF h
  have h2 : (liveF zs (contactsF xs)).length ≤ (contactsF xs).length := List.length_filter_le _ _
  refine ⟨by omega, fun k hk => ?_⟩
  have hm : Ty.ix .contact (liveF zs (contactsF xs)) k ∈ liveF zs (contactsF xs) := List.mem_of_getElem? (ix_get (T := .contact) hk)
  obtain ⟨a, b, q1, q2, q3, _⟩ := mem_contactsF (List.mem_filter.1 hm).1
  rw [q3]
  refine ⟨?_, ?_, ?_, ?_, ?_⟩ <;> dsimp only <;> omega
end
end Go.Proofs.YtnahfbjdicjdpaaGreat.Sym

namespace Go.Proofs.YtnahfbjdicjdpaaGreat.Sym
open Go
set_option linter.unusedVariables false
set_option linter.unusedSimpArgs false
set_option maxRecDepth 100000

theorem bok_iff {b : Body} : bodyOk b = true ↔ ((0 ≤ b.Id ∧ b.Id ≤ 999999999) ∧ shapeOk b.Shape = true ∧ (-2560000 ≤ b.At.X ∧ b.At.X ≤ 2560000 ∧ -2560000 ≤ b.At.Y ∧ b.At.Y ≤ 2560000) ∧
    (-20000000 ≤ b.Drive.X ∧ b.Drive.X ≤ 20000000 ∧ -20000000 ≤ b.Drive.Y ∧ b.Drive.Y ≤ 20000000) ∧ (0 ≤ b.Mass ∧ b.Mass ≤ 1000) ∧ (0 ≤ b.Bounce ∧ b.Bounce ≤ 256) ∧ (0 ≤ b.Rub ∧ b.Rub ≤ 256) ∧ (0 ≤ b.Quiet ∧ b.Quiet ≤ 8) ∧
    (b.Mass = 0 → b.Drive.X = 0 ∧ b.Drive.Y = 0 ∧ b.Quiet = 0) ∧ (b.Mass ≠ 0 → b.Quiet < 8 ∨ b.Drive.X = 0 ∧ b.Drive.Y = 0)) := by
  unfold bodyOk
  by_cases h : b.Mass = 0
  · simp only [h, if_true, placeOk, driveOk, zeroV, isIn, Bool.and_eq_true, decide_eq_true_eq, beq_iff_eq, and_assoc, forall_const, ne_eq, not_true_eq_false, false_implies, and_true, Int.le_refl, true_and]
  · simp only [h, if_false, placeOk, driveOk, zeroV, isIn, Bool.and_eq_true, Bool.or_eq_true, decide_eq_true_eq, beq_iff_eq, and_assoc, forall_const, ne_eq, not_false_eq_true, false_implies, true_and, true_implies]
theorem ok_kin {xs ys : List Body} (h : bodiesOk xs = true) (k : Kin xs ys) (hb : ∀ j, j < ys.length → bodyOk (Ty.ix .body ys j) = true) : bodiesOk ys = true := by
  obtain ⟨h1, _, h3⟩ := bodiesOk_iff.1 h
  have hl := k.1
  refine bodiesOk_iff.2 ⟨by rw [← k.1]; exact h1, hb, fun j hj => ?_⟩
  have e1 := (k.2 j (by omega)).1
  have e2 := (k.2 (j + 1) (by omega)).1
  rw [← e1, ← e2]
  exact h3 j (by omega)
def AllOk (xs : List Body) : Prop := ∀ j, j < xs.length → bodyOk (Ty.ix .body xs j) = true
theorem allOk_of {xs : List Body} (h : bodiesOk xs = true) : AllOk xs := fun j hj => bodiesOk_each h hj
theorem AllOk.set {xs : List Body} {k : Nat} {b : Body} (h : AllOk xs) (hb : k < xs.length → bodyOk b = true) : AllOk (xs.set k b) := by
  intro j hj
  rw [List.length_set] at hj
  by_cases e : k = j
  · subst e
    rw [ix_set_self (T := .body) hj]
    exact hb hj
  · rw [ix_set_ne (T := .body) e]
    exact h j hj
theorem ok_pushB {b : Body} {p : Vec} (h : bodyOk b = true) : bodyOk (pushB b p) = true := by
  unfold pushB
  split
  · exact h
  · rename_i hm
    rw [bok_iff] at h ⊢
    obtain ⟨h1, h2, h3, h4, h5, h6, h7, h8, h9, h10⟩ := h
    have c1 := clampTo_le (m := 20000000) (n := W (b.Drive.X + p.X)) (by omega)
    have c2 := clampTo_le (m := 20000000) (n := W (b.Drive.Y + p.Y)) (by omega)
    rw [withinI_drive, withinI_drive]
    exact ⟨h1, h2, h3, ⟨c1.1, c1.2, c2.1, c2.2⟩, h5, h6, h7, ⟨by dsimp only; omega, by dsimp only; omega⟩, fun e => absurd e hm, fun _ => .inl (by dsimp only; omega)⟩
theorem ok_moveB {b : Body} {w : Vec} (h : bodyOk b = true) : bodyOk (moveB b w) = true := by
  rw [bok_iff] at h ⊢
  obtain ⟨h1, h2, h3, h4, h5, h6, h7, h8, h9, h10⟩ := h
  have c1 := clampTo_le (m := 2560000) (n := W (b.At.X + w.X)) (by omega)
  have c2 := clampTo_le (m := 2560000) (n := W (b.At.Y + w.Y)) (by omega)
  unfold moveB
  dsimp only
  rw [withinI_far, withinI_far]
  refine ⟨h1, h2, ⟨c1.1, c1.2, c2.1, c2.2⟩, ?_, h5, h6, h7, h8, fun e => ?_, fun e => ?_⟩
  · split <;> split <;> omega
  · obtain ⟨q1, q2, q3⟩ := h9 e
    refine ⟨?_, ?_, q3⟩ <;> split <;> first | assumption | rfl
  · rcases h10 e with q | q
    · exact .inl q
    · right
      constructor <;> split <;> first | exact q.1 | exact q.2 | rfl
theorem ok_pushOne {xs : List Body} {c : Contact} {z : Bool} (h : AllOk xs) : AllOk (pushOne xs c z) := by
  unfold pushOne
  dsimp only
  split
  · refine (h.set fun hk => ok_pushB (h _ hk)).set fun hk => ok_pushB (h _ (by simpa using hk))
  · exact h
theorem ok_pushRound {z : Bool} : ∀ {cs : List Contact} {xs : List Body}, AllOk xs → AllOk (pushRound xs z cs)
  | [], _, h => h
  | c :: r, xs, h => ok_pushRound (cs := r) (ok_pushOne (c := c) (z := z) h)
theorem ok_pushAllF {cs : List Contact} {xs : List Body} (h : AllOk xs) : AllOk (pushAllF xs cs) := ok_pushRound (ok_pushRound (ok_pushRound (ok_pushRound h)))
theorem ok_apartOne {xs : List Body} {c : Contact} (h : AllOk xs) : AllOk (apartOne xs c) := by
  unfold apartOne
  dsimp only
  split
  · exact h
  · have h1 : AllOk (if (Ty.ix .body xs c.A.toNat).Mass = 0 then xs else xs.set c.A.toNat (moveB (Ty.ix .body xs c.A.toNat) (scaled (oppV c.Hit.Way) (shareF (Ty.ix .body xs c.A.toNat) (Ty.ix .body xs c.B.toNat) (W ((W (c.Hit.Deep - 64)).tdiv 4)))))) := by
      split
      · exact h
      · exact h.set fun hk => ok_moveB (h _ hk)
    split
    · exact h1
    · refine h1.set fun hk => ok_moveB (h _ ?_)
      split at hk
      · exact hk
      · simpa using hk
theorem ok_apartF : ∀ {cs : List Contact} {xs : List Body}, AllOk xs → AllOk (apartF xs cs)
  | [], _, h => h
  | c :: r, xs, h => ok_apartF (cs := r) (ok_apartOne (c := c) h)
theorem ix_mapX {f : Nat → Body → Body} {xs : List Body} {k : Nat} (h : k < xs.length) : Ty.ix .body (mapX f xs) k = f k (Ty.ix .body xs k) := ix_gen (T := .body) h
theorem ok_mapX {f : Nat → Body → Body} {xs : List Body} (h : ∀ k, k < xs.length → bodyOk (f k (Ty.ix .body xs k)) = true) : AllOk (mapX f xs) := by
  intro k hk
  rw [length_mapX] at hk
  rw [ix_mapX hk]
  exact h k hk
theorem ok_wakeS {gs : List Int} {ws : List Bool} {i : Nat} {b : Body} (h : bodyOk b = true) : bodyOk (wakeS gs ws i b) = true := by
  unfold wakeS
  cases q : b.Quiet == 8 && Ty.ix .bool ws (gi gs i).toNat
  · exact h
  · simp only [cond_true]
    rw [bok_iff] at h ⊢
    obtain ⟨h1, h2, h3, h4, h5, h6, h7, h8, h9, h10⟩ := h
    exact ⟨h1, h2, h3, h4, h5, h6, h7, ⟨by dsimp only; omega, by dsimp only; omega⟩, fun e => ⟨(h9 e).1, (h9 e).2.1, rfl⟩, fun _ => .inl (by dsimp only; omega)⟩
theorem ok_goS {i : Nat} {b : Body} (h : bodyOk b = true) : bodyOk (goS i b) = true := by
  unfold goS
  cases moves b
  · exact h
  · exact ok_moveB h
theorem moves_bok {b : Body} (h : moves b = true) : b.Mass ≠ 0 ∧ b.Quiet ≠ 8 := by simpa [moves] using h
theorem ok_pullS {pull : Int} {i : Nat} {b : Body} (p0 : 0 ≤ pull) (p1 : pull ≤ 2560) (h : bodyOk b = true) : bodyOk (pullS pull i b) = true := by
  unfold pullS
  cases q : moves b
  · exact h
  · simp only [cond_true]
    obtain ⟨q1, q2⟩ := moves_bok q
    rw [bok_iff] at h ⊢
    obtain ⟨h1, h2, h3, h4, h5, h6, h7, h8, h9, h10⟩ := h
    have hm := mul_le_mul0 p0 p1 h5.1 h5.2
    rw [show W (pull * b.Mass) = pull * b.Mass from W_small (by omega) (by omega), show W (b.Drive.Y - pull * b.Mass) = b.Drive.Y - pull * b.Mass from W_small (by omega) (by omega)]
    exact ⟨h1, h2, h3, ⟨h4.1, h4.2.1, by dsimp only; omega, by dsimp only; omega⟩, h5, h6, h7, h8, fun e => absurd e q1, fun _ => .inl (by dsimp only; omega)⟩
theorem ok_quietS {was : List Body} {i : Nat} {b : Body} (hw : bodyOk (Ty.ix .body was i) = true) (h : bodyOk b = true) : bodyOk (quietS was i b) = true := by
  unfold quietS
  cases q : moves b
  · exact h
  · simp only [cond_true]
    obtain ⟨q1, q2⟩ := moves_bok q
    have w8 := (bok_iff.1 hw).2.2.2.2.2.2.2.1
    rw [bok_iff] at h ⊢
    obtain ⟨h1, h2, h3, h4, h5, h6, h7, h8, h9, h10⟩ := h
    have hv : 0 ≤ (bif isIn (speed b).X (-8) 8 && isIn (speed b).Y (-8) 8 then min (W ((Ty.ix .body was i).Quiet + 1)) 7 else 0) ∧ (bif isIn (speed b).X (-8) 8 && isIn (speed b).Y (-8) 8 then min (W ((Ty.ix .body was i).Quiet + 1)) 7 else 0) ≤ 7 := by
      rw [show W ((Ty.ix .body was i).Quiet + 1) = (Ty.ix .body was i).Quiet + 1 from W_small (by omega) (by omega)]
      cases isIn (speed b).X (-8) 8 && isIn (speed b).Y (-8) 8
      · simp only [cond_false]
        omega
      · simp only [cond_true]
        omega
    exact ⟨h1, h2, h3, h4, h5, h6, h7, ⟨hv.1, by dsimp only; omega⟩, fun e => absurd e q1, fun _ => .inl (by dsimp only; omega)⟩
theorem ok_bedB {b : Body} (hm : b.Mass ≠ 0) (h : bodyOk b = true) : bodyOk (bedB b) = true := by
  unfold bedB
  rw [bok_iff] at h ⊢
  obtain ⟨h1, h2, h3, h4, h5, h6, h7, h8, h9, h10⟩ := h
  exact ⟨h1, h2, h3, ⟨by dsimp only; omega, by dsimp only; omega, by dsimp only; omega, by dsimp only; omega⟩, h5, h6, h7, ⟨by dsimp only; omega, by dsimp only; omega⟩, fun e => absurd e hm, fun _ => .inr ⟨rfl, rfl⟩⟩
theorem ix_settleOne {xs : List Body} {gs : List Int} {g : Int} {aw : Bool} {k : Nat} (h : k < xs.length) : Ty.ix .body (settleOne xs gs g aw) k = bedAt xs gs g (aw && stillG xs gs g xs.length) k := ix_gen (T := .body) h
theorem kin_bedB (b : Body) : kin b (bedB b) := ⟨rfl, rfl, rfl, rfl, rfl⟩
theorem kin_settleOne (xs : List Body) (gs : List Int) (g : Int) (aw : Bool) : Kin xs (settleOne xs gs g aw) := by
  refine ⟨(length_settleOne ..).symm, fun k hk => ?_⟩
  rw [ix_settleOne hk]
  unfold bedAt
  cases (aw && stillG xs gs g xs.length) && gi gs k == g
  · exact kin_refl _
  · exact kin_bedB _
theorem kin_settleF (gs : List Int) : ∀ (ws : List Bool) (g : Nat) (xs : List Body), Kin xs (settleF gs g ws xs)
  | [], _, xs => .refl xs
  | a :: r, g, xs => (kin_settleOne xs gs g a).trans (kin_settleF gs r (g + 1) _)
theorem ok_settleF (gs : List Int) : ∀ (ws : List Bool) (g : Nat) (xs : List Body), AllOk xs → (∀ k, k < xs.length → 0 ≤ gi gs k → (Ty.ix .body xs k).Mass ≠ 0) → AllOk (settleF gs g ws xs)
  | [], _, _, h, _ => h
  | a :: r, g, xs, h, hm => by
    have hk := kin_settleOne xs gs g a
    refine ok_settleF gs r (g + 1) _ (fun k hk => ?_) (fun k hk2 hg => ?_)
    · rw [length_settleOne] at hk
      rw [ix_settleOne hk]
      unfold bedAt
      cases q : (a && stillG xs gs g xs.length) && gi gs k == (g : Int)
      · exact h k hk
      · rw [Bool.and_eq_true] at q
        have := eq_of_beq q.2
        exact ok_bedB (hm k hk (by omega)) (h k hk)
    · rw [length_settleOne] at hk2
      rw [← (hk.2 k hk2).2.2.1]
      exact hm k hk2 hg
noncomputable section
def wokenF (xs : List Body) : List Body := mapX (wakeS (groupsX xs) (awkF xs xs.length)) xs
def pulledF (xs : List Body) (pull : Int) : List Body := mapX (pullS pull) (wokenF xs)
def liveX (xs : List Body) (pull : Int) : List Contact := liveF (pulledF xs pull) (contactsF xs)
def movedF (xs : List Body) (pull : Int) : List Body := mapX goS (pushAllF (pulledF xs pull) (liveX xs pull))
def apartX (xs : List Body) (pull : Int) : List Body := apartF (movedF xs pull) (liveX xs pull)
def quietX (xs : List Body) (pull : Int) : List Body := mapX (quietS (wokenF xs)) (apartX xs pull)
theorem stepF_eq (xs : List Body) (pull : Int) : stepF xs pull = settleF (groupsX xs) 0 (awkF xs xs.length) (quietX xs pull) := rfl
@[simp] theorem length_wokenF (xs : List Body) : (wokenF xs).length = xs.length := length_mapX _ _
@[simp] theorem length_pulledF (xs : List Body) (pull : Int) : (pulledF xs pull).length = xs.length := by simp [pulledF]
@[simp] theorem length_movedF (xs : List Body) (pull : Int) : (movedF xs pull).length = xs.length := by simp [movedF]
@[simp] theorem length_apartX (xs : List Body) (pull : Int) : (apartX xs pull).length = xs.length := by simp [apartX]
@[simp] theorem length_quietX (xs : List Body) (pull : Int) : (quietX xs pull).length = xs.length := by simp [quietX]
theorem kin_wokenF (xs : List Body) : Kin xs (wokenF xs) := kin_mapX (kin_wakeS _ _) _
theorem kin_pulledF (xs : List Body) (pull : Int) : Kin xs (pulledF xs pull) := (kin_wokenF xs).trans (kin_mapX (kin_pullS _) _)
theorem live_mem {xs : List Body} {pull : Int} (h : xs.length ≤ 12) : ∀ c, c ∈ liveX xs pull → ctOk xs.length c := ctsOk_mem (live_ok h)
theorem kin_pushedF {xs : List Body} (h : xs.length ≤ 12) (pull : Int) : Kin xs (pushAllF (pulledF xs pull) (liveX xs pull)) :=
  (kin_pulledF xs pull).trans (kin_pushAllF (by rw [length_pulledF]; exact live_mem h))
theorem kin_movedF {xs : List Body} (h : xs.length ≤ 12) (pull : Int) : Kin xs (movedF xs pull) := (kin_pushedF h pull).trans (kin_mapX kin_goS _)
theorem kin_apartX {xs : List Body} (h : xs.length ≤ 12) (pull : Int) : Kin xs (apartX xs pull) := (kin_movedF h pull).trans (kin_apartF (by rw [length_movedF]; exact live_mem h))
theorem kin_quietS (was : List Body) (i : Nat) (b : Body) : kin b (quietS was i b) := by
  unfold quietS
  cases moves b <;> exact ⟨rfl, rfl, rfl, rfl, rfl⟩
theorem kin_quietX {xs : List Body} (h : xs.length ≤ 12) (pull : Int) : Kin xs (quietX xs pull) := (kin_apartX h pull).trans (kin_mapX (kin_quietS _) _)
theorem kin_stepF {xs : List Body} (h : xs.length ≤ 12) (pull : Int) : Kin xs (stepF xs pull) := (kin_quietX h pull).trans (kin_settleF _ _ _ _)
theorem ok_wokenF {xs : List Body} (h : bodiesOk xs = true) : bodiesOk (wokenF xs) = true := ok_kin h (kin_wokenF xs) (ok_mapX fun k hk => ok_wakeS (bodiesOk_each h hk))
theorem ok_pulledF {xs : List Body} {pull : Int} (h : bodiesOk xs = true) (p0 : 0 ≤ pull) (p1 : pull ≤ 2560) : bodiesOk (pulledF xs pull) = true :=
  ok_kin h (kin_pulledF xs pull) (ok_mapX fun k hk => ok_pullS p0 p1 (bodiesOk_each (ok_wokenF h) hk))
theorem ok_pushedF {xs : List Body} {pull : Int} (h : bodiesOk xs = true) (p0 : 0 ≤ pull) (p1 : pull ≤ 2560) : bodiesOk (pushAllF (pulledF xs pull) (liveX xs pull)) = true :=
  ok_kin h (kin_pushedF (bodiesOk_len h) pull) (ok_pushAllF (allOk_of (ok_pulledF h p0 p1)))
theorem ok_movedF {xs : List Body} {pull : Int} (h : bodiesOk xs = true) (p0 : 0 ≤ pull) (p1 : pull ≤ 2560) : bodiesOk (movedF xs pull) = true :=
  ok_kin h (kin_movedF (bodiesOk_len h) pull) (ok_mapX fun k hk => ok_goS (bodiesOk_each (ok_pushedF h p0 p1) hk))
theorem ok_apartX {xs : List Body} {pull : Int} (h : bodiesOk xs = true) (p0 : 0 ≤ pull) (p1 : pull ≤ 2560) : bodiesOk (apartX xs pull) = true :=
  ok_kin h (kin_apartX (bodiesOk_len h) pull) (ok_apartF (allOk_of (ok_movedF h p0 p1)))
theorem ok_quietX {xs : List Body} {pull : Int} (h : bodiesOk xs = true) (p0 : 0 ≤ pull) (p1 : pull ≤ 2560) : bodiesOk (quietX xs pull) = true :=
  ok_kin h (kin_quietX (bodiesOk_len h) pull) (ok_mapX fun k hk => ok_quietS (bodiesOk_each (ok_wokenF h) (by rw [length_apartX] at hk; rw [length_wokenF]; exact hk)) (bodiesOk_each (ok_apartX h p0 p1) hk))
theorem group_free {xs : List Body} {k : Nat} (hk : k < xs.length) (hg : 0 ≤ gi (groupsX xs) k) : freeB xs k = true := by
  have e : gi (groupsX xs) k = gOf xs xs.length k := ix_gen (T := .int) hk
  rw [e, gOf_all hk] at hg
  cases f : freeB xs k with
  | true => rfl
  | false =>
    rw [f] at hg
    simp only [cond_false] at hg
    omega
theorem free_mass {xs : List Body} {k : Nat} (h : freeB xs k = true) : (Ty.ix .body xs k).Mass ≠ 0 := by simpa [freeB] using h
theorem ok_stepF {xs : List Body} {pull : Int} (h : bodiesOk xs = true) (p0 : 0 ≤ pull) (p1 : pull ≤ 2560) : bodiesOk (stepF xs pull) = true := by
  have hk := kin_quietX (bodiesOk_len h) pull
  refine ok_kin h (kin_stepF (bodiesOk_len h) pull) (ok_settleF _ _ _ _ (allOk_of (ok_quietX h p0 p1)) fun k hk2 hg => ?_)
  have hk2 : k < (quietX xs pull).length := hk2
  show (Ty.ix .body (quietX xs pull) k).Mass ≠ 0
  rw [length_quietX] at hk2
  rw [← (hk.2 k hk2).2.2.1]
  exact free_mass (group_free hk2 hg)
theorem length_stepF (xs : List Body) (pull : Int) : (stepF xs pull).length = xs.length := by
  rw [stepF_eq, length_settleF, length_quietX]
/-- In a group that is awake none sleeps. -/
def LowG (gs : List Int) (ws : List Bool) (xs : List Body) : Prop := ∀ k, k < xs.length → 0 ≤ gi gs k → Ty.ix .bool ws (gi gs k).toNat = true → (Ty.ix .body xs k).Quiet ≤ 7
theorem LowG.set {gs : List Int} {ws : List Bool} {xs : List Body} {k : Nat} {b : Body} (h : LowG gs ws xs) (hb : k < xs.length → (Ty.ix .body xs k).Quiet ≤ 7 → b.Quiet ≤ 7) : LowG gs ws (xs.set k b) := by
  intro j hj h1 h2
  rw [List.length_set] at hj
  by_cases e : k = j
  · subst e
    rw [ix_set_self (T := .body) hj]
    exact hb hj (h k hj h1 h2)
  · rw [ix_set_ne (T := .body) e]
    exact h j hj h1 h2
theorem quiet_pushB {b : Body} {p : Vec} (h : b.Quiet ≤ 7) : (pushB b p).Quiet ≤ 7 := by
  unfold pushB
  split
  · exact h
  · exact (by decide : (0 : Int) ≤ 7)
theorem quiet_moveB (b : Body) (w : Vec) : (moveB b w).Quiet = b.Quiet := rfl
theorem low_pushOne {gs : List Int} {ws : List Bool} {xs : List Body} {c : Contact} {z : Bool} (hne : c.A.toNat ≠ c.B.toNat) (h : LowG gs ws xs) : LowG gs ws (pushOne xs c z) := by
  unfold pushOne
  dsimp only
  split
  · refine (h.set fun _ q => quiet_pushB q).set fun hk q => ?_
    rw [ix_set_ne (T := .body) hne] at q
    exact quiet_pushB q
  · exact h
theorem low_pushRound {gs : List Int} {ws : List Bool} {z : Bool} : ∀ {cs : List Contact} {xs : List Body}, (∀ c, c ∈ cs → ctOk xs.length c) → LowG gs ws xs → LowG gs ws (pushRound xs z cs)
  | [], _, _, h => h
  | c :: r, xs, hc, h => low_pushRound (cs := r) (fun d hd => by rw [length_pushOne]; exact hc d (List.mem_cons_of_mem _ hd)) (low_pushOne (ct_ne (hc c List.mem_cons_self)) h)
theorem low_pushAllF {gs : List Int} {ws : List Bool} {cs : List Contact} {xs : List Body} (hc : ∀ c, c ∈ cs → ctOk xs.length c) (h : LowG gs ws xs) : LowG gs ws (pushAllF xs cs) := by
  unfold pushAllF
  have h1 := low_pushRound (z := true) hc h
  have h2 := low_pushRound (z := false) (by rw [length_pushRound]; exact hc) h1
  have h3 := low_pushRound (z := false) (by rw [length_pushRound, length_pushRound]; exact hc) h2
  exact low_pushRound (z := false) (by rw [length_pushRound, length_pushRound, length_pushRound]; exact hc) h3
theorem low_apartOne {gs : List Int} {ws : List Bool} {xs : List Body} {c : Contact} (hne : c.A.toNat ≠ c.B.toNat) (h : LowG gs ws xs) : LowG gs ws (apartOne xs c) := by
  unfold apartOne
  dsimp only
  split
  · exact h
  · have h1 : LowG gs ws (if (Ty.ix .body xs c.A.toNat).Mass = 0 then xs else xs.set c.A.toNat (moveB (Ty.ix .body xs c.A.toNat) (scaled (oppV c.Hit.Way) (shareF (Ty.ix .body xs c.A.toNat) (Ty.ix .body xs c.B.toNat) (W ((W (c.Hit.Deep - 64)).tdiv 4)))))) := by
      split
      · exact h
      · exact h.set fun _ q => q
    split
    · exact h1
    · refine h1.set fun hk q => ?_
      rw [quiet_moveB]
      split at q
      · exact q
      · rwa [ix_set_ne (T := .body) hne] at q
theorem low_apartF {gs : List Int} {ws : List Bool} : ∀ {cs : List Contact} {xs : List Body}, (∀ c, c ∈ cs → ctOk xs.length c) → LowG gs ws xs → LowG gs ws (apartF xs cs)
  | [], _, _, h => h
  | c :: r, xs, hc, h => low_apartF (cs := r) (fun d hd => by rw [length_apartOne]; exact hc d (List.mem_cons_of_mem _ hd)) (low_apartOne (ct_ne (hc c List.mem_cons_self)) h)
theorem low_mapX {gs : List Int} {ws : List Bool} {f : Nat → Body → Body} {xs : List Body} (hf : ∀ k b, b.Quiet ≤ 7 → (f k b).Quiet ≤ 7) (h : LowG gs ws xs) : LowG gs ws (mapX f xs) := by
  intro k hk h1 h2
  rw [length_mapX] at hk
  rw [ix_mapX hk]
  exact hf _ _ (h k hk h1 h2)
theorem low_wokenF {xs : List Body} (h : bodiesOk xs = true) : LowG (groupsX xs) (awkF xs xs.length) (wokenF xs) := by
  intro k hk h1 h2
  rw [length_wokenF] at hk
  rw [show Ty.ix .body (wokenF xs) k = _ from ix_mapX hk]
  have h8 := (bok_iff.1 (bodiesOk_each h hk)).2.2.2.2.2.2.2.1
  unfold wakeS
  cases q : (Ty.ix .body xs k).Quiet == 8 with
  | true =>
    rw [h2]
    exact (by decide : (0 : Int) ≤ 7)
  | false =>
    simp only [Bool.false_and, cond_false]
    have := beq_eq_false_iff_ne.1 q
    omega
theorem low_quietX {xs : List Body} {pull : Int} (h : bodiesOk xs = true) : LowG (groupsX xs) (awkF xs xs.length) (quietX xs pull) := by
  have hl := bodiesOk_len h
  have h1 := low_mapX (f := pullS pull) (fun k b q => by unfold pullS; cases moves b <;> exact q) (low_wokenF h)
  have h2 := low_pushAllF (cs := liveX xs pull) (by rw [show (mapX (pullS pull) (wokenF xs)).length = xs.length by simp]; exact live_mem hl) h1
  have h3 := low_mapX (f := goS) (fun k b q => by unfold goS; cases moves b <;> exact q) h2
  have h4 := low_apartF (cs := liveX xs pull) (by rw [length_mapX, length_pushAllF, length_mapX, length_wokenF]; exact live_mem hl) h3
  refine low_mapX (f := quietS (wokenF xs)) (fun k b q => ?_) h4
  unfold quietS
  cases moves b
  · exact q
  · simp only [cond_true]
    cases isIn (speed b).X (-8) 8 && isIn (speed b).Y (-8) 8
    · exact (by decide : (0 : Int) ≤ 7)
    · exact Int.min_le_right _ _
theorem live_same {xs : List Body} {pull : Int} (h : xs.length ≤ 12) : liveF (wokenF xs) (contactsF xs) = liveX xs pull := by
  unfold liveX liveF
  apply List.filter_congr
  intro c hc
  obtain ⟨a, b, q1, q2, q3, _⟩ := mem_contactsF hc
  have hm : ∀ k, k < xs.length → moves (Ty.ix .body (pulledF xs pull) k) = moves (Ty.ix .body (wokenF xs) k) := by
    intro k hk
    rw [show Ty.ix .body (pulledF xs pull) k = _ from ix_mapX (by rw [length_wokenF]; exact hk)]
    unfold pullS
    cases q : moves (Ty.ix .body (wokenF xs) k)
    · exact q
    · exact q
  rw [hm c.A.toNat (by rw [q3]; dsimp only; omega), hm c.B.toNat (by rw [q3]; dsimp only; omega)]
end
end Go.Proofs.YtnahfbjdicjdpaaGreat.Sym

namespace Go.Proofs.YtnahfbjdicjdpaaGreat.Sym
open Go
set_option linter.unusedVariables false
set_option linter.unusedSimpArgs false
set_option maxRecDepth 100000
noncomputable section

def agree (xs : List Body) (out : List Int) (f : Nat → Int) : Prop := out.length = xs.length ∧ ∀ j, j < xs.length → gi out j = f j
def edgesC (xs : List Body) (cs : List Contact) : List Grp.Edge := (cs.filter fun c => freeB xs c.A.toNat && freeB xs c.B.toNat).map edgeC
theorem edgesC_drop {xs : List Body} {cs : List Contact} {i : Nat} (h : i < cs.length) :
    edgesC xs (cs.drop i) = (bif freeB xs (Ty.ix .contact cs i).A.toNat && freeB xs (Ty.ix .contact cs i).B.toNat then [edgeC (Ty.ix .contact cs i)] else []) ++ edgesC xs (cs.drop (i + 1)) := by
  unfold edgesC
  rw [drop_ix (T := .contact) h, List.filter_cons]
  cases freeB xs (Ty.ix .contact cs i).A.toNat && freeB xs (Ty.ix .contact cs i).B.toNat <;> simp
theorem agree_relax {xs : List Body} {out : List Int} {f : Nat → Int} {a b : Nat} (h : agree xs out f) (ha : a < xs.length) (hb : b < xs.length) :
    agree xs ((out.set a (min (gi out a) (gi out b))).set b (min (gi out a) (gi out b))) (Grp.relax f (a, b)) := by
  obtain ⟨h1, h2⟩ := h
  refine ⟨by simp [h1], fun j hj => ?_⟩
  rw [gi_set (by simp; omega), gi_set (by omega), Grp.relax_at, h2 a ha, h2 b hb]
  by_cases e1 : b = j
  · rw [if_pos e1, if_pos (.inl e1.symm)]
  · by_cases e2 : a = j
    · rw [if_neg e1, if_pos e2, if_pos (.inr e2.symm)]
    · rw [if_neg e1, if_neg e2, if_neg (by rintro (q | q); exact e1 q.symm; exact e2 q.symm)]
      exact h2 j hj
theorem gen_succ {α : Type} (f : Nat → α) (n : Nat) : gen f (n + 1) = gen f n ++ [f n] := by simp [gen, List.range_succ]
theorem edges_lt (xs : List Body) : ∀ e, e ∈ edgesX xs → e.1 < xs.length ∧ e.2 < xs.length := fun e he => by
  obtain ⟨_, _, _, _, _, h1, h2⟩ := of_edges he
  exact ⟨h1, h2⟩
/-- Each body's label is the least of its part. -/
def LabOk (xs : List Body) (gs : List Int) : Prop := gs.length = xs.length ∧ ∀ j, j < xs.length → gi gs j = cmX xs j
theorem lab_done {xs : List Body} {out : List Int} {f : Nat → Int} (h : agree xs out f) (hr : Grp.rounds (edgesX xs) 0 f = Grp.rounds (edgesX xs) xs.length (fun j => (j : Int))) : LabOk xs out := by
  refine ⟨h.1, fun j hj => ?_⟩
  have e : Grp.rounds (edgesX xs) xs.length (fun j => (j : Int)) j = (cmX xs j : Int) := Grp.rounds_cm (edges_lt xs) hj
  rw [h.2 j hj, ← e, ← hr]
  rfl
def firstsI (xs : List Body) (i : Nat) : List Int := (Grp.firsts (freeB xs) (cmX xs) i).map fun k : Nat => (k : Int)
theorem length_firstsI (xs : List Body) (i : Nat) : (firstsI xs i).length = numX xs i := by simp [firstsI, Grp.length_firsts, numX]
theorem firstsI_lead {xs : List Body} {i : Nat} (h : Grp.lead (freeB xs) (cmX xs) i = true) : firstsI xs (i + 1) = firstsI xs i ++ [(i : Int)] := by simp [firstsI, Grp.firsts, h]
theorem firstsI_not {xs : List Body} {i : Nat} (h : Grp.lead (freeB xs) (cmX xs) i = false) : firstsI xs (i + 1) = firstsI xs i := by simp [firstsI, Grp.firsts, h]
def AtInv (xs : List Body) (i k : Nat) (at' : Int) : Prop := (at' = -1 ∧ ∀ p, p < k → gi (firstsI xs i) p ≠ cmX xs i) ∨ (at' = numX xs (cmX xs i) ∧ cmX xs i < i)
theorem at_hit {xs : List Body} {i k : Nat} (hk : k < (firstsI xs i).length) (h : gi (firstsI xs i) k = cmX xs i) : AtInv xs i (k + 1) k := by
  have h1 : (firstsI xs i)[k]? = some ((cmX xs i : Nat) : Int) := by rw [← h]; exact ix_get (T := .int) hk
  simp only [firstsI, List.getElem?_map, Option.map_eq_some_iff] at h1
  obtain ⟨m, m1, m2⟩ := h1
  have m3 : m = cmX xs i := Int.ofNat.inj m2
  rw [m3] at m1
  have p1 := Grp.firsts_pos m1
  have p2 := Grp.firsts_lt _ _ _ _ (List.mem_of_getElem? m1)
  exact .inr ⟨by rw [show (k : Int) = ((numX xs (cmX xs i) : Nat) : Int) from congrArg _ p1], p2⟩
theorem at_miss {xs : List Body} {i k : Nat} {a : Int} (h : AtInv xs i k a) (hn : gi (firstsI xs i) k ≠ cmX xs i) : AtInv xs i (k + 1) a := by
  rcases h with h | h
  · refine .inl ⟨h.1, fun p hp => ?_⟩
    by_cases e : p = k
    · rw [e]; exact hn
    · exact h.2 p (by omega)
  · exact .inr h
theorem at_end {xs : List Body} {i : Nat} {a : Int} (h : AtInv xs i (firstsI xs i).length a) (hf : freeB xs i = true) :
    (a = -1 ∧ cmX xs i = i ∧ Grp.lead (freeB xs) (cmX xs) i = true) ∨ (a = numX xs (cmX xs i) ∧ 0 ≤ a ∧ Grp.lead (freeB xs) (cmX xs) i = false) := by
  have hle := cmX_le xs i
  rcases h with h | h
  · left
    have e : cmX xs i = i := by
      refine Classical.byContradiction fun hne => ?_
      have h1 := Grp.firsts_at (lead_cm hf) i (by omega)
      have h2 : (firstsI xs i)[numX xs (cmX xs i)]? = some ((cmX xs i : Nat) : Int) := by
        simp only [firstsI, List.getElem?_map]
        unfold numX
        rw [h1]
        rfl
      exact h.2 _ (List.getElem?_eq_some_iff.1 h2).1 (ix_eq (T := .int) h2)
    exact ⟨h.1, e, lead_iff.2 ⟨hf, e⟩⟩
  · right
    refine ⟨h.1, by rw [h.1]; exact Int.natCast_nonneg _, ?_⟩
    cases q : Grp.lead (freeB xs) (cmX xs) i with
    | false => rfl
    | true =>
      have := (lead_iff.1 q).2
      omega
theorem groupsX_drop {xs : List Body} {i : Nat} (h : i < xs.length) : (groupsX xs).drop i = gOf xs xs.length i :: (groupsX xs).drop (i + 1) := by
  have := drop_ix (T := .int) (xs := groupsX xs) (i := i) (by simp only [groupsX, length_gen]; exact h)
  rw [show Ty.ix .int (groupsX xs) i = gOf xs xs.length i from ix_gen (T := .int) h] at this
  exact this
def LSnu1  : LS where
  S := List Body × List Int × Unit × Unit × List Int × List Int × Int
  live := [(0, [none]), (1, [none]), (5, [some .int]), (6, [some .int]), (7, [none])]
  shape := fun s => ([.vec 0, .vec 1, .vec 2, .vec 3, .int .i64 s.2.2.2.2.2.2], [(false, .vec .body s.1), (false, .vec .int s.2.1), (true, .vec .int s.2.2.2.2.1), (true, .vec .int s.2.2.2.2.2.1)])
  get := fun v h => match v, h with
    | [.vec 0, .vec 1, .vec 2, .vec 3, .int .i64 i], [(false, .vec .body xs), (false, .vec .int gs), (true, .vec .int out), (true, .vec .int fs)] => some (xs, gs, (), (), out, fs, i)
    | _, _ => none
  inv := fun s0 s => Holds (s.1 = s0.1 ∧ s.2.1 = s0.2.1 ∧ 0 ≤ s.2.2.2.2.2.2 ∧ s.2.2.2.2.2.2 ≤ s0.1.length ∧ s.2.2.2.2.2.1 = firstsI s0.1 s.2.2.2.2.2.2.toNat ∧ s.2.2.2.2.1 ++ (groupsX s0.1).drop s.2.2.2.2.2.2.toNat = groupsX s0.1)
  mu := fun s => ((s.1.length : Int) - s.2.2.2.2.2.2).toNat
  ok := by
    intro v h s hg
    try dsimp only at hg
    split at hg <;> cases hg
    rfl

def LSnu2  : LS where
  S := List Body × List Int × Unit × Unit × List Int × List Int × Int × Int × Int
  live := [(0, [none]), (1, [none]), (5, [some .int]), (6, [some .int]), (7, [none]), (8, [none]), (9, [none])]
  shape := fun s => ([.vec 0, .vec 1, .vec 2, .vec 3, .int .i64 s.2.2.2.2.2.2.1, .int .i64 s.2.2.2.2.2.2.2.1, .int .i64 s.2.2.2.2.2.2.2.2], [(false, .vec .body s.1), (false, .vec .int s.2.1), (true, .vec .int s.2.2.2.2.1), (true, .vec .int s.2.2.2.2.2.1)])
  get := fun v h => match v, h with
    | [.vec 0, .vec 1, .vec 2, .vec 3, .int .i64 i, .int .i64 a, .int .i64 k], [(false, .vec .body xs), (false, .vec .int gs), (true, .vec .int out), (true, .vec .int fs)] => some (xs, gs, (), (), out, fs, i, a, k)
    | _, _ => none
  inv := fun s0 s => Holds (s.1 = s0.1 ∧ s.2.1 = s0.2.1 ∧ s.2.2.2.2.1 = s0.2.2.2.2.1 ∧ s.2.2.2.2.2.1 = s0.2.2.2.2.2.1 ∧ s.2.2.2.2.2.2.1 = s0.2.2.2.2.2.2.1 ∧ 0 ≤ s.2.2.2.2.2.2.2.2 ∧ s.2.2.2.2.2.2.2.2 ≤ s0.2.2.2.2.2.1.length ∧ AtInv s0.1 s0.2.2.2.2.2.2.1.toNat s.2.2.2.2.2.2.2.2.toNat s.2.2.2.2.2.2.2.1)
  mu := fun s => ((s.2.2.2.2.2.1.length : Int) - s.2.2.2.2.2.2.2.2).toNat
  ok := by
    intro v h s hg
    try dsimp only at hg
    split at hg <;> cases hg
    rfl

def L_number : Loops := fun n => match n with
  | 4 => some LSnu1
  | 10 => some LSnu2
  | _ => none
noncomputable def fs_l7Number : Fs := ⟨[], fun args H => match args, H with
  | [.vec 0, .vec 1], [(false, .vec .body xs), (false, .vec .int gs)] => some ((some (xs.length ≤ 12 ∧ LabOk xs gs)), .vec 2, [(false, .vec .body xs), (false, .vec .int gs), (true, .vec .int (groupsX xs))])
  | _, _ => none⟩

theorem vc_l7Number (xs : List Body) (gs : List Int) (Q : SV → List Ent → Prop) :
    fnVC tt (look []) (L_number) Tryz.f132 [.vec 0, .vec 1] [(false, .vec .body xs), (false, .vec .int gs)] Q =
    (let w_ := IntKind.wrap IntKind.i64; let n_ := Int.toNat; Holds (xs = xs ∧ gs = gs ∧ (0 : Int) ≤ (0 : Int) ∧ (0 : Int) ≤ (↑(List.length xs) : Int) ∧ [] = firstsI xs (n_ (0 : Int)) ∧ [] ++ List.drop (n_ (0 : Int)) (groupsX xs) = groupsX xs) ∧ ∀ (y8 : List Body × List Int × Unit × Unit × List Int × List Int × Int), let y8f0_ := Prod.fst y8; let y8s1_ := Prod.snd y8; let y8f1_ := Prod.fst (Prod.snd y8); let y8f4_ := Prod.fst (Prod.snd (Prod.snd (Prod.snd (Prod.snd y8)))); let y8s5_ := Prod.snd (Prod.snd (Prod.snd (Prod.snd (Prod.snd y8)))); let y8f5_ := Prod.fst (Prod.snd (Prod.snd (Prod.snd (Prod.snd (Prod.snd y8))))); let y8s6_ := Prod.snd (Prod.snd (Prod.snd (Prod.snd (Prod.snd (Prod.snd y8))))); let A10_ := (Prod.snd y8s5_ + (1 : Int)); let A9_ := (↑(List.length y8f0_) : Int); Holds (Prod.fst y8 = xs ∧ y8f1_ = gs ∧ (0 : Int) ≤ y8s6_ ∧ y8s6_ ≤ (↑(List.length xs) : Int) ∧ y8f5_ = firstsI xs (n_ y8s6_) ∧ y8f4_ ++ List.drop (n_ y8s6_) (groupsX xs) = groupsX xs) → ifB (decide (Prod.snd y8s5_ < A9_)) (((0 : Int) ≤ y8s6_ ∧ y8s6_ < A9_) ∧ ifB (Body.Mass (Ty.ix Ty.body y8f0_ (n_ y8s6_)) == (0 : Int)) ((List.length y8f4_ + List.length [(-1 : Int)]) * (8 : Nat) ≤ room ∧ Holds (Prod.fst y8 = xs ∧ y8f1_ = gs ∧ (0 : Int) ≤ w_ A10_ ∧ w_ A10_ ≤ (↑(List.length xs) : Int) ∧ y8f5_ = firstsI xs (n_ (w_ A10_)) ∧ y8f4_ ++ [(-1 : Int)] ++ List.drop (n_ (w_ A10_)) (groupsX xs) = groupsX xs) ∧ n_ (A9_ - w_ A10_) < n_ (A9_ - y8s6_)) (Holds (Prod.fst y8 = y8f0_ ∧ y8f1_ = y8f1_ ∧ y8f4_ = y8f4_ ∧ y8f5_ = y8f5_ ∧ y8s6_ = y8s6_ ∧ (0 : Int) ≤ (0 : Int) ∧ (0 : Int) ≤ (↑(List.length y8f5_) : Int) ∧ AtInv y8f0_ (n_ y8s6_) (n_ (0 : Int)) (-1 : Int)) ∧ ∀ (y1 : List Body × List Int × Unit × Unit × List Int × List Int × Int × Int × Int), let y1f0_ := Prod.fst y1; let y1s1_ := Prod.snd y1; let y1f1_ := Prod.fst (Prod.snd y1); let y1f4_ := Prod.fst (Prod.snd (Prod.snd (Prod.snd (Prod.snd y1)))); let y1f5_ := Prod.fst (Prod.snd (Prod.snd (Prod.snd (Prod.snd (Prod.snd y1))))); let y1s6_ := Prod.snd (Prod.snd (Prod.snd (Prod.snd (Prod.snd (Prod.snd y1))))); let y1f6_ := Prod.fst (Prod.snd (Prod.snd (Prod.snd (Prod.snd (Prod.snd (Prod.snd y1)))))); let y1s7_ := Prod.snd (Prod.snd (Prod.snd (Prod.snd (Prod.snd (Prod.snd (Prod.snd y1)))))); let y1f7_ := Prod.fst (Prod.snd (Prod.snd (Prod.snd (Prod.snd (Prod.snd (Prod.snd (Prod.snd y1))))))); let y1s8_ := Prod.snd (Prod.snd (Prod.snd (Prod.snd (Prod.snd (Prod.snd (Prod.snd (Prod.snd y1))))))); let A6_ := (Prod.snd (Prod.snd (Prod.snd y8s1_))); let A5_ := (Prod.snd y1s7_ + (1 : Int)); let A4_ := (↑(List.length y1f5_) : Int); let A3_ := (Prod.fst y1s6_ + (1 : Int)); let A7_ := (n_ (w_ A3_)); let A2_ := (Prod.snd A6_); Holds (Prod.fst y1 = y8f0_ ∧ y1f1_ = y8f1_ ∧ y1f4_ = Prod.fst A6_ ∧ y1f5_ = Prod.fst A2_ ∧ y1f6_ = Prod.snd A2_ ∧ (0 : Int) ≤ y1s8_ ∧ y1s8_ ≤ (↑(List.length (Prod.fst A2_)) : Int) ∧ AtInv y8f0_ (n_ (Prod.snd A2_)) (n_ y1s8_) y1f7_) → ifB (decide (Prod.snd y1s7_ < A4_)) (((0 : Int) ≤ y1s8_ ∧ y1s8_ < A4_) ∧ ((0 : Int) ≤ y1f6_ ∧ y1f6_ < (↑(List.length y1f1_) : Int)) ∧ ifB (Ty.ix Ty.int y1f5_ (n_ y1s8_) == Ty.ix Ty.int y1f1_ (n_ y1f6_)) (Holds (Prod.fst y1 = y8f0_ ∧ y1f1_ = y8f1_ ∧ y1f4_ = Prod.fst A6_ ∧ y1f5_ = Prod.fst A2_ ∧ y1f6_ = Prod.snd A2_ ∧ (0 : Int) ≤ w_ A5_ ∧ w_ A5_ ≤ (↑(List.length (Prod.fst A2_)) : Int) ∧ AtInv y8f0_ (n_ (Prod.snd A2_)) (n_ (w_ A5_)) y1s8_) ∧ n_ (A4_ - w_ A5_) < n_ (A4_ - y1s8_)) (Holds (Prod.fst y1 = y8f0_ ∧ y1f1_ = y8f1_ ∧ y1f4_ = Prod.fst A6_ ∧ y1f5_ = Prod.fst A2_ ∧ y1f6_ = Prod.snd A2_ ∧ (0 : Int) ≤ w_ A5_ ∧ w_ A5_ ≤ (↑(List.length (Prod.fst A2_)) : Int) ∧ AtInv y8f0_ (n_ (Prod.snd A2_)) (n_ (w_ A5_)) y1f7_) ∧ n_ (A4_ - w_ A5_) < n_ (A4_ - y1s8_))) (ifB (decide (Prod.fst y1s7_ < (0 : Int))) (((0 : Int) ≤ y1f6_ ∧ y1f6_ < (↑(List.length y1f1_) : Int)) ∧ (List.length y1f5_ + List.length [Ty.ix Ty.int y1f1_ (n_ y1f6_)]) * (8 : Nat) ≤ room ∧ (List.length y1f4_ + List.length [A4_]) * (8 : Nat) ≤ room ∧ Holds (Prod.fst y1 = xs ∧ y1f1_ = gs ∧ (0 : Int) ≤ w_ A3_ ∧ w_ A3_ ≤ (↑(List.length xs) : Int) ∧ y1f5_ ++ [Ty.ix Ty.int y1f1_ (n_ y1f6_)] = firstsI xs A7_ ∧ y1f4_ ++ [A4_] ++ List.drop A7_ (groupsX xs) = groupsX xs) ∧ n_ ((↑(List.length y1f0_) : Int) - w_ A3_) < n_ (A9_ - Prod.snd A2_)) ((List.length y1f4_ + List.length [y1f7_]) * (8 : Nat) ≤ room ∧ Holds (Prod.fst y1 = xs ∧ y1f1_ = gs ∧ (0 : Int) ≤ w_ A3_ ∧ w_ A3_ ≤ (↑(List.length xs) : Int) ∧ y1f5_ = firstsI xs A7_ ∧ y1f4_ ++ [y1f7_] ++ List.drop A7_ (groupsX xs) = groupsX xs) ∧ n_ ((↑(List.length y1f0_) : Int) - w_ A3_) < n_ (A9_ - Prod.snd A2_))))) (Q (SV.vec (2 : Nat)) [(false, Blk.vec Ty.body y8f0_), (false, Blk.vec Ty.int y8f1_), (true, Blk.vec Ty.int y8f4_)])) := by kernel_rfl

theorem ok_l7Number : FsOk Tryz.prog 132 fs_l7Number := fsOk_of tt_ok tabFs_nil mixed Tryz.func132 (by kernel_rfl) (by kernel_rfl) (by
    intro args LL p r HH h hp
    unfold fs_l7Number at h
    dsimp only at h
    split at h
    case h_2 => cases h
    rename_i xs gs
    simp only [Option.some.injEq, Prod.mk.injEq] at h
    obtain ⟨rfl, rfl, rfl⟩ := h
    refine ⟨by simp [Form, stays], (L_number), ?_⟩
    rw [vc_l7Number]
    try dsimp only
    obtain ⟨hl, hL⟩ := hp _ rfl
    have hgl : (groupsX xs).length = xs.length := by simp only [groupsX, length_gen]
    refine ⟨⟨(by trivial), (by trivial), by omega, by omega, rfl, rfl⟩, ?_⟩
    rintro ⟨xs', gs', u, v, out, fs, i⟩ ⟨h⟩
    dsimp only at h ⊢
    obtain ⟨rfl, rfl, i0, i1, rfl, h5⟩ := h
    have hs := congrArg List.length h5
    rw [List.length_append, List.length_drop] at hs
    have hfl := length_firstsI xs' i.toNat
    have hnl := num_le xs' i.toNat
    refine ifB_of (fun c => ?_) (fun c => ?_)
    · have c := of_decide_eq_true c
      have hi : i.toNat < xs'.length := by omega
      have e1 : (i + 1).toNat = i.toNat + 1 := by omega
      have w : IntKind.i64.wrap (i + 1) = i + 1 := wrap_small (by omega) (by omega)
      have hgi : Ty.ix .int gs' i.toNat = (cmX xs' i.toNat : Int) := hL.2 _ hi
      rw [groupsX_drop hi] at h5
      have hgo := gOf_all hi
      rw [w, e1]
      refine ⟨⟨i0, c⟩, ifB_of (fun d => ?_) (fun d => ⟨⟨(by trivial), (by trivial), (by trivial), (by trivial), (by trivial), by omega, by omega, .inl ⟨rfl, fun p hp => absurd hp (by simp)⟩⟩, ?_⟩)⟩
      · have f : freeB xs' i.toNat = false := by
          unfold freeB
          rw [d]
          rfl
        have l0 : Grp.lead (freeB xs') (cmX xs') i.toNat = false := by simp [Grp.lead, f]
        rw [f] at hgo
        refine ⟨by simp only [room, List.length_singleton]; omega, ⟨(by trivial), (by trivial), by omega, by omega, (firstsI_not l0).symm, ?_⟩, by omega⟩
        rw [hgo] at h5
        rw [List.append_assoc]
        exact h5
      · have f : freeB xs' i.toNat = true := by
          unfold freeB
          rw [d]
          rfl
        rw [f] at hgo
        have hgo : gOf xs' xs'.length i.toNat = (numX xs' (cmX xs' i.toNat) : Int) := hgo
        rintro ⟨xs2, gs2, u2, v2, out2, fs2, i2, a, k⟩ ⟨h⟩
        dsimp only at h ⊢
        obtain ⟨rfl, rfl, rfl, rfl, rfl, k0, k1, hA⟩ := h
        refine ifB_of (fun c2 => ?_) (fun c2 => ?_)
        · have c2 := of_decide_eq_true c2
          have e2 : (k + 1).toNat = k.toNat + 1 := by omega
          have w2 : IntKind.i64.wrap (k + 1) = k + 1 := wrap_small (by omega) (by omega)
          rw [w2, e2]
          refine ⟨⟨k0, c2⟩, ⟨i0, by rw [hL.1]; omega⟩, ifB_of (fun q => ⟨⟨(by trivial), (by trivial), (by trivial), (by trivial), (by trivial), by omega, by omega, ?_⟩, by omega⟩) (fun q => ⟨⟨(by trivial), (by trivial), (by trivial), (by trivial), (by trivial), by omega, by omega, at_miss hA ?_⟩, by omega⟩)⟩
          · have q := (eq_of_beq q).trans hgi
            have := at_hit (xs := xs2) (i := i2.toNat) (k := k.toNat) (by omega) q
            rwa [show ((k.toNat : Nat) : Int) = k by omega] at this
          · intro z
            exact beq_eq_false_iff_ne.1 q (z.trans hgi.symm)
        · have c2 := of_decide_eq_false c2
          rw [show k.toNat = (firstsI xs2 i2.toNat).length by omega] at hA
          rw [hgo] at h5
          rw [w, e1, hgi]
          rcases at_end hA f with ⟨q1, q2, q3⟩ | ⟨q1, q2, q3⟩
          · subst q1
            refine ifB_of (fun _ => ?_) (fun z => absurd (of_decide_eq_false z) (by omega))
            refine ⟨⟨i0, by rw [hL.1]; omega⟩, by simp only [room, List.length_singleton]; omega, by simp only [room, List.length_singleton]; omega, ⟨(by trivial), (by trivial), by omega, by omega, ?_, ?_⟩, by omega⟩
            · rw [firstsI_lead q3, q2]
            · rw [List.append_assoc, hfl]
              rw [q2] at h5
              exact h5
          · refine ifB_of (fun z => ?_) (fun _ => ?_)
            · have := of_decide_eq_true z
              omega
            · refine ⟨by simp only [room, List.length_singleton]; omega, ⟨(by trivial), (by trivial), by omega, by omega, (firstsI_not q3).symm, ?_⟩, by omega⟩
              rw [List.append_assoc, q1]
              exact h5
    · have c := of_decide_eq_false c
      rw [drop_end (by omega), List.append_nil] at h5
      rw [h5]
      exact ⟨(by trivial), (by trivial)⟩)

def LSgp1  : LS where
  S := List Body × List Contact × Unit × Unit × List Int × Int
  live := [(0, [none]), (1, [none]), (5, [some .int]), (6, [none])]
  shape := fun s => ([.vec 0, .vec 1, .vec 2, .int .i64 s.2.2.2.2.2], [(false, .vec .body s.1), (false, .vec .contact s.2.1), (true, .vec .int s.2.2.2.2.1)])
  get := fun v h => match v, h with
    | [.vec 0, .vec 1, .vec 2, .int .i64 i], [(false, .vec .body xs), (false, .vec .contact cs), (true, .vec .int out)] => some (xs, cs, (), (), out, i)
    | _, _ => none
  inv := fun s0 s => Holds (s.1 = s0.1 ∧ s.2.1 = s0.2.1 ∧ 0 ≤ s.2.2.2.2.2 ∧ s.2.2.2.2.2 ≤ s0.1.length ∧ s.2.2.2.2.1 = gen (fun j => (j : Int)) s.2.2.2.2.2.toNat)
  mu := fun s => ((s.1.length : Int) - s.2.2.2.2.2).toNat
  ok := by
    intro v h s hg
    try dsimp only at hg
    split at hg <;> cases hg
    rfl

def LSgp2  : LS where
  S := List Body × List Contact × Unit × Unit × List Int × Int
  live := [(0, [none]), (1, [none]), (5, [some .int]), (7, [none])]
  shape := fun s => ([.vec 0, .vec 1, .vec 2, .int .i64 s.2.2.2.2.2], [(false, .vec .body s.1), (false, .vec .contact s.2.1), (true, .vec .int s.2.2.2.2.1)])
  get := fun v h => match v, h with
    | [.vec 0, .vec 1, .vec 2, .int .i64 n], [(false, .vec .body xs), (false, .vec .contact cs), (true, .vec .int out)] => some (xs, cs, (), (), out, n)
    | _, _ => none
  inv := fun s0 s => Holds (s.1 = s0.1 ∧ s.2.1 = s0.2.1 ∧ 0 ≤ s.2.2.2.2.2 ∧ s.2.2.2.2.2 ≤ s0.1.length ∧ ∃ f, agree s0.1 s.2.2.2.2.1 f ∧ Grp.rounds (edgesX s0.1) (s0.1.length - s.2.2.2.2.2.toNat) f = Grp.rounds (edgesX s0.1) s0.1.length (fun j => (j : Int)))
  mu := fun s => ((s.1.length : Int) - s.2.2.2.2.2).toNat
  ok := by
    intro v h s hg
    try dsimp only at hg
    split at hg <;> cases hg
    rfl

def LSgp3  : LS where
  S := List Body × List Contact × Unit × Unit × List Int × Int × Int
  live := [(0, [none]), (1, [none]), (5, [some .int]), (7, [none]), (8, [none])]
  shape := fun s => ([.vec 0, .vec 1, .vec 2, .int .i64 s.2.2.2.2.2.1, .int .i64 s.2.2.2.2.2.2], [(false, .vec .body s.1), (false, .vec .contact s.2.1), (true, .vec .int s.2.2.2.2.1)])
  get := fun v h => match v, h with
    | [.vec 0, .vec 1, .vec 2, .int .i64 n, .int .i64 k], [(false, .vec .body xs), (false, .vec .contact cs), (true, .vec .int out)] => some (xs, cs, (), (), out, n, k)
    | _, _ => none
  inv := fun s0 s => Holds (s.1 = s0.1 ∧ s.2.1 = s0.2.1 ∧ s.2.2.2.2.2.1 = s0.2.2.2.2.2.1 ∧ 0 ≤ s.2.2.2.2.2.2 ∧ s.2.2.2.2.2.2 ≤ s0.2.1.length ∧ ∃ f, agree s0.1 s.2.2.2.2.1 f ∧ Grp.rounds (edgesX s0.1) (s0.1.length - (s0.2.2.2.2.2.1.toNat + 1)) ((edgesC s0.1 (s0.2.1.drop s.2.2.2.2.2.2.toNat)).foldl Grp.relax f) = Grp.rounds (edgesX s0.1) s0.1.length (fun j => (j : Int)))
  mu := fun s => ((s.2.1.length : Int) - s.2.2.2.2.2.2).toNat
  ok := by
    intro v h s hg
    try dsimp only at hg
    split at hg <;> cases hg
    rfl

def L_groupsS : Loops := fun n => match n with
  | 3 => some LSgp1
  | 7 => some LSgp2
  | 10 => some LSgp3
  | _ => none
noncomputable def fs_l7Groups : Fs := ⟨[], fun args H => match args, H with
  | [.vec 0, .vec 1], [(false, .vec .body xs), (false, .vec .contact cs)] => some ((some (xs.length ≤ 12 ∧ cs = contactsF xs)), .vec 2, [(false, .vec .body xs), (false, .vec .contact cs), (true, .vec .int (groupsX xs))])
  | _, _ => none⟩

theorem vc_l7Groups (xs : List Body) (cs : List Contact) (Q : SV → List Ent → Prop) :
    fnVC tt (look [(131, fs_l3Less), (132, fs_l7Number)]) (L_groupsS) Tryz.f97 [.vec 0, .vec 1] [(false, .vec .body xs), (false, .vec .contact cs)] Q =
    (let w_ := IntKind.wrap IntKind.i64; let n_ := Int.toNat; Holds (xs = xs ∧ cs = cs ∧ (0 : Int) ≤ (0 : Int) ∧ (0 : Int) ≤ (↑(List.length xs) : Int) ∧ [] = gen (fun j => (↑j : Int)) (n_ (0 : Int))) ∧ ∀ (y12 : List Body × List Contact × Unit × Unit × List Int × Int), let y12f0_ := Prod.fst y12; let y12s1_ := Prod.snd y12; let y12f1_ := Prod.fst (Prod.snd y12); let y12s4_ := Prod.snd (Prod.snd (Prod.snd (Prod.snd y12))); let y12f4_ := Prod.fst (Prod.snd (Prod.snd (Prod.snd (Prod.snd y12)))); let y12s5_ := Prod.snd (Prod.snd (Prod.snd (Prod.snd (Prod.snd y12)))); let A13_ := (↑(List.length y12f0_) : Int); Holds (Prod.fst y12 = xs ∧ y12f1_ = cs ∧ (0 : Int) ≤ y12s5_ ∧ y12s5_ ≤ (↑(List.length xs) : Int) ∧ y12f4_ = gen (fun j => (↑j : Int)) (n_ y12s5_)) → ifB (decide (Prod.snd y12s4_ < A13_)) ((List.length y12f4_ + List.length [y12s5_]) * (8 : Nat) ≤ room ∧ Holds (Prod.fst y12 = xs ∧ y12f1_ = cs ∧ (0 : Int) ≤ w_ (Prod.snd y12s4_ + (1 : Int)) ∧ w_ (Prod.snd y12s4_ + (1 : Int)) ≤ (↑(List.length xs) : Int) ∧ y12f4_ ++ [y12s5_] = gen (fun j => (↑j : Int)) (n_ (w_ (Prod.snd y12s4_ + (1 : Int))))) ∧ n_ (A13_ - w_ (Prod.snd y12s4_ + (1 : Int))) < n_ (A13_ - y12s5_)) (Holds (Prod.fst y12 = y12f0_ ∧ y12f1_ = y12f1_ ∧ (0 : Int) ≤ (0 : Int) ∧ (0 : Int) ≤ A13_ ∧ ∃ f, agree y12f0_ y12f4_ f ∧ Grp.rounds (edgesX y12f0_) (List.length y12f0_ - n_ (0 : Int)) f = Grp.rounds (edgesX y12f0_) (List.length y12f0_) fun j => (↑j : Int)) ∧ ∀ (y11 : List Body × List Contact × Unit × Unit × List Int × Int), let y11f0_ := Prod.fst y11; let y11f1_ := Prod.fst (Prod.snd y11); let y11s4_ := Prod.snd (Prod.snd (Prod.snd (Prod.snd y11))); let y11f4_ := Prod.fst (Prod.snd (Prod.snd (Prod.snd (Prod.snd y11)))); let y11s5_ := Prod.snd (Prod.snd (Prod.snd (Prod.snd (Prod.snd y11)))); Holds (Prod.fst y11 = y12f0_ ∧ y11f1_ = y12f1_ ∧ (0 : Int) ≤ y11s5_ ∧ y11s5_ ≤ A13_ ∧ ∃ f, agree y12f0_ y11f4_ f ∧ Grp.rounds (edgesX y12f0_) (List.length y12f0_ - n_ y11s5_) f = Grp.rounds (edgesX y12f0_) (List.length y12f0_) fun j => (↑j : Int)) → ifB (decide (Prod.snd y11s4_ < (↑(List.length y11f0_) : Int))) (Holds (Prod.fst y11 = y11f0_ ∧ y11f1_ = y11f1_ ∧ y11s5_ = y11s5_ ∧ (0 : Int) ≤ (0 : Int) ∧ (0 : Int) ≤ (↑(List.length y11f1_) : Int) ∧ ∃ f, agree y11f0_ y11f4_ f ∧ Grp.rounds (edgesX y11f0_) (List.length y11f0_ - (n_ y11s5_ + (1 : Nat))) (List.foldl Grp.relax f (edgesC y11f0_ (List.drop (n_ (0 : Int)) y11f1_))) = Grp.rounds (edgesX y11f0_) (List.length y11f0_) fun j => (↑j : Int)) ∧ ∀ (y1 : List Body × List Contact × Unit × Unit × List Int × Int × Int), let y1f0_ := Prod.fst y1; let y1s1_ := Prod.snd y1; let y1f1_ := Prod.fst (Prod.snd y1); let y1f4_ := Prod.fst (Prod.snd (Prod.snd (Prod.snd (Prod.snd y1)))); let y1s5_ := Prod.snd (Prod.snd (Prod.snd (Prod.snd (Prod.snd y1)))); let y1f5_ := Prod.fst (Prod.snd (Prod.snd (Prod.snd (Prod.snd (Prod.snd y1))))); let y1s6_ := Prod.snd (Prod.snd (Prod.snd (Prod.snd (Prod.snd (Prod.snd y1))))); let A10_ := (List.length y11f0_); let A9_ := (↑(List.length y11f1_) : Int); let A8_ := (↑(List.length y1f1_) : Int); let A4_ := (Prod.snd y1s5_ + (1 : Int)); let A5_ := (edgesC y11f0_ (List.drop (n_ (w_ A4_)) y11f1_)); let A3_ := y11s4_; let A7_ := (List.length y11f0_ - (n_ (Prod.snd A3_) + (1 : Nat))); let A2_ := (Ty.ix Ty.contact y1f1_ (n_ y1s6_)); let A6_ := (min (Ty.ix Ty.int y1f4_ (n_ (Contact.A A2_))) (Ty.ix Ty.int y1f4_ (n_ (Contact.B A2_)))); Holds (Prod.fst y1 = y11f0_ ∧ y1f1_ = y11f1_ ∧ y1f5_ = Prod.snd A3_ ∧ (0 : Int) ≤ y1s6_ ∧ y1s6_ ≤ A9_ ∧ ∃ f, agree y11f0_ y1f4_ f ∧ Grp.rounds (edgesX y11f0_) A7_ (List.foldl Grp.relax f (edgesC y11f0_ (List.drop (n_ y1s6_) y11f1_))) = Grp.rounds (edgesX y11f0_) A10_ fun j => (↑j : Int)) → ifB (decide (Prod.snd y1s5_ < A8_)) (((0 : Int) ≤ y1s6_ ∧ y1s6_ < A8_) ∧ ((0 : Int) ≤ Contact.A A2_ ∧ Contact.A A2_ < (↑(List.length y1f0_) : Int)) ∧ ifB (Body.Mass (Ty.ix Ty.body y1f0_ (n_ (Contact.A A2_))) == (0 : Int)) (Holds (Prod.fst y1 = y11f0_ ∧ y1f1_ = y11f1_ ∧ y1f5_ = Prod.snd A3_ ∧ (0 : Int) ≤ w_ A4_ ∧ w_ A4_ ≤ A9_ ∧ ∃ f, agree y11f0_ y1f4_ f ∧ Grp.rounds (edgesX y11f0_) A7_ (List.foldl Grp.relax f A5_) = Grp.rounds (edgesX y11f0_) A10_ fun j => (↑j : Int)) ∧ n_ (A8_ - w_ A4_) < n_ (A8_ - y1s6_)) (((0 : Int) ≤ Contact.B A2_ ∧ Contact.B A2_ < (↑(List.length y1f0_) : Int)) ∧ ifB (Body.Mass (Ty.ix Ty.body y1f0_ (n_ (Contact.B A2_))) == (0 : Int)) (Holds (Prod.fst y1 = y11f0_ ∧ y1f1_ = y11f1_ ∧ y1f5_ = Prod.snd A3_ ∧ (0 : Int) ≤ w_ A4_ ∧ w_ A4_ ≤ A9_ ∧ ∃ f, agree y11f0_ y1f4_ f ∧ Grp.rounds (edgesX y11f0_) A7_ (List.foldl Grp.relax f A5_) = Grp.rounds (edgesX y11f0_) A10_ fun j => (↑j : Int)) ∧ n_ (A8_ - w_ A4_) < n_ (A8_ - y1s6_)) (((0 : Int) ≤ Contact.A A2_ ∧ Contact.A A2_ < (↑(List.length y1f4_) : Int)) ∧ ((0 : Int) ≤ Contact.B A2_ ∧ Contact.B A2_ < (↑(List.length y1f4_) : Int)) ∧ ((0 : Int) ≤ Contact.A A2_ ∧ Contact.A A2_ < (↑(List.length y1f4_) : Int)) ∧ ((0 : Int) ≤ Contact.B A2_ ∧ Contact.B A2_ < (↑(List.length (List.set y1f4_ (n_ (Contact.A A2_)) A6_)) : Int)) ∧ Holds (Prod.fst y1 = y11f0_ ∧ y1f1_ = y11f1_ ∧ y1f5_ = Prod.snd A3_ ∧ (0 : Int) ≤ w_ A4_ ∧ w_ A4_ ≤ A9_ ∧ ∃ f, agree y11f0_ (List.set (List.set y1f4_ (n_ (Contact.A A2_)) A6_) (n_ (Contact.B A2_)) A6_) f ∧ Grp.rounds (edgesX y11f0_) A7_ (List.foldl Grp.relax f A5_) = Grp.rounds (edgesX y11f0_) A10_ fun j => (↑j : Int)) ∧ n_ (A8_ - w_ A4_) < n_ (A8_ - y1s6_)))) (Holds (Prod.fst y1 = y12f0_ ∧ y1f1_ = y12f1_ ∧ (0 : Int) ≤ w_ (Prod.fst y1s5_ + (1 : Int)) ∧ w_ (Prod.fst y1s5_ + (1 : Int)) ≤ A13_ ∧ ∃ f, agree y12f0_ y1f4_ f ∧ Grp.rounds (edgesX y12f0_) (List.length y12f0_ - n_ (w_ (Prod.fst y1s5_ + (1 : Int)))) f = Grp.rounds (edgesX y12f0_) (List.length y12f0_) fun j => (↑j : Int)) ∧ n_ ((↑(List.length y1f0_) : Int) - w_ (Prod.fst y1s5_ + (1 : Int))) < n_ ((↑A10_ : Int) - Prod.snd A3_))) ((List.length y11f0_ ≤ (12 : Nat) ∧ List.length y11f4_ = List.length y11f0_ ∧ ∀ (j : Nat), j < List.length y11f0_ → gi y11f4_ j = (↑(cmX y11f0_ j) : Int)) ∧ Q (SV.vec (2 : Nat)) [(false, Blk.vec Ty.body y11f0_), (false, Blk.vec Ty.contact y11f1_), (true, Blk.vec Ty.int (groupsX y11f0_))]))) := by kernel_rfl

theorem ok_l7Groups : FsOk Tryz.prog 97 fs_l7Groups := fsOk_of tt_ok (tabFs_cons ok_l3Less (tabFs_cons ok_l7Number tabFs_nil)) mixed Tryz.func97 (by kernel_rfl) (by kernel_rfl) (by
    intro args LL p r HH h hp
    unfold fs_l7Groups at h
    dsimp only at h
    split at h
    case h_2 => cases h
    rename_i xs cs
    simp only [Option.some.injEq, Prod.mk.injEq] at h
    obtain ⟨rfl, rfl, rfl⟩ := h
    refine ⟨by simp [Form, stays], (L_groupsS), ?_⟩
    rw [vc_l7Groups]
    try dsimp only
    obtain ⟨hl, hC⟩ := hp _ rfl
    have hq := length_contactsF hl
    rw [← hC] at hq
    refine ⟨⟨(by trivial), (by trivial), by omega, by omega, rfl⟩, ?_⟩
    rintro ⟨xs', cs', u, v, out, i⟩ ⟨h⟩
    dsimp only at h ⊢
    obtain ⟨rfl, rfl, i0, i1, h5⟩ := h
    have hs := congrArg List.length h5
    rw [length_gen] at hs
    refine ifB_of (fun c => ?_) (fun c => ?_)
    · have c := of_decide_eq_true c
      have e1 : (i + 1).toNat = i.toNat + 1 := by omega
      have w : IntKind.i64.wrap (i + 1) = i + 1 := wrap_small (by omega) (by omega)
      rw [w, e1]
      refine ⟨by simp only [room, List.length_singleton]; omega, ⟨(by trivial), (by trivial), by omega, by omega, ?_⟩, by omega⟩
      rw [gen_succ, h5, show ((i.toNat : Nat) : Int) = i by omega]
    · have c := of_decide_eq_false c
      have hag : agree xs' out (fun j => (j : Int)) := by
        refine ⟨by omega, fun j hj => ?_⟩
        rw [h5]
        exact ix_gen (T := .int) (by omega)
      refine ⟨⟨(by trivial), (by trivial), by omega, by omega, _, hag, rfl⟩, ?_⟩
      clear h5 hs c hag i0 i1
      rintro ⟨xs2, cs2, u2, v2, out2, n⟩ ⟨h⟩
      dsimp only at h ⊢
      obtain ⟨rfl, rfl, n0, n1, f, ha, hr⟩ := h
      refine ifB_of (fun c => ?_) (fun c => ?_)
      · have c := of_decide_eq_true c
        have e1 : (n + 1).toNat = n.toNat + 1 := by omega
        have w : IntKind.i64.wrap (n + 1) = n + 1 := wrap_small (by omega) (by omega)
        have hEd : edgesC xs2 cs2 = edgesX xs2 := by rw [hC]; rfl
        refine ⟨⟨(by trivial), (by trivial), (by trivial), by omega, by omega, f, ha, ?_⟩, ?_⟩
        · rw [← hr, show xs2.length - n.toNat = (xs2.length - (n.toNat + 1)) + 1 by omega]
          show Grp.rounds (edgesX xs2) (xs2.length - (n.toNat + 1)) ((edgesC xs2 cs2).foldl Grp.relax f) = _
          rw [hEd]
          rfl
        clear ha hr f
        rintro ⟨xs3, cs3, u3, v3, out3, n3, k⟩ ⟨h⟩
        dsimp only at h ⊢
        obtain ⟨rfl, rfl, rfl, k0, k1, f, ha, hr⟩ := h
        refine ifB_of (fun c2 => ?_) (fun c2 => ?_)
        · have c2 := of_decide_eq_true c2
          have hk : k.toNat < cs3.length := by omega
          have e2 : (k + 1).toNat = k.toNat + 1 := by omega
          have w2 : IntKind.i64.wrap (k + 1) = k + 1 := wrap_small (by omega) (by omega)
          have hc : 0 ≤ (Ty.ix .contact cs3 k.toNat).A ∧ (Ty.ix .contact cs3 k.toNat).A < xs3.length ∧ 0 ≤ (Ty.ix .contact cs3 k.toNat).B ∧ (Ty.ix .contact cs3 k.toNat).B < xs3.length := by
            have := contact_ok0 (xs := xs3) (i := k.toNat) (by rw [← hC]; exact hk)
            rw [← hC] at this
            exact ⟨this.1, this.2.1, this.2.2.1, this.2.2.2.1⟩
          obtain ⟨a0, a1, b0, b1⟩ := hc
          rw [edgesC_drop hk] at hr
          rw [w2, e2]
          have stay : (freeB xs3 (Ty.ix .contact cs3 k.toNat).A.toNat && freeB xs3 (Ty.ix .contact cs3 k.toNat).B.toNat) = false → ∃ f, agree xs3 out3 f ∧ Grp.rounds (edgesX xs3) (xs3.length - (n3.toNat + 1)) ((edgesC xs3 (cs3.drop (k.toNat + 1))).foldl Grp.relax f) = Grp.rounds (edgesX xs3) xs3.length (fun j => (j : Int)) := by
            intro z
            rw [z] at hr
            exact ⟨f, ha, hr⟩
          refine ⟨⟨k0, c2⟩, ⟨a0, a1⟩, ifB_of (fun d1 => ⟨⟨(by trivial), (by trivial), (by trivial), by omega, by omega, stay ?_⟩, by omega⟩) (fun d1 => ⟨⟨b0, b1⟩, ifB_of (fun d2 => ⟨⟨(by trivial), (by trivial), (by trivial), by omega, by omega, stay ?_⟩, by omega⟩) (fun d2 => ?_)⟩)⟩
          · unfold freeB
            rw [d1]
            rfl
          · unfold freeB
            rw [d2, Bool.not_true, Bool.and_false]
          · have fA : freeB xs3 (Ty.ix .contact cs3 k.toNat).A.toNat = true := by unfold freeB; rw [d1]; rfl
            have fB : freeB xs3 (Ty.ix .contact cs3 k.toNat).B.toNat = true := by unfold freeB; rw [d2]; rfl
            rw [fA, fB] at hr
            have hl3 := ha.1
            refine ⟨⟨a0, by omega⟩, ⟨b0, by omega⟩, ⟨a0, by omega⟩, ⟨b0, by rw [List.length_set]; omega⟩, ⟨(by trivial), (by trivial), (by trivial), by omega, by omega, _, agree_relax ha (by omega) (by omega), hr⟩, by omega⟩
        · have c2 := of_decide_eq_false c2
          rw [drop_end (by omega)] at hr
          have hr : Grp.rounds (edgesX xs3) (xs3.length - (n3.toNat + 1)) f = _ := hr
          rw [w, e1]
          exact ⟨⟨(by trivial), (by trivial), by omega, by omega, f, ha, hr⟩, by omega⟩
      · have c := of_decide_eq_false c
        rw [show xs2.length - n.toNat = 0 by omega] at hr
        exact ⟨⟨hl, lab_done ha hr⟩, (by trivial), (by trivial)⟩)

def LSsaw  : LS where
  S := List Body × List Int × Unit × Unit × List Bool × Int
  live := [(0, [none]), (1, [none]), (5, [some .bool]), (6, [none])]
  shape := fun s => ([.vec 0, .vec 1, .vec 2, .int .i64 s.2.2.2.2.2], [(false, .vec .body s.1), (false, .vec .int s.2.1), (true, .vec .bool s.2.2.2.2.1)])
  get := fun v h => match v, h with
    | [.vec 0, .vec 1, .vec 2, .int .i64 i], [(false, .vec .body xs), (false, .vec .int gs), (true, .vec .bool out)] => some (xs, gs, (), (), out, i)
    | _, _ => none
  inv := fun s0 s => Holds (s.1 = s0.1 ∧ s.2.1 = s0.2.1 ∧ 0 ≤ s.2.2.2.2.2 ∧ s.2.2.2.2.2 ≤ s0.1.length ∧ s.2.2.2.2.1 = awkF s0.1 s.2.2.2.2.2.toNat)
  mu := fun s => ((s.1.length : Int) - s.2.2.2.2.2).toNat
  ok := by
    intro v h s hg
    try dsimp only at hg
    split at hg <;> cases hg
    rfl

def L_sawake : Loops := fun n => match n with
  | 3 => some LSsaw
  | _ => none
noncomputable def fs_l7Awake : Fs := ⟨[], fun args H => match args, H with
  | [.vec 0, .vec 1], [(false, .vec .body xs), (false, .vec .int gs)] => some ((some (bodiesOk xs = true ∧ gs = groupsX xs)), .vec 2, [(false, .vec .body xs), (false, .vec .int gs), (true, .vec .bool (awkF xs xs.length))])
  | _, _ => none⟩

theorem vc_l7Awake (xs : List Body) (gs : List Int) (Q : SV → List Ent → Prop) :
    fnVC tt (look [(71, fs_l6Sleeps)]) (L_sawake) Tryz.f98 [.vec 0, .vec 1] [(false, .vec .body xs), (false, .vec .int gs)] Q =
    (let w_ := IntKind.wrap IntKind.i64; let n_ := Int.toNat; let ii_ := Ty.ix Ty.int; Holds (xs = xs ∧ gs = gs ∧ (0 : Int) ≤ (0 : Int) ∧ (0 : Int) ≤ (↑(List.length xs) : Int) ∧ [] = awkF xs (n_ (0 : Int))) ∧ ∀ (y1 : List Body × List Int × Unit × Unit × List Bool × Int), let y1f0_ := Prod.fst y1; let y1s1_ := Prod.snd y1; let y1f1_ := Prod.fst (Prod.snd y1); let y1s4_ := Prod.snd (Prod.snd (Prod.snd (Prod.snd y1))); let y1f4_ := Prod.fst (Prod.snd (Prod.snd (Prod.snd (Prod.snd y1)))); let y1s5_ := Prod.snd (Prod.snd (Prod.snd (Prod.snd (Prod.snd y1)))); let A9_ := (Prod.fst y1s4_ ++ [false]); let A8_ := (↑(List.length xs) : Int); let A7_ := (↑(List.length y1f1_) : Int); let A4_ := (n_ (ii_ y1f1_ (n_ y1s5_))); let A3_ := (↑(List.length y1f0_) : Int); let A2_ := (Prod.snd y1s4_ + (1 : Int)); let A6_ := (A3_ - w_ A2_); let A5_ := (n_ (w_ A2_)); Holds (Prod.fst y1 = xs ∧ y1f1_ = gs ∧ (0 : Int) ≤ y1s5_ ∧ y1s5_ ≤ A8_ ∧ y1f4_ = awkF xs (n_ y1s5_)) → ifB (decide (Prod.snd y1s4_ < A3_)) (((0 : Int) ≤ y1s5_ ∧ y1s5_ < A7_) ∧ ifB (ii_ y1f1_ (n_ y1s5_) == (↑(List.length y1f4_) : Int)) ((List.length y1f4_ + List.length [false]) * (1 : Nat) ≤ room ∧ ((0 : Int) ≤ y1s5_ ∧ y1s5_ < A7_) ∧ ifB (decide (ii_ y1f1_ (n_ y1s5_) ≥ (0 : Int))) (((0 : Int) ≤ y1s5_ ∧ y1s5_ < A7_) ∧ ((0 : Int) ≤ y1s5_ ∧ y1s5_ < A7_) ∧ ((0 : Int) ≤ ii_ y1f1_ (n_ y1s5_) ∧ ii_ y1f1_ (n_ y1s5_) < (↑(List.length A9_) : Int)) ∧ ifB (Ty.ix Ty.bool A9_ A4_) (((0 : Int) ≤ ii_ y1f1_ (n_ y1s5_) ∧ ii_ y1f1_ (n_ y1s5_) < (↑(List.length A9_) : Int)) ∧ Holds (Prod.fst y1 = xs ∧ y1f1_ = gs ∧ (0 : Int) ≤ w_ A2_ ∧ w_ A2_ ≤ A8_ ∧ List.set A9_ A4_ true = awkF xs A5_) ∧ n_ A6_ < n_ (A3_ - y1s5_)) (((0 : Int) ≤ y1s5_ ∧ y1s5_ < A3_) ∧ ((0 : Int) ≤ ii_ y1f1_ (n_ y1s5_) ∧ ii_ y1f1_ (n_ y1s5_) < (↑(List.length A9_) : Int)) ∧ Holds (Prod.fst y1 = xs ∧ y1f1_ = gs ∧ (0 : Int) ≤ w_ A2_ ∧ w_ A2_ ≤ A8_ ∧ (List.set A9_ A4_ !decide (Body.Quiet (Ty.ix Ty.body y1f0_ (n_ y1s5_)) ≥ (8 : Int))) = awkF xs A5_) ∧ n_ A6_ < n_ (A3_ - y1s5_))) (Holds (Prod.fst y1 = xs ∧ y1f1_ = gs ∧ (0 : Int) ≤ w_ A2_ ∧ w_ A2_ ≤ A8_ ∧ y1f4_ ++ [false] = awkF xs A5_) ∧ n_ A6_ < n_ (A3_ - y1s5_))) (((0 : Int) ≤ y1s5_ ∧ y1s5_ < A7_) ∧ ifB (decide (ii_ y1f1_ (n_ y1s5_) ≥ (0 : Int))) (((0 : Int) ≤ y1s5_ ∧ y1s5_ < A7_) ∧ ((0 : Int) ≤ y1s5_ ∧ y1s5_ < A7_) ∧ ((0 : Int) ≤ ii_ y1f1_ (n_ y1s5_) ∧ ii_ y1f1_ (n_ y1s5_) < (↑(List.length y1f4_) : Int)) ∧ ifB (Ty.ix Ty.bool y1f4_ A4_) (((0 : Int) ≤ ii_ y1f1_ (n_ y1s5_) ∧ ii_ y1f1_ (n_ y1s5_) < (↑(List.length y1f4_) : Int)) ∧ Holds (Prod.fst y1 = xs ∧ y1f1_ = gs ∧ (0 : Int) ≤ w_ A2_ ∧ w_ A2_ ≤ A8_ ∧ List.set y1f4_ A4_ true = awkF xs A5_) ∧ n_ A6_ < n_ (A3_ - y1s5_)) (((0 : Int) ≤ y1s5_ ∧ y1s5_ < A3_) ∧ ((0 : Int) ≤ ii_ y1f1_ (n_ y1s5_) ∧ ii_ y1f1_ (n_ y1s5_) < (↑(List.length y1f4_) : Int)) ∧ Holds (Prod.fst y1 = xs ∧ y1f1_ = gs ∧ (0 : Int) ≤ w_ A2_ ∧ w_ A2_ ≤ A8_ ∧ (List.set y1f4_ A4_ !decide (Body.Quiet (Ty.ix Ty.body y1f0_ (n_ y1s5_)) ≥ (8 : Int))) = awkF xs A5_) ∧ n_ A6_ < n_ (A3_ - y1s5_))) (Holds (Prod.fst y1 = xs ∧ y1f1_ = gs ∧ (0 : Int) ≤ w_ A2_ ∧ w_ A2_ ≤ A8_ ∧ y1f4_ = awkF xs A5_) ∧ n_ A6_ < n_ (A3_ - y1s5_)))) (Q (SV.vec (2 : Nat)) [(false, Blk.vec Ty.body y1f0_), (false, Blk.vec Ty.int y1f1_), (true, Blk.vec Ty.bool y1f4_)])) := by kernel_rfl

theorem ok_l7Awake : FsOk Tryz.prog 98 fs_l7Awake := fsOk_of tt_ok (tabFs_cons ok_l6Sleeps tabFs_nil) mixed Tryz.func98 (by kernel_rfl) (by kernel_rfl) (by
    intro args LL p r HH h hp
    unfold fs_l7Awake at h
    dsimp only at h
    split at h
    case h_2 => cases h
    rename_i xs gs
    simp only [Option.some.injEq, Prod.mk.injEq] at h
    obtain ⟨rfl, rfl, rfl⟩ := h
    refine ⟨by simp [Form, stays], (L_sawake), ?_⟩
    rw [vc_l7Awake]
    try dsimp only
    obtain ⟨hok, hG⟩ := hp _ rfl
    have hl := bodiesOk_len hok
    have hgl : (groupsX xs).length = xs.length := by simp only [groupsX, length_gen]
    refine ⟨⟨(by trivial), (by trivial), by omega, by omega, rfl⟩, ?_⟩
    rintro ⟨xs', gs', u, v, out, i⟩ ⟨h⟩
    dsimp only at h ⊢
    obtain ⟨rfl, rfl, i0, i1, rfl⟩ := h
    subst hG
    refine ifB_of (fun c => ?_) (fun c => ?_)
    · have c := of_decide_eq_true c
      have hi : i.toNat < xs'.length := by omega
      have e1 : (i + 1).toNat = i.toNat + 1 := by omega
      have w : IntKind.i64.wrap (i + 1) = i + 1 := wrap_small (by omega) (by omega)
      have hg : Ty.ix .int (groupsX xs') i.toNat = gOf xs' xs'.length i.toNat := ix_gen (T := .int) hi
      have hle := length_awkF xs' i.toNat
      have hll := lead_len hi
      have hga := gOf_all hi
      have hns := num_succ xs' i.toNat
      have hnl := num_le xs' i.toNat
      have hqq : decide ((Ty.ix .body xs' i.toNat).Quiet ≥ 8) = ((Ty.ix .body xs' i.toNat).Quiet == 8) := by
        have h1 := bodiesOk_each hok hi
        simp only [bodyOk, Bool.and_eq_true, isIn, decide_eq_true_eq] at h1
        have h8 := h1.1.2
        rw [Bool.eq_iff_iff]
        simp only [decide_eq_true_eq, beq_iff_eq]
        omega
      rw [w, e1, hg, hle, hqq]
      cases f : freeB xs' i.toNat with
      | false =>
        rw [f] at hga
        have hga : gOf xs' xs'.length i.toNat = -1 := hga
        rw [hga]
        have fin : awkF xs' i.toNat = awkF xs' (i.toNat + 1) := (awk_fixed f).symm
        refine ⟨⟨i0, by omega⟩, ifB_of (fun d => ?_) (fun d => ⟨⟨i0, by omega⟩, ifB_of (fun d2 => ?_) (fun d2 => ⟨⟨(by trivial), (by trivial), by omega, by omega, fin⟩, by omega⟩)⟩)⟩
        · have d : (-1 : Int) = (numX xs' i.toNat : Int) := eq_of_beq d
          omega
        · exact absurd d2 (by decide)
      | true =>
        rw [f] at hga
        have hga : gOf xs' xs'.length i.toNat = (numX xs' (cmX xs' i.toNat) : Int) := hga
        have hin := num_in f
        rw [hga] at hll ⊢
        have hpos : ¬ decide ((numX xs' (cmX xs' i.toNat) : Int) ≥ 0) = false := by
          rw [decide_eq_true (by omega)]
          simp
        have same0 : ∀ {out : List Bool} {m : Nat} {v : Bool}, m < out.length → Ty.ix .bool out m = v → out.set m v = out := by
          rintro out m v hm rfl
          exact set_ix (T := .bool) out hm
        have key : ∀ {out : List Bool}, (bif !((Ty.ix .body xs' i.toNat).Quiet == 8) then out.set (numX xs' (cmX xs' i.toNat)) true else out) = awkF xs' (i.toNat + 1) → numX xs' (cmX xs' i.toNat) < out.length → ∀ b : Bool, Ty.ix .bool out (numX xs' (cmX xs' i.toNat)) = b →
            out.set (numX xs' (cmX xs' i.toNat)) (bif b then true else !((Ty.ix .body xs' i.toNat).Quiet == 8)) = awkF xs' (i.toNat + 1) := by
          intro out h1 h2 b h3
          rw [← h1]
          cases q : (Ty.ix .body xs' i.toNat).Quiet == 8
          · cases b <;> rfl
          · cases b
            · exact same0 h2 h3
            · exact same0 h2 h3
        refine ⟨⟨i0, by omega⟩, ifB_of (fun d => ⟨by simp only [room, List.length_singleton]; omega, ⟨i0, by omega⟩, ifB_of (fun _ => ⟨⟨i0, by omega⟩, ⟨i0, by omega⟩, ⟨by omega, ?_⟩, ifB_of (fun d3 => ⟨⟨by omega, ?_⟩, ⟨(by trivial), (by trivial), by omega, by omega, ?_⟩, by omega⟩) (fun d3 => ⟨⟨i0, c⟩, ⟨by omega, ?_⟩, ⟨(by trivial), (by trivial), by omega, by omega, ?_⟩, by omega⟩)⟩) (fun d2 => absurd d2 hpos)⟩)
          (fun d => ⟨⟨i0, by omega⟩, ifB_of (fun _ => ⟨⟨i0, by omega⟩, ⟨i0, by omega⟩, ⟨by omega, ?_⟩, ifB_of (fun d3 => ⟨⟨by omega, ?_⟩, ⟨(by trivial), (by trivial), by omega, by omega, ?_⟩, by omega⟩) (fun d3 => ⟨⟨i0, c⟩, ⟨by omega, ?_⟩, ⟨(by trivial), (by trivial), by omega, by omega, ?_⟩, by omega⟩)⟩) (fun d2 => absurd d2 hpos)⟩)⟩
        all_goals
          have d : Grp.lead (freeB xs') (cmX xs') i.toNat = _ := hll.symm.trans d
          rw [d] at hns
        case refine_1 | refine_2 | refine_4 =>
          simp only [cond_true] at hns
          exact Int.ofNat_lt.2 (by rw [List.length_append, hle, List.length_singleton]; omega)
        case refine_3 =>
          simp only [cond_true] at hns
          exact key (awk_free f d rfl).symm (by simp only [cond_true]; rw [List.length_append, hle, List.length_singleton]; omega) true d3
        case refine_5 =>
          simp only [cond_true] at hns
          exact key (awk_free f d rfl).symm (by simp only [cond_true]; rw [List.length_append, hle, List.length_singleton]; omega) false d3
        case refine_6 | refine_7 | refine_9 =>
          simp only [cond_false] at hns
          exact Int.ofNat_lt.2 (by omega)
        case refine_8 =>
          simp only [cond_false] at hns
          have := awk_free f d rfl
          simp only [cond_false, List.append_nil] at this
          exact key this.symm (by omega) true d3
        case refine_10 =>
          simp only [cond_false] at hns
          have := awk_free f d rfl
          simp only [cond_false, List.append_nil] at this
          exact key this.symm (by omega) false d3
    · have c := of_decide_eq_false c
      rw [show i.toNat = xs'.length by omega]
      exact ⟨(by trivial), (by trivial)⟩)

end
end Go.Proofs.YtnahfbjdicjdpaaGreat.Sym

