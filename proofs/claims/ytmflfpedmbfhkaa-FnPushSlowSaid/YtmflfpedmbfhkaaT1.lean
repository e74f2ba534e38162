/-
  Lengths and how two shapes touch.
  No condition.
-/
import Derived.Test.YtmflfpedmbfhkaaG3
namespace Go.Proofs.Ytmflfpedmbfhkaa.Sym
open Go
set_option linter.unusedVariables false
set_option linter.unusedSimpArgs false
set_option maxRecDepth 100000

theorem sq_le {x y : Int} (h0 : 0 ≤ x) (h : x ≤ y) : x * x ≤ y * y := Int.mul_le_mul h h h0 (by omega)
theorem tdiv256 (n : Int) : (0 ≤ n → n.tdiv 256 = n / 256) ∧ (n ≤ 0 → n.tdiv 256 = -(-n / 256)) := by
  refine ⟨fun h => Int.tdiv_eq_ediv_of_nonneg h, fun h => ?_⟩
  have := Int.tdiv_eq_ediv_of_nonneg (b := 256) (show 0 ≤ -n by omega)
  rw [Int.neg_tdiv] at this
  omega
def IsRoot (n r : Int) : Prop := 0 ≤ r ∧ r * r ≤ n ∧ n < (r + 1) * (r + 1)
theorem isRoot_one {n r s : Int} (h : IsRoot n r) (k : IsRoot n s) : r = s := by
  obtain ⟨a1, a2, a3⟩ := h
  obtain ⟨b1, b2, b3⟩ := k
  rcases Int.lt_trichotomy r s with c | c | c
  · have := sq_le (x := r + 1) (y := s) (by omega) (by omega)
    omega
  · exact c
  · have := sq_le (x := s + 1) (y := r) (by omega) (by omega)
    omega
open Classical in
noncomputable def rootI (n : Int) : Int := if h : ∃ r, IsRoot n r then Classical.choose h else 0
theorem rootI_eq {n r : Int} (h : IsRoot n r) : rootI n = r := by
  unfold rootI
  have hx : ∃ r, IsRoot n r := ⟨r, h⟩
  rw [dif_pos hx]
  exact isRoot_one (Classical.choose_spec hx) h
def LSl1Root1  : LS where
  S := Int × Int × Int
  live := [(0, [none]), (3, [none]), (4, [none])]
  shape := fun s => ([.int .i64 s.1, .int .i64 s.2.1, .int .i64 s.2.2], [])
  get := fun v h => match v, h with
    | [.int .i64 n, .int .i64 low, .int .i64 high], [] => some (n, low, high)
    | _, _ => none
  inv := fun s0 s => Holds (s.1 = s0.1 ∧ s.2.1 = 0 ∧ 1 ≤ s.2.2 ∧ s.2.2 ≤ 2828427124)
  mu := fun s => (2828427130 - s.2.2).toNat
  ok := by
    intro v h s hg
    try dsimp only at hg
    split at hg <;> cases hg
    rfl

def LSl1Root2  : LS where
  S := Int × Int × Int
  live := [(0, [none]), (3, [none]), (4, [none])]
  shape := fun s => ([.int .i64 s.1, .int .i64 s.2.1, .int .i64 s.2.2], [])
  get := fun v h => match v, h with
    | [.int .i64 n, .int .i64 low, .int .i64 high], [] => some (n, low, high)
    | _, _ => none
  inv := fun s0 s => Holds (s.1 = s0.1 ∧ 0 ≤ s.2.1 ∧ s.2.1 < s.2.2 ∧ s.2.2 ≤ 2828427124 ∧ s.2.1 * s.2.1 ≤ s0.1 ∧ s0.1 < s.2.2 * s.2.2)
  mu := fun s => (s.2.2 - s.2.1).toNat
  ok := by
    intro v h s hg
    try dsimp only at hg
    split at hg <;> cases hg
    rfl

def L_l1Root : Loops := fun n => match n with
  | 3 => some LSl1Root1
  | 5 => some LSl1Root2
  | _ => none
noncomputable def fs_l1Root : Fs := ⟨[], fun args H => match args, H with
  | [.int .i64 n], [] => some ((some (0 ≤ n ∧ n ≤ 2000000000000000000)), .int .i64 (rootI n), [])
  | _, _ => none⟩

theorem vc_l1Root (n : Int) (Q : SV → List Ent → Prop) :
    fnVC tt (look []) (L_l1Root) Try.f72 [.int .i64 n] [] Q =
    (let w_ := IntKind.wrap IntKind.i64; Holds (n = n ∧ (0 : Int) = (0 : Int) ∧ (1 : Int) ≤ (1 : Int) ∧ (1 : Int) ≤ (2828427124 : Int)) ∧ ∀ (y3 : Int × Int × Int), let y3f0_ := Prod.fst y3; let y3f1_ := Prod.fst (Prod.snd y3); let y3s2_ := Prod.snd (Prod.snd y3); Holds (Prod.fst y3 = n ∧ y3f1_ = (0 : Int) ∧ (1 : Int) ≤ y3s2_ ∧ y3s2_ ≤ (2828427124 : Int)) → ifB (decide (w_ (Prod.snd (Prod.snd y3) * y3s2_) ≤ y3f0_)) (Holds (Prod.fst y3 = n ∧ y3f1_ = (0 : Int) ∧ (1 : Int) ≤ w_ ((2 : Int) * y3s2_) ∧ w_ ((2 : Int) * y3s2_) ≤ (2828427124 : Int)) ∧ Int.toNat ((2828427130 : Int) - w_ ((2 : Int) * y3s2_)) < Int.toNat ((2828427130 : Int) - y3s2_)) (Holds (Prod.fst y3 = y3f0_ ∧ (0 : Int) ≤ y3f1_ ∧ y3f1_ < y3s2_ ∧ y3s2_ ≤ (2828427124 : Int) ∧ y3f1_ * y3f1_ ≤ y3f0_ ∧ y3f0_ < y3s2_ * y3s2_) ∧ ∀ (y1 : Int × Int × Int), let y1f0_ := Prod.fst y1; let y1s1_ := Prod.snd y1; let y1f1_ := Prod.fst (Prod.snd y1); let y1s2_ := Prod.snd (Prod.snd y1); let A2_ := (Int.tdiv (w_ (Prod.fst y1s1_ + y1s2_)) (2 : Int)); Holds (Prod.fst y1 = y3f0_ ∧ (0 : Int) ≤ y1f1_ ∧ y1f1_ < y1s2_ ∧ y1s2_ ≤ (2828427124 : Int) ∧ y1f1_ * y1f1_ ≤ y3f0_ ∧ y3f0_ < y1s2_ * y1s2_) → ifB (decide (w_ (Prod.snd y1s1_ - y1f1_) > (1 : Int))) (ifB (decide (w_ (w_ A2_ * w_ A2_) ≤ y1f0_)) (Holds (Prod.fst y1 = y3f0_ ∧ (0 : Int) ≤ w_ A2_ ∧ w_ A2_ < y1s2_ ∧ y1s2_ ≤ (2828427124 : Int) ∧ w_ A2_ * w_ A2_ ≤ y3f0_ ∧ y3f0_ < y1s2_ * y1s2_) ∧ Int.toNat (Prod.snd y1s1_ - w_ A2_) < Int.toNat (Prod.snd y1s1_ - y1f1_)) (Holds (Prod.fst y1 = y3f0_ ∧ (0 : Int) ≤ y1f1_ ∧ y1f1_ < w_ A2_ ∧ w_ A2_ ≤ (2828427124 : Int) ∧ y1f1_ * y1f1_ ≤ y3f0_ ∧ y3f0_ < w_ A2_ * w_ A2_) ∧ Int.toNat (w_ A2_ - y1f1_) < Int.toNat (Prod.snd y1s1_ - y1f1_))) (Q (SV.int IntKind.i64 y1f1_) []))) := by kernel_rfl

theorem ok_l1Root : FsOk Try.prog 72 fs_l1Root := fsOk_of tt_ok tabFs_nil mixed Try.func72 (by kernel_rfl) (by kernel_rfl) (by
    intro args LL p r HH h hp
    unfold fs_l1Root at h
    dsimp only at h
    split at h
    case h_2 => cases h
    rename_i n
    simp only [Option.some.injEq, Prod.mk.injEq] at h
    obtain ⟨rfl, rfl, rfl⟩ := h
    refine ⟨by simp [Form, stays], (L_l1Root), ?_⟩
    rw [vc_l1Root]
    try dsimp only
    obtain ⟨hn0, hn1⟩ := hp _ rfl
    refine ⟨⟨(by trivial), (by trivial), by omega, by omega⟩, ?_⟩
    rintro ⟨n', low, high⟩ ⟨h⟩
    dsimp only at h ⊢
    obtain ⟨rfl, rfl, h0, h1⟩ := h
    have sq := sq_le (x := high) (y := 2828427124) (by omega) h1
    have sq0 := sq_le (x := 1) (y := high) (by omega) h0
    have w : IntKind.i64.wrap (high * high) = high * high := wrap_small (by omega) (by omega)
    rw [w]
    refine ifB_of (fun c => ?_) (fun c => ?_)
    · have c := of_decide_eq_true c
      have : high ≤ 1414213562 := by
        rcases Int.lt_or_le 1414213562 high with q | q
        · have := sq_le (x := 1414213563) (y := high) (by omega) (by omega)
          omega
        · exact q
      have w2 : IntKind.i64.wrap (2 * high) = 2 * high := wrap_small (by omega) (by omega)
      rw [w2]
      exact ⟨⟨(by trivial), (by trivial), by omega, by omega⟩, by omega⟩
    · have c := of_decide_eq_false c
      refine ⟨⟨(by trivial), by omega, by omega, by omega, by omega, by omega⟩, ?_⟩
      rintro ⟨n'', low, high⟩ ⟨h⟩
      dsimp only at h ⊢
      obtain ⟨rfl, g0, g1, g2, g3, g4⟩ := h
      have w1 : IntKind.i64.wrap (high - low) = high - low := wrap_small (by omega) (by omega)
      have w2 : IntKind.i64.wrap (low + high) = low + high := wrap_small (by omega) (by omega)
      have w3 := Int.tdiv_eq_ediv_of_nonneg (b := 2) (show 0 ≤ low + high by omega)
      have w4 : IntKind.i64.wrap ((low + high) / 2) = (low + high) / 2 := wrap_small (by omega) (by omega)
      rw [w1, w2, w3, w4]
      have m0 : 0 ≤ (low + high) / 2 := by omega
      have m1 : (low + high) / 2 ≤ 2828427124 := by omega
      have sqm := sq_le m0 m1
      have sqm0 : 0 ≤ (low + high) / 2 * ((low + high) / 2) := Int.mul_nonneg m0 m0
      have w5 : IntKind.i64.wrap ((low + high) / 2 * ((low + high) / 2)) = (low + high) / 2 * ((low + high) / 2) := wrap_small (by omega) (by omega)
      rw [w5]
      refine ifB_of (fun c2 => ?_) (fun c2 => ?_)
      · have c2 := of_decide_eq_true c2
        refine ifB_of (fun c3 => ?_) (fun c3 => ?_)
        · have c3 := of_decide_eq_true c3
          exact ⟨⟨(by trivial), by omega, by omega, by omega, c3, g4⟩, by omega⟩
        · have c3 := of_decide_eq_false c3
          exact ⟨⟨(by trivial), by omega, by omega, by omega, g3, by omega⟩, by omega⟩
      · have c2 := of_decide_eq_false c2
        have e : high = low + 1 := by omega
        subst e
        rw [rootI_eq ⟨g0, g3, g4⟩]
        exact ⟨rfl, rfl⟩)

theorem clampV_le (v : Vec) : (-1000000000 ≤ (clampV 1000000000 v).X ∧ (clampV 1000000000 v).X ≤ 1000000000) ∧ (-1000000000 ≤ (clampV 1000000000 v).Y ∧ (clampV 1000000000 v).Y ≤ 1000000000) := by
  simp only [clampV, clampTo]
  omega
theorem sq_abs {x m : Int} (h0 : -m ≤ x) (h1 : x ≤ m) : 0 ≤ x * x ∧ x * x ≤ m * m := by
  rcases Int.le_total 0 x with h | h
  · exact ⟨Int.mul_nonneg h h, sq_le h h1⟩
  · have := sq_le (x := -x) (y := m) (by omega) (by omega)
    rw [Int.neg_mul_neg] at this
    have h2 := Int.mul_nonneg (show 0 ≤ -x by omega) (show 0 ≤ -x by omega)
    rw [Int.neg_mul_neg] at h2
    exact ⟨h2, this⟩
theorem square_clamp (v : Vec) : square (clampV 1000000000 v) = (clampV 1000000000 v).X * (clampV 1000000000 v).X + (clampV 1000000000 v).Y * (clampV 1000000000 v).Y ∧ 0 ≤ square (clampV 1000000000 v) ∧ square (clampV 1000000000 v) ≤ 2000000000000000000 := by
  obtain ⟨⟨a1, a2⟩, b1, b2⟩ := clampV_le v
  have h1 := sq_abs a1 a2
  have h2 := sq_abs b1 b2
  unfold square
  rw [show W ((clampV 1000000000 v).X * (clampV 1000000000 v).X) = _ from wrap_small (by omega) (by omega), show W ((clampV 1000000000 v).Y * (clampV 1000000000 v).Y) = _ from wrap_small (by omega) (by omega), show W (_ + _) = _ from wrap_small (by omega) (by omega)]
  omega
noncomputable def vecLen (a : Vec) : Int := clampTo 1000000000 (rootI (square (clampV 1000000000 a)))
noncomputable def vecUnit (a : Vec) : Vec :=
  if vecLen (clampV 1000000000 a) = 0 then ⟨0, 256⟩
  else ⟨W ((W ((clampV 1000000000 a).X * 256)).tdiv (vecLen (clampV 1000000000 a))), W ((W ((clampV 1000000000 a).Y * 256)).tdiv (vecLen (clampV 1000000000 a)))⟩
noncomputable def fs_specVecLen : Fs := ⟨[], fun args H => match args, H with
  | [.agg [.int .i64 aX, .int .i64 aY]], [] => some (none, .int .i64 (vecLen (Vec.mk aX aY)), [])
  | _, _ => none⟩

theorem vc_specVecLen (aX : Int) (aY : Int) (Q : SV → List Ent → Prop) :
    fnVC tt (look [(56, fs_specFixClamp), (72, fs_l1Root), (68, fs_l2Square), (55, fs_l2Clamp)]) L0 Try.f67 [.agg [.int .i64 aX, .int .i64 aY]] [] Q =
    (((0 : Int) ≤ square (clampV (1000000000 : Int) (Vec.mk aX aY)) ∧ square (clampV (1000000000 : Int) (Vec.mk aX aY)) ≤ (2000000000000000000 : Int)) ∧ Q (SV.int IntKind.i64 (clampTo (1000000000 : Int) (rootI (square (clampV (1000000000 : Int) (Vec.mk aX aY)))))) []) := by kernel_rfl

theorem ok_specVecLen : FsOk Try.prog 67 fs_specVecLen := fsOk_of tt_ok (tabFs_cons ok_specFixClamp (tabFs_cons ok_l1Root (tabFs_cons ok_l2Square (tabFs_cons ok_l2Clamp tabFs_nil)))) mixed Try.func67 (by kernel_rfl) (by kernel_rfl) (by
    intro args LL p r HH h hp
    unfold fs_specVecLen at h
    dsimp only at h
    split at h
    case h_2 => cases h
    rename_i aX aY
    simp only [Option.some.injEq, Prod.mk.injEq] at h
    obtain ⟨rfl, rfl, rfl⟩ := h
    refine ⟨by simp [Form, stays], L0, ?_⟩
    rw [vc_specVecLen]
    try dsimp only
    have := square_clamp ⟨aX, aY⟩
    exact ⟨⟨this.2.1, this.2.2⟩, rfl, rfl⟩)

noncomputable def fs_specVecUnit : Fs := ⟨[], fun args H => match args, H with
  | [.agg [.int .i64 aX, .int .i64 aY]], [] => some (none, .agg [.int .i64 (vecUnit (Vec.mk aX aY)).X, .int .i64 (vecUnit (Vec.mk aX aY)).Y], [])
  | _, _ => none⟩

theorem vc_specVecUnit (aX : Int) (aY : Int) (Q : SV → List Ent → Prop) :
    fnVC tt (look [(55, fs_l2Clamp), (67, fs_specVecLen)]) L0 Try.f54 [.agg [.int .i64 aX, .int .i64 aY]] [] Q =
    (ifB (vecLen (clampV (1000000000 : Int) (Vec.mk aX aY)) == (0 : Int)) (Q (SV.agg [SV.int IntKind.i64 (0 : Int), SV.int IntKind.i64 (256 : Int)]) []) (vecLen (clampV (1000000000 : Int) (Vec.mk aX aY)) ≠ (0 : Int) ∧ vecLen (clampV (1000000000 : Int) (Vec.mk aX aY)) ≠ (0 : Int) ∧ Q (SV.agg [SV.int IntKind.i64 (IntKind.wrap IntKind.i64 (Int.tdiv (IntKind.wrap IntKind.i64 (Vec.X (clampV (1000000000 : Int) (Vec.mk aX aY)) * (256 : Int))) (vecLen (clampV (1000000000 : Int) (Vec.mk aX aY))))), SV.int IntKind.i64 (IntKind.wrap IntKind.i64 (Int.tdiv (IntKind.wrap IntKind.i64 (Vec.Y (clampV (1000000000 : Int) (Vec.mk aX aY)) * (256 : Int))) (vecLen (clampV (1000000000 : Int) (Vec.mk aX aY)))))]) [])) := by kernel_rfl

theorem ok_specVecUnit : FsOk Try.prog 54 fs_specVecUnit := fsOk_of tt_ok (tabFs_cons ok_l2Clamp (tabFs_cons ok_specVecLen tabFs_nil)) mixed Try.func54 (by kernel_rfl) (by kernel_rfl) (by
    intro args LL p r HH h hp
    unfold fs_specVecUnit at h
    dsimp only at h
    split at h
    case h_2 => cases h
    rename_i aX aY
    simp only [Option.some.injEq, Prod.mk.injEq] at h
    obtain ⟨rfl, rfl, rfl⟩ := h
    refine ⟨by simp [Form, stays], L0, ?_⟩
    rw [vc_specVecUnit]
    try dsimp only
    unfold vecUnit
    refine ifB_of (fun c => ?_) (fun c => ?_)
    · have c : vecLen (clampV 1000000000 ⟨aX, aY⟩) = 0 := by simpa using c
      rw [if_pos c]
      exact ⟨rfl, rfl⟩
    · have c : ¬ vecLen (clampV 1000000000 ⟨aX, aY⟩) = 0 := by simpa using c
      rw [if_neg c]
      exact ⟨c, c, rfl, rfl⟩)


/-! ### Touching -/
noncomputable def roundsF (d : Vec) (both : Int) : Hit × Bool :=
  if square d > W (both * both) then (⟨⟨0, 0⟩, 0⟩, false) else (⟨vecUnit d, W (both - vecLen d)⟩, true)
noncomputable def fs_l5Rounds : Fs := ⟨[], fun args H => match args, H with
  | [.agg [.int .i64 aX, .int .i64 aY], .agg [.int .i64 bX, .int .i64 bY], .int .i64 m], [] => some (none, .tup [.agg [.int .i64 ((roundsF (minus (Vec.mk bX bY) (Vec.mk aX aY)) m).1).Way.X, .int .i64 ((roundsF (minus (Vec.mk bX bY) (Vec.mk aX aY)) m).1).Way.Y, .int .i64 ((roundsF (minus (Vec.mk bX bY) (Vec.mk aX aY)) m).1).Deep], .bool ((roundsF (minus (Vec.mk bX bY) (Vec.mk aX aY)) m).2)], [])
  | _, _ => none⟩

theorem vc_l5Rounds (aX : Int) (aY : Int) (bX : Int) (bY : Int) (m : Int) (Q : SV → List Ent → Prop) :
    fnVC tt (look [(68, fs_l2Square), (54, fs_specVecUnit), (67, fs_specVecLen)]) L0 Try.f62 [.agg [.int .i64 aX, .int .i64 aY], .agg [.int .i64 bX, .int .i64 bY], .int .i64 m] [] Q =
    (ifB (decide (square (Vec.mk (IntKind.wrap IntKind.i64 (bX - aX)) (IntKind.wrap IntKind.i64 (bY - aY))) > IntKind.wrap IntKind.i64 (m * m))) (Q (SV.tup [SV.agg [SV.int IntKind.i64 (0 : Int), SV.int IntKind.i64 (0 : Int), SV.int IntKind.i64 (0 : Int)], SV.bool false]) []) (Q (SV.tup [SV.agg [SV.int IntKind.i64 (Vec.X (vecUnit (Vec.mk (IntKind.wrap IntKind.i64 (bX - aX)) (IntKind.wrap IntKind.i64 (bY - aY))))), SV.int IntKind.i64 (Vec.Y (vecUnit (Vec.mk (IntKind.wrap IntKind.i64 (bX - aX)) (IntKind.wrap IntKind.i64 (bY - aY))))), SV.int IntKind.i64 (IntKind.wrap IntKind.i64 (m - vecLen (Vec.mk (IntKind.wrap IntKind.i64 (bX - aX)) (IntKind.wrap IntKind.i64 (bY - aY)))))], SV.bool true]) [])) := by kernel_rfl

theorem ok_l5Rounds : FsOk Try.prog 62 fs_l5Rounds := fsOk_of tt_ok (tabFs_cons ok_l2Square (tabFs_cons ok_specVecUnit (tabFs_cons ok_specVecLen tabFs_nil))) mixed Try.func62 (by kernel_rfl) (by kernel_rfl) (by
    intro args LL p r HH h hp
    unfold fs_l5Rounds at h
    dsimp only at h
    split at h
    case h_2 => cases h
    rename_i aX aY bX bY m
    simp only [Option.some.injEq, Prod.mk.injEq] at h
    obtain ⟨rfl, rfl, rfl⟩ := h
    refine ⟨by simp [Form, stays], L0, ?_⟩
    rw [vc_l5Rounds]
    try dsimp only
    unfold roundsF
    refine ifB_of (fun c => ?_) (fun c => ?_)
    · have c : square (minus ⟨bX, bY⟩ ⟨aX, aY⟩) > W (m * m) := of_decide_eq_true c
      rw [if_pos c]
      exact ⟨rfl, rfl⟩
    · have c : ¬ square (minus ⟨bX, bY⟩ ⟨aX, aY⟩) > W (m * m) := of_decide_eq_false c
      rw [if_neg c]
      exact ⟨rfl, rfl⟩)

def less2 (best h : Hit) : Hit := bif decide (h.Deep < best.Deep) then h else best
def boxesF (a b : Box) : Hit × Bool :=
  bif boxMeets a b then (less2 (less2 (less2 ⟨⟨256, 0⟩, W (a.High.X - b.Low.X)⟩ ⟨⟨-256, 0⟩, W (b.High.X - a.Low.X)⟩) ⟨⟨0, 256⟩, W (a.High.Y - b.Low.Y)⟩) ⟨⟨0, -256⟩, W (b.High.Y - a.Low.Y)⟩, true)
  else (⟨⟨0, 0⟩, 0⟩, false)
noncomputable def fs_l5Boxes : Fs := ⟨[], fun args H => match args, H with
  | [.agg [.int .i64 aLX, .int .i64 aLY, .int .i64 aHX, .int .i64 aHY], .agg [.int .i64 bLX, .int .i64 bLY, .int .i64 bHX, .int .i64 bHY]], [] => some (none, .tup [.agg [.int .i64 ((boxesF (Box.mk (Vec.mk aLX aLY) (Vec.mk aHX aHY)) (Box.mk (Vec.mk bLX bLY) (Vec.mk bHX bHY))).1).Way.X, .int .i64 ((boxesF (Box.mk (Vec.mk aLX aLY) (Vec.mk aHX aHY)) (Box.mk (Vec.mk bLX bLY) (Vec.mk bHX bHY))).1).Way.Y, .int .i64 ((boxesF (Box.mk (Vec.mk aLX aLY) (Vec.mk aHX aHY)) (Box.mk (Vec.mk bLX bLY) (Vec.mk bHX bHY))).1).Deep], .bool ((boxesF (Box.mk (Vec.mk aLX aLY) (Vec.mk aHX aHY)) (Box.mk (Vec.mk bLX bLY) (Vec.mk bHX bHY))).2)], [])
  | _, _ => none⟩

theorem vc_l5Boxes (aLX : Int) (aLY : Int) (aHX : Int) (aHY : Int) (bLX : Int) (bLY : Int) (bHX : Int) (bHY : Int) (Q : SV → List Ent → Prop) :
    fnVC tt (look [(69, fs_l3Meets)]) L0 Try.f63 [.agg [.int .i64 aLX, .int .i64 aLY, .int .i64 aHX, .int .i64 aHY], .agg [.int .i64 bLX, .int .i64 bLY, .int .i64 bHX, .int .i64 bHY]] [] Q =
    (ifB (!boxMeets (Box.mk (Vec.mk aLX aLY) (Vec.mk aHX aHY)) (Box.mk (Vec.mk bLX bLY) (Vec.mk bHX bHY))) (Q (SV.tup [SV.agg [SV.int IntKind.i64 (0 : Int), SV.int IntKind.i64 (0 : Int), SV.int IntKind.i64 (0 : Int)], SV.bool false]) []) (ifB (decide (IntKind.wrap IntKind.i64 (bHX - aLX) < IntKind.wrap IntKind.i64 (aHX - bLX))) (ifB (decide (IntKind.wrap IntKind.i64 (aHY - bLY) < IntKind.wrap IntKind.i64 (bHX - aLX))) (ifB (decide (IntKind.wrap IntKind.i64 (bHY - aLY) < IntKind.wrap IntKind.i64 (aHY - bLY))) (Q (SV.tup [SV.agg [SV.int IntKind.i64 (0 : Int), SV.int IntKind.i64 (-256 : Int), SV.int IntKind.i64 (IntKind.wrap IntKind.i64 (bHY - aLY))], SV.bool true]) []) (Q (SV.tup [SV.agg [SV.int IntKind.i64 (0 : Int), SV.int IntKind.i64 (256 : Int), SV.int IntKind.i64 (IntKind.wrap IntKind.i64 (aHY - bLY))], SV.bool true]) [])) (ifB (decide (IntKind.wrap IntKind.i64 (bHY - aLY) < IntKind.wrap IntKind.i64 (bHX - aLX))) (Q (SV.tup [SV.agg [SV.int IntKind.i64 (0 : Int), SV.int IntKind.i64 (-256 : Int), SV.int IntKind.i64 (IntKind.wrap IntKind.i64 (bHY - aLY))], SV.bool true]) []) (Q (SV.tup [SV.agg [SV.int IntKind.i64 (-256 : Int), SV.int IntKind.i64 (0 : Int), SV.int IntKind.i64 (IntKind.wrap IntKind.i64 (bHX - aLX))], SV.bool true]) []))) (ifB (decide (IntKind.wrap IntKind.i64 (aHY - bLY) < IntKind.wrap IntKind.i64 (aHX - bLX))) (ifB (decide (IntKind.wrap IntKind.i64 (bHY - aLY) < IntKind.wrap IntKind.i64 (aHY - bLY))) (Q (SV.tup [SV.agg [SV.int IntKind.i64 (0 : Int), SV.int IntKind.i64 (-256 : Int), SV.int IntKind.i64 (IntKind.wrap IntKind.i64 (bHY - aLY))], SV.bool true]) []) (Q (SV.tup [SV.agg [SV.int IntKind.i64 (0 : Int), SV.int IntKind.i64 (256 : Int), SV.int IntKind.i64 (IntKind.wrap IntKind.i64 (aHY - bLY))], SV.bool true]) [])) (ifB (decide (IntKind.wrap IntKind.i64 (bHY - aLY) < IntKind.wrap IntKind.i64 (aHX - bLX))) (Q (SV.tup [SV.agg [SV.int IntKind.i64 (0 : Int), SV.int IntKind.i64 (-256 : Int), SV.int IntKind.i64 (IntKind.wrap IntKind.i64 (bHY - aLY))], SV.bool true]) []) (Q (SV.tup [SV.agg [SV.int IntKind.i64 (256 : Int), SV.int IntKind.i64 (0 : Int), SV.int IntKind.i64 (IntKind.wrap IntKind.i64 (aHX - bLX))], SV.bool true]) []))))) := by kernel_rfl

theorem ok_l5Boxes : FsOk Try.prog 63 fs_l5Boxes := fsOk_of tt_ok (tabFs_cons ok_l3Meets tabFs_nil) mixed Try.func63 (by kernel_rfl) (by kernel_rfl) (by
    intro args LL p r HH h hp
    unfold fs_l5Boxes at h
    dsimp only at h
    split at h
    case h_2 => cases h
    rename_i aLX aLY aHX aHY bLX bLY bHX bHY
    simp only [Option.some.injEq, Prod.mk.injEq] at h
    obtain ⟨rfl, rfl, rfl⟩ := h
    refine ⟨by simp [Form, stays], L0, ?_⟩
    rw [vc_l5Boxes]
    try dsimp only
    refine ifB_of (fun c => ?_) (fun c => ?_)
    · simp [boxesF, not_true c]
    have c := not_false c
    simp only [boxesF, c, cond_true]
    refine ifB_of (fun c1 => ?_) (fun c1 => ?_)
    all_goals refine ifB_of (fun c2 => ?_) (fun c2 => ?_)
    all_goals refine ifB_of (fun c3 => ?_) (fun c3 => ?_)
    all_goals
      simp only [less2]
      simp only [c1, c2, c3, cond_true, cond_false]
      first | exact ⟨rfl, rfl⟩ | exact ⟨(by trivial), (by trivial)⟩)

def nearV (b : Box) (p : Vec) : Vec := ⟨max b.Low.X (min p.X b.High.X), max b.Low.Y (min p.Y b.High.Y)⟩
noncomputable def fs_l3Near : Fs := ⟨[], fun args H => match args, H with
  | [.agg [.int .i64 bLX, .int .i64 bLY, .int .i64 bHX, .int .i64 bHY], .agg [.int .i64 pX, .int .i64 pY]], [] => some ((some (bLX ≤ bHX ∧ bLY ≤ bHY)), .agg [.int .i64 (nearV (Box.mk (Vec.mk bLX bLY) (Vec.mk bHX bHY)) (Vec.mk pX pY)).X, .int .i64 (nearV (Box.mk (Vec.mk bLX bLY) (Vec.mk bHX bHY)) (Vec.mk pX pY)).Y], [])
  | _, _ => none⟩

theorem vc_l3Near (bLX : Int) (bLY : Int) (bHX : Int) (bHY : Int) (pX : Int) (pY : Int) (Q : SV → List Ent → Prop) :
    fnVC tt (look [(44, fs_l3Less), (39, fs_l3More)]) L0 Try.f71 [.agg [.int .i64 bLX, .int .i64 bLY, .int .i64 bHX, .int .i64 bHY], .agg [.int .i64 pX, .int .i64 pY]] [] Q =
    (Q (SV.agg [SV.int IntKind.i64 (min (max pX bLX) bHX), SV.int IntKind.i64 (min (max pY bLY) bHY)]) []) := by kernel_rfl

theorem ok_l3Near : FsOk Try.prog 71 fs_l3Near := fsOk_of tt_ok (tabFs_cons ok_l3Less (tabFs_cons ok_l3More tabFs_nil)) mixed Try.func71 (by kernel_rfl) (by kernel_rfl) (by
    intro args LL p r HH h hp
    unfold fs_l3Near at h
    dsimp only at h
    split at h
    case h_2 => cases h
    rename_i bLX bLY bHX bHY pX pY
    simp only [Option.some.injEq, Prod.mk.injEq] at h
    obtain ⟨rfl, rfl, rfl⟩ := h
    refine ⟨by simp [Form, stays], L0, ?_⟩
    rw [vc_l3Near]
    try dsimp only
    obtain ⟨h1, h2⟩ := hp _ rfl
    have e1 : min (max pX bLX) bHX = max bLX (min pX bHX) := by omega
    have e2 : min (max pY bLY) bHY = max bLY (min pY bHY) := by omega
    simp only [nearV, e1, e2, and_self])

noncomputable def mixedF (b : Box) (p : Vec) (w : Int) : Hit × Bool :=
  bif hasPoint b p then (⟨(boxesF b ⟨p, p⟩).1.Way, W ((boxesF b ⟨p, p⟩).1.Deep + w)⟩, (boxesF b ⟨p, p⟩).2) else roundsF (minus p (nearV b p)) w
noncomputable def fs_l5Mixed : Fs := ⟨[], fun args H => match args, H with
  | [.agg [.int .i64 bLX, .int .i64 bLY, .int .i64 bHX, .int .i64 bHY], .agg [.int .i64 pX, .int .i64 pY], .int .i64 w], [] => some ((some (bLX ≤ bHX ∧ bLY ≤ bHY)), .tup [.agg [.int .i64 ((mixedF (Box.mk (Vec.mk bLX bLY) (Vec.mk bHX bHY)) (Vec.mk pX pY) w).1).Way.X, .int .i64 ((mixedF (Box.mk (Vec.mk bLX bLY) (Vec.mk bHX bHY)) (Vec.mk pX pY) w).1).Way.Y, .int .i64 ((mixedF (Box.mk (Vec.mk bLX bLY) (Vec.mk bHX bHY)) (Vec.mk pX pY) w).1).Deep], .bool ((mixedF (Box.mk (Vec.mk bLX bLY) (Vec.mk bHX bHY)) (Vec.mk pX pY) w).2)], [])
  | _, _ => none⟩

theorem vc_l5Mixed (bLX : Int) (bLY : Int) (bHX : Int) (bHY : Int) (pX : Int) (pY : Int) (w : Int) (Q : SV → List Ent → Prop) :
    fnVC tt (look [(70, fs_l3Point), (63, fs_l5Boxes), (71, fs_l3Near), (62, fs_l5Rounds)]) L0 Try.f65 [.agg [.int .i64 bLX, .int .i64 bLY, .int .i64 bHX, .int .i64 bHY], .agg [.int .i64 pX, .int .i64 pY], .int .i64 w] [] Q =
    (ifB (hasPoint (Box.mk (Vec.mk bLX bLY) (Vec.mk bHX bHY)) (Vec.mk pX pY)) (Q (SV.tup [SV.agg [SV.int IntKind.i64 (Vec.X (Hit.Way (Prod.fst (boxesF (Box.mk (Vec.mk bLX bLY) (Vec.mk bHX bHY)) (Box.mk (Vec.mk pX pY) (Vec.mk pX pY)))))), SV.int IntKind.i64 (Vec.Y (Hit.Way (Prod.fst (boxesF (Box.mk (Vec.mk bLX bLY) (Vec.mk bHX bHY)) (Box.mk (Vec.mk pX pY) (Vec.mk pX pY)))))), SV.int IntKind.i64 (IntKind.wrap IntKind.i64 (Hit.Deep (Prod.fst (boxesF (Box.mk (Vec.mk bLX bLY) (Vec.mk bHX bHY)) (Box.mk (Vec.mk pX pY) (Vec.mk pX pY)))) + w))], SV.bool (Prod.snd (boxesF (Box.mk (Vec.mk bLX bLY) (Vec.mk bHX bHY)) (Box.mk (Vec.mk pX pY) (Vec.mk pX pY))))]) []) ((bLX ≤ bHX ∧ bLY ≤ bHY) ∧ Q (SV.tup [SV.agg [SV.int IntKind.i64 (Vec.X (Hit.Way (Prod.fst (roundsF (minus (Vec.mk pX pY) (nearV (Box.mk (Vec.mk bLX bLY) (Vec.mk bHX bHY)) (Vec.mk pX pY))) w)))), SV.int IntKind.i64 (Vec.Y (Hit.Way (Prod.fst (roundsF (minus (Vec.mk pX pY) (nearV (Box.mk (Vec.mk bLX bLY) (Vec.mk bHX bHY)) (Vec.mk pX pY))) w)))), SV.int IntKind.i64 (Hit.Deep (Prod.fst (roundsF (minus (Vec.mk pX pY) (nearV (Box.mk (Vec.mk bLX bLY) (Vec.mk bHX bHY)) (Vec.mk pX pY))) w)))], SV.bool (Prod.snd (roundsF (minus (Vec.mk pX pY) (nearV (Box.mk (Vec.mk bLX bLY) (Vec.mk bHX bHY)) (Vec.mk pX pY))) w))]) [])) := by kernel_rfl

theorem ok_l5Mixed : FsOk Try.prog 65 fs_l5Mixed := fsOk_of tt_ok (tabFs_cons ok_l3Point (tabFs_cons ok_l5Boxes (tabFs_cons ok_l3Near (tabFs_cons ok_l5Rounds tabFs_nil)))) mixed Try.func65 (by kernel_rfl) (by kernel_rfl) (by
    intro args LL p r HH h hp
    unfold fs_l5Mixed at h
    dsimp only at h
    split at h
    case h_2 => cases h
    rename_i bLX bLY bHX bHY pX pY w
    simp only [Option.some.injEq, Prod.mk.injEq] at h
    obtain ⟨rfl, rfl, rfl⟩ := h
    refine ⟨by simp [Form, stays], L0, ?_⟩
    rw [vc_l5Mixed]
    try dsimp only
    have hb := hp _ rfl
    refine ifB_of (fun c => ?_) (fun c => ⟨hb, ?_⟩)
    · have c : hasPoint ⟨⟨bLX, bLY⟩, ⟨bHX, bHY⟩⟩ ⟨pX, pY⟩ = true := c
      simp only [mixedF, c, cond_true]
      exact ⟨(by trivial), (by trivial)⟩
    · have c : hasPoint ⟨⟨bLX, bLY⟩, ⟨bHX, bHY⟩⟩ ⟨pX, pY⟩ = false := c
      simp only [mixedF, c, cond_false]
      exact ⟨(by trivial), (by trivial)⟩)

def turnH (h : Hit) : Hit := ⟨⟨W (0 - h.Way.X), W (0 - h.Way.Y)⟩, h.Deep⟩
noncomputable def fs_l5Turn : Fs := ⟨[], fun args H => match args, H with
  | [.agg [.int .i64 hX, .int .i64 hY, .int .i64 hD]], [] => some (none, .agg [.int .i64 (turnH (Hit.mk (Vec.mk hX hY) hD)).Way.X, .int .i64 (turnH (Hit.mk (Vec.mk hX hY) hD)).Way.Y, .int .i64 (turnH (Hit.mk (Vec.mk hX hY) hD)).Deep], [])
  | _, _ => none⟩

theorem vc_l5Turn (hX : Int) (hY : Int) (hD : Int) (Q : SV → List Ent → Prop) :
    fnVC tt (look []) L0 Try.f66 [.agg [.int .i64 hX, .int .i64 hY, .int .i64 hD]] [] Q =
    (Q (SV.agg [SV.int IntKind.i64 (IntKind.wrap IntKind.i64 ((0 : Int) - hX)), SV.int IntKind.i64 (IntKind.wrap IntKind.i64 ((0 : Int) - hY)), SV.int IntKind.i64 hD]) []) := by kernel_rfl

theorem ok_l5Turn : FsOk Try.prog 66 fs_l5Turn := fsOk_of tt_ok tabFs_nil mixed Try.func66 (by kernel_rfl) (by kernel_rfl) (by
    intro args LL p r HH h hp
    unfold fs_l5Turn at h
    dsimp only at h
    split at h
    case h_2 => cases h
    rename_i hX hY hD
    simp only [Option.some.injEq, Prod.mk.injEq] at h
    obtain ⟨rfl, rfl, rfl⟩ := h
    refine ⟨by simp [Form, stays], L0, ?_⟩
    rw [vc_l5Turn]
    try dsimp only

    repeat' (first | refine ifB_of (fun _ => ?_) (fun _ => ?_) | refine pre_of ?_ (fun _ => ?_))
    all_goals first
      | rfl
      | (simp only [W, turnH, *, cond_true, cond_false, Bool.true_and, Bool.false_and, Bool.and_true, Bool.and_false, Bool.not_true, Bool.not_false, and_self, true_and]; done)
      | (simp_all [W, turnH]; done)
      | (simp_all [W, turnH] <;> omega))

noncomputable def touchF (a : Shape) (p : Vec) (b : Shape) (q : Vec) : Hit × Bool :=
  bif a.Kind == 1 && b.Kind == 1 then roundsF (minus q p) (W (a.Wide + b.Wide))
  else bif a.Kind == 2 && b.Kind == 2 then boxesF (bounds a p) (bounds b q)
  else bif a.Kind == 2 then mixedF (bounds a p) q b.Wide
  else bif (mixedF (bounds b q) p a.Wide).2 then (turnH (mixedF (bounds b q) p a.Wide).1, true) else (⟨⟨0, 0⟩, 0⟩, false)
theorem shapeOk_le {s : Shape} (h : shapeOk s = true) : 1 ≤ s.Wide ∧ s.Wide ≤ 25600 ∧ (s.Kind = 1 ∨ s.Kind = 2) ∧ (s.Kind = 2 → 1 ≤ s.High ∧ s.High ≤ 25600) := by
  unfold shapeOk at h
  split at h
  · rename_i k
    simp only [isIn, Bool.and_eq_true, decide_eq_true_eq] at h
    exact ⟨h.1.1, h.1.2, .inl k, fun e => by omega⟩
  · split at h
    · rename_i k
      simp only [isIn, Bool.and_eq_true, decide_eq_true_eq] at h
      exact ⟨h.1.1, h.1.2, .inr k, fun _ => h.2⟩
    · cases h
theorem placeOk_le {p : Vec} (h : placeOk p = true) : -2560000 ≤ p.X ∧ p.X ≤ 2560000 ∧ -2560000 ≤ p.Y ∧ p.Y ≤ 2560000 := by
  simp only [placeOk, isIn, Bool.and_eq_true, decide_eq_true_eq] at h
  omega
/-- How high a shape is on each side of its middle. -/
def highOf (s : Shape) : Int := bif s.Kind == 1 then s.Wide else s.High
theorem bounds_eq {s : Shape} {p : Vec} (h : shapeOk s = true) (hp : placeOk p = true) : bounds s p = ⟨⟨p.X - s.Wide, p.Y - highOf s⟩, ⟨p.X + s.Wide, p.Y + highOf s⟩⟩ ∧ 1 ≤ highOf s ∧ highOf s ≤ 25600 := by
  obtain ⟨h1, h2, h3, h4⟩ := shapeOk_le h
  obtain ⟨p1, p2, p3, p4⟩ := placeOk_le hp
  unfold bounds highOf
  rcases h3 with k | k
  · simp only [k, beq_self_eq_true, cond_true]
    refine ⟨?_, by omega, by omega⟩
    rw [show W (p.X - s.Wide) = _ from wrap_small (by omega) (by omega), show W (p.Y - s.Wide) = _ from wrap_small (by omega) (by omega), show W (p.X + s.Wide) = _ from wrap_small (by omega) (by omega), show W (p.Y + s.Wide) = _ from wrap_small (by omega) (by omega)]
  · have h4 := h4 k
    have e : ((2 : Int) == 1) = false := rfl
    simp only [k, e, cond_false]
    refine ⟨?_, by omega, by omega⟩
    rw [show W (p.X - s.Wide) = _ from wrap_small (by omega) (by omega), show W (p.Y - s.High) = _ from wrap_small (by omega) (by omega), show W (p.X + s.Wide) = _ from wrap_small (by omega) (by omega), show W (p.Y + s.High) = _ from wrap_small (by omega) (by omega)]
theorem bounds_le {s : Shape} {p : Vec} (h : shapeOk s = true) (hp : placeOk p = true) : (bounds s p).Low.X ≤ (bounds s p).High.X ∧ (bounds s p).Low.Y ≤ (bounds s p).High.Y := by
  obtain ⟨e, h1, h2⟩ := bounds_eq h hp
  have := shapeOk_le h
  rw [e]
  simp only
  omega
noncomputable def fs_l5Touch : Fs := ⟨[], fun args H => match args, H with
  | [.agg [.int .i64 aK, .int .i64 aW, .int .i64 aH], .agg [.int .i64 pX, .int .i64 pY], .agg [.int .i64 bK, .int .i64 bW, .int .i64 bH], .agg [.int .i64 qX, .int .i64 qY]], [] => some ((some (shapeOk (Shape.mk aK aW aH) = true ∧ placeOk (Vec.mk pX pY) = true ∧ shapeOk (Shape.mk bK bW bH) = true ∧ placeOk (Vec.mk qX qY) = true)), .tup [.agg [.int .i64 ((touchF (Shape.mk aK aW aH) (Vec.mk pX pY) (Shape.mk bK bW bH) (Vec.mk qX qY)).1).Way.X, .int .i64 ((touchF (Shape.mk aK aW aH) (Vec.mk pX pY) (Shape.mk bK bW bH) (Vec.mk qX qY)).1).Way.Y, .int .i64 ((touchF (Shape.mk aK aW aH) (Vec.mk pX pY) (Shape.mk bK bW bH) (Vec.mk qX qY)).1).Deep], .bool ((touchF (Shape.mk aK aW aH) (Vec.mk pX pY) (Shape.mk bK bW bH) (Vec.mk qX qY)).2)], [])
  | _, _ => none⟩

theorem vc_l5Touch (aK : Int) (aW : Int) (aH : Int) (pX : Int) (pY : Int) (bK : Int) (bW : Int) (bH : Int) (qX : Int) (qY : Int) (Q : SV → List Ent → Prop) :
    fnVC tt (look [(62, fs_l5Rounds), (63, fs_l5Boxes), (64, fs_l3Bounds), (65, fs_l5Mixed), (66, fs_l5Turn)]) L0 Try.f53 [.agg [.int .i64 aK, .int .i64 aW, .int .i64 aH], .agg [.int .i64 pX, .int .i64 pY], .agg [.int .i64 bK, .int .i64 bW, .int .i64 bH], .agg [.int .i64 qX, .int .i64 qY]] [] Q =
    (let s_ := SV.int IntKind.i64; let A5_ := (roundsF (minus (Vec.mk qX qY) (Vec.mk pX pY)) (IntKind.wrap IntKind.i64 (aW + bW))); let A2_ := (bounds (Shape.mk bK bW bH) (Vec.mk qX qY)); let A3_ := (turnH (Prod.fst (mixedF A2_ (Vec.mk pX pY) aW))); let A1_ := (bounds (Shape.mk aK aW aH) (Vec.mk pX pY)); let A4_ := (Prod.fst (mixedF A1_ (Vec.mk qX qY) bW)); ifB (aK == (1 : Int)) (ifB (bK == (1 : Int)) (Q (SV.tup [SV.agg [s_ (Vec.X (Hit.Way (Prod.fst A5_))), s_ (Vec.Y (Hit.Way (Prod.fst A5_))), s_ (Hit.Deep (Prod.fst A5_))], SV.bool (Prod.snd A5_)]) []) (ifB (aK == (2 : Int)) (ifB (bK == (2 : Int)) (Q (SV.tup [SV.agg [s_ (Vec.X (Hit.Way (Prod.fst (boxesF A1_ A2_)))), s_ (Vec.Y (Hit.Way (Prod.fst (boxesF A1_ A2_)))), s_ (Hit.Deep (Prod.fst (boxesF A1_ A2_)))], SV.bool (Prod.snd (boxesF A1_ A2_))]) []) (ifB (aK == (2 : Int)) ((Vec.X (Box.Low A1_) ≤ Vec.X (Box.High A1_) ∧ Vec.Y (Box.Low A1_) ≤ Vec.Y (Box.High A1_)) ∧ Q (SV.tup [SV.agg [s_ (Vec.X (Hit.Way A4_)), s_ (Vec.Y (Hit.Way A4_)), s_ (Hit.Deep A4_)], SV.bool (Prod.snd (mixedF A1_ (Vec.mk qX qY) bW))]) []) ((Vec.X (Box.Low A2_) ≤ Vec.X (Box.High A2_) ∧ Vec.Y (Box.Low A2_) ≤ Vec.Y (Box.High A2_)) ∧ ifB (!Prod.snd (mixedF A2_ (Vec.mk pX pY) aW)) (Q (SV.tup [SV.agg [s_ (0 : Int), s_ (0 : Int), s_ (0 : Int)], SV.bool false]) []) (Q (SV.tup [SV.agg [s_ (Vec.X (Hit.Way A3_)), s_ (Vec.Y (Hit.Way A3_)), s_ (Hit.Deep A3_)], SV.bool true]) [])))) (ifB (aK == (2 : Int)) ((Vec.X (Box.Low A1_) ≤ Vec.X (Box.High A1_) ∧ Vec.Y (Box.Low A1_) ≤ Vec.Y (Box.High A1_)) ∧ Q (SV.tup [SV.agg [s_ (Vec.X (Hit.Way A4_)), s_ (Vec.Y (Hit.Way A4_)), s_ (Hit.Deep A4_)], SV.bool (Prod.snd (mixedF A1_ (Vec.mk qX qY) bW))]) []) ((Vec.X (Box.Low A2_) ≤ Vec.X (Box.High A2_) ∧ Vec.Y (Box.Low A2_) ≤ Vec.Y (Box.High A2_)) ∧ ifB (!Prod.snd (mixedF A2_ (Vec.mk pX pY) aW)) (Q (SV.tup [SV.agg [s_ (0 : Int), s_ (0 : Int), s_ (0 : Int)], SV.bool false]) []) (Q (SV.tup [SV.agg [s_ (Vec.X (Hit.Way A3_)), s_ (Vec.Y (Hit.Way A3_)), s_ (Hit.Deep A3_)], SV.bool true]) []))))) (ifB (aK == (2 : Int)) (ifB (bK == (2 : Int)) (Q (SV.tup [SV.agg [s_ (Vec.X (Hit.Way (Prod.fst (boxesF A1_ A2_)))), s_ (Vec.Y (Hit.Way (Prod.fst (boxesF A1_ A2_)))), s_ (Hit.Deep (Prod.fst (boxesF A1_ A2_)))], SV.bool (Prod.snd (boxesF A1_ A2_))]) []) (ifB (aK == (2 : Int)) ((Vec.X (Box.Low A1_) ≤ Vec.X (Box.High A1_) ∧ Vec.Y (Box.Low A1_) ≤ Vec.Y (Box.High A1_)) ∧ Q (SV.tup [SV.agg [s_ (Vec.X (Hit.Way A4_)), s_ (Vec.Y (Hit.Way A4_)), s_ (Hit.Deep A4_)], SV.bool (Prod.snd (mixedF A1_ (Vec.mk qX qY) bW))]) []) ((Vec.X (Box.Low A2_) ≤ Vec.X (Box.High A2_) ∧ Vec.Y (Box.Low A2_) ≤ Vec.Y (Box.High A2_)) ∧ ifB (!Prod.snd (mixedF A2_ (Vec.mk pX pY) aW)) (Q (SV.tup [SV.agg [s_ (0 : Int), s_ (0 : Int), s_ (0 : Int)], SV.bool false]) []) (Q (SV.tup [SV.agg [s_ (Vec.X (Hit.Way A3_)), s_ (Vec.Y (Hit.Way A3_)), s_ (Hit.Deep A3_)], SV.bool true]) [])))) (ifB (aK == (2 : Int)) ((Vec.X (Box.Low A1_) ≤ Vec.X (Box.High A1_) ∧ Vec.Y (Box.Low A1_) ≤ Vec.Y (Box.High A1_)) ∧ Q (SV.tup [SV.agg [s_ (Vec.X (Hit.Way A4_)), s_ (Vec.Y (Hit.Way A4_)), s_ (Hit.Deep A4_)], SV.bool (Prod.snd (mixedF A1_ (Vec.mk qX qY) bW))]) []) ((Vec.X (Box.Low A2_) ≤ Vec.X (Box.High A2_) ∧ Vec.Y (Box.Low A2_) ≤ Vec.Y (Box.High A2_)) ∧ ifB (!Prod.snd (mixedF A2_ (Vec.mk pX pY) aW)) (Q (SV.tup [SV.agg [s_ (0 : Int), s_ (0 : Int), s_ (0 : Int)], SV.bool false]) []) (Q (SV.tup [SV.agg [s_ (Vec.X (Hit.Way A3_)), s_ (Vec.Y (Hit.Way A3_)), s_ (Hit.Deep A3_)], SV.bool true]) []))))) := by kernel_rfl

theorem ok_l5Touch : FsOk Try.prog 53 fs_l5Touch := fsOk_of tt_ok (tabFs_cons ok_l5Rounds (tabFs_cons ok_l5Boxes (tabFs_cons ok_l3Bounds (tabFs_cons ok_l5Mixed (tabFs_cons ok_l5Turn tabFs_nil))))) mixed Try.func53 (by kernel_rfl) (by kernel_rfl) (by
    intro args LL p r HH h hp
    unfold fs_l5Touch at h
    dsimp only at h
    split at h
    case h_2 => cases h
    rename_i aK aW aH pX pY bK bW bH qX qY
    simp only [Option.some.injEq, Prod.mk.injEq] at h
    obtain ⟨rfl, rfl, rfl⟩ := h
    refine ⟨by simp [Form, stays], L0, ?_⟩
    rw [vc_l5Touch]
    try dsimp only
    obtain ⟨ha, hp', hb, hq⟩ := hp _ rfl
    have la := bounds_le ha hp'
    have lb := bounds_le hb hq
    unfold touchF
    repeat' (first | refine ifB_of (fun c => ?_) (fun c => ?_) | refine pre_of (by first | exact la | exact lb) (fun _ => ?_) | fail)
    all_goals
      clear la lb ha hb hq hp'
      simp only [Bool.not_eq_true', Bool.not_eq_false'] at *
      first
        | (simp only [*, cond_true, cond_false, Bool.true_and, Bool.false_and, Bool.and_true, Bool.and_false, and_self, true_and]; done)
        | (exfalso; simp_all; done)
        | (exfalso; simp_all; omega))

noncomputable def touchAll (a : Shape) (p : Vec) (b : Shape) (q : Vec) : Hit × Bool :=
  bif shapeOk a && shapeOk b && placeOk p && placeOk q then touchF a p b q else (⟨⟨0, 0⟩, 0⟩, false)
noncomputable def fs_specTouch : Fs := ⟨[], fun args H => match args, H with
  | [.agg [.int .i64 aK, .int .i64 aW, .int .i64 aH], .agg [.int .i64 pX, .int .i64 pY], .agg [.int .i64 bK, .int .i64 bW, .int .i64 bH], .agg [.int .i64 qX, .int .i64 qY]], [] => some (none, .tup [.agg [.int .i64 ((touchAll (Shape.mk aK aW aH) (Vec.mk pX pY) (Shape.mk bK bW bH) (Vec.mk qX qY)).1).Way.X, .int .i64 ((touchAll (Shape.mk aK aW aH) (Vec.mk pX pY) (Shape.mk bK bW bH) (Vec.mk qX qY)).1).Way.Y, .int .i64 ((touchAll (Shape.mk aK aW aH) (Vec.mk pX pY) (Shape.mk bK bW bH) (Vec.mk qX qY)).1).Deep], .bool ((touchAll (Shape.mk aK aW aH) (Vec.mk pX pY) (Shape.mk bK bW bH) (Vec.mk qX qY)).2)], [])
  | _, _ => none⟩

theorem vc_specTouch (aK : Int) (aW : Int) (aH : Int) (pX : Int) (pY : Int) (bK : Int) (bW : Int) (bH : Int) (qX : Int) (qY : Int) (Q : SV → List Ent → Prop) :
    fnVC tt (look [(20, fs_specShapeOk), (21, fs_l3Place), (53, fs_l5Touch)]) L0 Try.f27 [.agg [.int .i64 aK, .int .i64 aW, .int .i64 aH], .agg [.int .i64 pX, .int .i64 pY], .agg [.int .i64 bK, .int .i64 bW, .int .i64 bH], .agg [.int .i64 qX, .int .i64 qY]] [] Q =
    (ifB (!shapeOk (Shape.mk aK aW aH)) (Q (SV.tup [SV.agg [SV.int IntKind.i64 (0 : Int), SV.int IntKind.i64 (0 : Int), SV.int IntKind.i64 (0 : Int)], SV.bool false]) []) (ifB (!shapeOk (Shape.mk bK bW bH)) (Q (SV.tup [SV.agg [SV.int IntKind.i64 (0 : Int), SV.int IntKind.i64 (0 : Int), SV.int IntKind.i64 (0 : Int)], SV.bool false]) []) (ifB (!placeOk (Vec.mk pX pY)) (Q (SV.tup [SV.agg [SV.int IntKind.i64 (0 : Int), SV.int IntKind.i64 (0 : Int), SV.int IntKind.i64 (0 : Int)], SV.bool false]) []) (ifB (!placeOk (Vec.mk qX qY)) (Q (SV.tup [SV.agg [SV.int IntKind.i64 (0 : Int), SV.int IntKind.i64 (0 : Int), SV.int IntKind.i64 (0 : Int)], SV.bool false]) []) ((shapeOk (Shape.mk aK aW aH) = true ∧ placeOk (Vec.mk pX pY) = true ∧ shapeOk (Shape.mk bK bW bH) = true ∧ placeOk (Vec.mk qX qY) = true) ∧ Q (SV.tup [SV.agg [SV.int IntKind.i64 (Vec.X (Hit.Way (Prod.fst (touchF (Shape.mk aK aW aH) (Vec.mk pX pY) (Shape.mk bK bW bH) (Vec.mk qX qY))))), SV.int IntKind.i64 (Vec.Y (Hit.Way (Prod.fst (touchF (Shape.mk aK aW aH) (Vec.mk pX pY) (Shape.mk bK bW bH) (Vec.mk qX qY))))), SV.int IntKind.i64 (Hit.Deep (Prod.fst (touchF (Shape.mk aK aW aH) (Vec.mk pX pY) (Shape.mk bK bW bH) (Vec.mk qX qY))))], SV.bool (Prod.snd (touchF (Shape.mk aK aW aH) (Vec.mk pX pY) (Shape.mk bK bW bH) (Vec.mk qX qY)))]) []))))) := by kernel_rfl

theorem ok_specTouch : FsOk Try.prog 27 fs_specTouch := fsOk_of tt_ok (tabFs_cons ok_specShapeOk (tabFs_cons ok_l3Place (tabFs_cons ok_l5Touch tabFs_nil))) mixed Try.func27 (by kernel_rfl) (by kernel_rfl) (by
    intro args LL p r HH h hp
    unfold fs_specTouch at h
    dsimp only at h
    split at h
    case h_2 => cases h
    rename_i aK aW aH pX pY bK bW bH qX qY
    simp only [Option.some.injEq, Prod.mk.injEq] at h
    obtain ⟨rfl, rfl, rfl⟩ := h
    refine ⟨by simp [Form, stays], L0, ?_⟩
    rw [vc_specTouch]
    try dsimp only
    refine ifB_of (fun c => ?_) (fun c => ifB_of (fun c2 => ?_) (fun c2 => ifB_of (fun c3 => ?_) (fun c3 => ifB_of (fun c4 => ?_) (fun c4 => ⟨⟨not_false c, not_false c3, not_false c2, not_false c4⟩, ?_⟩))))
    · simp [touchAll, not_true c]
    · simp [touchAll, not_true c2]
    · simp [touchAll, not_true c3]
    · simp [touchAll, not_true c4]
    · simp only [touchAll, not_false c, not_false c2, not_false c3, not_false c4, Bool.and_self, cond_true]
      exact ⟨(by trivial), (by trivial)⟩)


/-! ### Ways are whole numbers of the machine -/
def inR (n : Int) : Prop := -9223372036854775808 ≤ n ∧ n ≤ 9223372036854775807
def wayR (v : Vec) : Prop := inR v.X ∧ inR v.Y
theorem W_R (n : Int) : inR (W n) := by
  simp only [inR, W, IntKind.wrap_i64]
  omega
theorem zero_R : wayR ⟨0, 0⟩ := by simp [wayR, inR]
theorem vecUnit_R (v : Vec) : wayR (vecUnit v) := by
  unfold vecUnit
  split
  · simp [wayR, inR]
  · exact ⟨W_R _, W_R _⟩
theorem rounds_R (d : Vec) (m : Int) : wayR (roundsF d m).1.Way := by
  unfold roundsF
  split
  · exact zero_R
  · exact vecUnit_R _
theorem less2_R {a b : Hit} (ha : wayR a.Way) (hb : wayR b.Way) : wayR (less2 a b).Way := by
  unfold less2
  cases decide (b.Deep < a.Deep) with
  | true => exact hb
  | false => exact ha
theorem boxes_R (a b : Box) : wayR (boxesF a b).1.Way := by
  unfold boxesF
  cases boxMeets a b with
  | true => exact less2_R (less2_R (less2_R (by simp [wayR, inR]) (by simp [wayR, inR])) (by simp [wayR, inR])) (by simp [wayR, inR])
  | false => exact zero_R
theorem mixed_R (b : Box) (p : Vec) (w : Int) : wayR (mixedF b p w).1.Way := by
  unfold mixedF
  cases hasPoint b p with
  | true => exact boxes_R _ _
  | false => exact rounds_R _ _
theorem touch_R (a : Shape) (p : Vec) (b : Shape) (q : Vec) : wayR (touchAll a p b q).1.Way := by
  unfold touchAll
  cases shapeOk a && shapeOk b && placeOk p && placeOk q with
  | false => exact zero_R
  | true =>
    simp only [cond_true]
    unfold touchF
    cases a.Kind == 1 && b.Kind == 1 with
    | true => exact rounds_R _ _
    | false =>
      simp only [cond_false]
      cases a.Kind == 2 && b.Kind == 2 with
      | true => exact boxes_R _ _
      | false =>
        simp only [cond_false]
        cases a.Kind == 2 with
        | true => exact mixed_R _ _ _
        | false =>
          simp only [cond_false]
          cases (mixedF (bounds b q) p a.Wide).2 with
          | true => exact ⟨W_R _, W_R _⟩
          | false => exact zero_R
end Go.Proofs.Ytmflfpedmbfhkaa.Sym
