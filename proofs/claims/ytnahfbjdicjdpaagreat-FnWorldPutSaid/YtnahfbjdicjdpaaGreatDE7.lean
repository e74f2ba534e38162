/-
  What the rows of this claim stand on, part 7: the machine, the walks, the plain laws, as far as they are used.
  No condition.
-/
import Derived.Test.YtnahfbjdicjdpaaGreatDE6
namespace Go.Proofs.YtnahfbjdicjdpaaGreat.Sym
open Go
set_option linter.unusedVariables false
set_option linter.unusedSimpArgs false
set_option maxRecDepth 100000
noncomputable section

theorem quiet_ok2 {xs : List Body} (h : bodiesOk xs = true) {k : Nat} (hk : k < xs.length) : decide ((Ty.ix .body xs k).Quiet ≥ 8) = ((Ty.ix .body xs k).Quiet == 8) := by
  have := (bok_iff.1 (bodiesOk_each h hk)).2.2.2.2.2.2.2.1
  rw [Bool.eq_iff_iff]
  simp only [decide_eq_true_eq, beq_iff_eq]
  omega
theorem moves_ok2 {xs : List Body} (h : bodiesOk xs = true) {k : Nat} (hk : k < xs.length) : moves (Ty.ix .body xs k) = (decide ((Ty.ix .body xs k).Mass > 0) && !decide ((Ty.ix .body xs k).Quiet ≥ 8)) := moves_iff (bodiesOk_each h hk)
theorem wakeS_stay {xs : List Body} {gs : List Int} {ws : List Bool} {k : Nat} (h : ((Ty.ix .body xs k).Quiet == 8 && Ty.ix .bool ws (gi gs k).toNat) = false) : wakeS gs ws k (Ty.ix .body xs k) = Ty.ix .body xs k := by
  unfold wakeS
  rw [h]
  rfl
def LSl9w  : LS where
  S := List Body × List Int × List Bool × Unit × Unit × List Body × Int
  live := [(1, [none]), (2, [none]), (7, [some .body]), (8, [none])]
  shape := fun s => ([.vec 1, .vec 2, .vec 3, .int .i64 s.2.2.2.2.2.2], [(false, .vec .body s.1), (false, .vec .int s.2.1), (false, .vec .bool s.2.2.1), (true, .vec .body s.2.2.2.2.2.1)])
  get := fun v h => match v, h with
    | [.vec 1, .vec 2, .vec 3, .int .i64 i], [(false, .vec .body xs), (false, .vec .int gs), (false, .vec .bool ws), (true, .vec .body ys)] => some (xs, gs, ws, (), (), ys, i)
    | _, _ => none
  inv := fun s0 s => Holds (s.1 = s0.1 ∧ s.2.1 = s0.2.1 ∧ s.2.2.1 = s0.2.2.1 ∧ 0 ≤ s.2.2.2.2.2.2 ∧ s.2.2.2.2.2.2 ≤ s0.1.length ∧ s.2.2.2.2.2.1 = fill (fun e => wakeS s0.2.1 s0.2.2.1 e (Ty.ix .body s0.1 e)) s0.1 s.2.2.2.2.2.2.toNat)
  mu := fun s => ((s.1.length : Int) - s.2.2.2.2.2.2).toNat
  ok := by
    intro v h s hg
    try dsimp only at hg
    split at hg <;> cases hg
    rfl

def L_l9w : Loops := fun n => match n with
  | 3 => some LSl9w
  | _ => none
noncomputable def fs_l9Wake : Fs := ⟨[], fun args H => match args, H with
  | [.vec 0, .vec 1, .vec 2], [(false, .vec .body xs), (false, .vec .int gs), (false, .vec .bool ws)] => some ((some (bodiesOk xs = true ∧ gs = groupsX xs ∧ ws = awkF xs xs.length)), .vec 3, [(false, .vec .body xs), (false, .vec .int gs), (false, .vec .bool ws), (true, .vec .body (wokenF xs))])
  | _, _ => none⟩

theorem vc_l9Wake (xs : List Body) (gs : List Int) (ws : List Bool) (Q : SV → List Ent → Prop) :
    fnVC tt (look [(67, fs_specCopyB), (71, fs_l6Sleeps)]) (L_l9w) Tryz.f99 [.vec 0, .vec 1, .vec 2] [(false, .vec .body xs), (false, .vec .int gs), (false, .vec .bool ws)] Q =
    (let w_ := IntKind.wrap IntKind.i64; let n_ := Int.toNat; let ib_ := Ty.ix Ty.body; List.length xs ≤ (1048576 : Nat) ∧ Holds (xs = xs ∧ gs = gs ∧ ws = ws ∧ (0 : Int) ≤ (0 : Int) ∧ (0 : Int) ≤ (↑(List.length xs) : Int) ∧ xs = fill (fun e => wakeS gs ws e (ib_ xs e)) xs (n_ (0 : Int))) ∧ ∀ (y1 : List Body × List Int × List Bool × Unit × Unit × List Body × Int), let y1f0_ := Prod.fst y1; let y1s1_ := Prod.snd y1; let y1f1_ := Prod.fst (Prod.snd y1); let y1f2_ := Prod.fst (Prod.snd (Prod.snd y1)); let y1s5_ := Prod.snd (Prod.snd (Prod.snd (Prod.snd (Prod.snd y1)))); let y1f5_ := Prod.fst (Prod.snd (Prod.snd (Prod.snd (Prod.snd (Prod.snd y1))))); let y1s6_ := Prod.snd (Prod.snd (Prod.snd (Prod.snd (Prod.snd (Prod.snd y1))))); let A5_ := ((↑(List.length y1f0_) : Int) - y1s6_); let A2_ := (Prod.snd y1s5_ + (1 : Int)); let A4_ := (n_ (w_ A2_)); let A3_ := ((↑(List.length y1f0_) : Int) - w_ A2_); Holds (Prod.fst y1 = xs ∧ y1f1_ = gs ∧ y1f2_ = ws ∧ (0 : Int) ≤ y1s6_ ∧ y1s6_ ≤ (↑(List.length xs) : Int) ∧ y1f5_ = fill (fun e => wakeS gs ws e (ib_ xs e)) xs (n_ y1s6_)) → ifB (decide (Prod.snd y1s5_ < (↑(List.length y1f5_) : Int))) (((0 : Int) ≤ y1s6_ ∧ y1s6_ < (↑(List.length y1f1_) : Int)) ∧ ifB (decide (Ty.ix Ty.int y1f1_ (n_ y1s6_) ≥ (0 : Int))) (((0 : Int) ≤ y1s6_ ∧ y1s6_ < (↑(List.length y1f1_) : Int)) ∧ ((0 : Int) ≤ Ty.ix Ty.int y1f1_ (n_ y1s6_) ∧ Ty.ix Ty.int y1f1_ (n_ y1s6_) < (↑(List.length y1f2_) : Int)) ∧ ifB (Ty.ix Ty.bool y1f2_ (n_ (Ty.ix Ty.int y1f1_ (n_ y1s6_)))) (((0 : Int) ≤ y1s6_ ∧ y1s6_ < (↑(List.length y1f5_) : Int)) ∧ ifB (decide (Body.Quiet (ib_ y1f5_ (n_ y1s6_)) ≥ (8 : Int))) (((0 : Int) ≤ y1s6_ ∧ y1s6_ < (↑(List.length y1f5_) : Int)) ∧ Holds (Prod.fst y1 = xs ∧ y1f1_ = gs ∧ y1f2_ = ws ∧ (0 : Int) ≤ w_ A2_ ∧ w_ A2_ ≤ (↑(List.length xs) : Int) ∧ setC Ty.body y1f5_ (n_ y1s6_) ((0 : Nat) + (11 : Nat)) [SV.int IntKind.i64 (0 : Int)] = fill (fun e => wakeS gs ws e (ib_ xs e)) xs A4_) ∧ n_ A3_ < n_ A5_) (Holds (Prod.fst y1 = xs ∧ y1f1_ = gs ∧ y1f2_ = ws ∧ (0 : Int) ≤ w_ A2_ ∧ w_ A2_ ≤ (↑(List.length xs) : Int) ∧ y1f5_ = fill (fun e => wakeS gs ws e (ib_ xs e)) xs A4_) ∧ n_ A3_ < n_ A5_)) (Holds (Prod.fst y1 = xs ∧ y1f1_ = gs ∧ y1f2_ = ws ∧ (0 : Int) ≤ w_ A2_ ∧ w_ A2_ ≤ (↑(List.length xs) : Int) ∧ y1f5_ = fill (fun e => wakeS gs ws e (ib_ xs e)) xs A4_) ∧ n_ A3_ < n_ A5_)) (Holds (Prod.fst y1 = xs ∧ y1f1_ = gs ∧ y1f2_ = ws ∧ (0 : Int) ≤ w_ A2_ ∧ w_ A2_ ≤ (↑(List.length xs) : Int) ∧ y1f5_ = fill (fun e => wakeS gs ws e (ib_ xs e)) xs A4_) ∧ n_ A3_ < n_ A5_)) (Q (SV.vec (3 : Nat)) [(false, Blk.vec Ty.body y1f0_), (false, Blk.vec Ty.int y1f1_), (false, Blk.vec Ty.bool y1f2_), (true, Blk.vec Ty.body y1f5_)])) := by kernel_rfl

theorem ok_l9Wake : FsOk Tryz.prog 99 fs_l9Wake := fsOk_of tt_ok (tabFs_cons ok_specCopyB (tabFs_cons ok_l6Sleeps tabFs_nil)) mixed Tryz.func99 (by kernel_rfl) (by kernel_rfl) (by
    intro args LL p r HH h hp
    unfold fs_l9Wake at h
    dsimp only at h
    split at h
    case h_2 => cases h
    rename_i xs gs ws
    simp only [Option.some.injEq, Prod.mk.injEq] at h
    obtain ⟨rfl, rfl, rfl⟩ := h
    refine ⟨by simp [Form, stays], (L_l9w), ?_⟩
    rw [vc_l9Wake]
    try dsimp only
    obtain ⟨hok, hG, hW⟩ := hp _ rfl
    have hl := bodiesOk_len hok
    have hgl : (groupsX xs).length = xs.length := by simp only [groupsX, length_gen]
    have hwl := length_awkF xs xs.length
    refine ⟨by omega, ⟨(by trivial), (by trivial), (by trivial), by omega, by omega, (fill_zero _ _).symm⟩, ?_⟩
    rintro ⟨xs', gs', ws', u, v, ys, i⟩ ⟨h⟩
    dsimp only at h ⊢
    obtain ⟨rfl, rfl, rfl, i0, i1, h5⟩ := h
    subst hG hW
    have hyl : ys.length = xs'.length := by rw [h5]; exact length_fill _ _ (by omega)
    refine ifB_of (fun c => ?_) (fun c => ?_)
    · have c := of_decide_eq_true c
      have hi : i.toNat < xs'.length := by omega
      have e1 : (i + 1).toNat = i.toNat + 1 := by omega
      have w : IntKind.i64.wrap (i + 1) = i + 1 := wrap_small (by omega) (by omega)
      have hf := (fill_ix h5 hi).2
      have hq := quiet_ok2 hok hi
      have hgi : Ty.ix .int (groupsX xs') i.toNat = gOf xs' xs'.length i.toNat := ix_gen (T := .int) hi
      rw [w, e1, hf, hq]
      have stay : ((Ty.ix .body xs' i.toNat).Quiet == 8 && Ty.ix .bool (awkF xs' xs'.length) (gi (groupsX xs') i.toNat).toNat) = false → ys = fill (fun e => wakeS (groupsX xs') (awkF xs' xs'.length) e (Ty.ix .body xs' e)) xs' (i.toNat + 1) := fun z => fill_stay h5 hi (wakeS_stay z)
      refine ⟨⟨i0, by omega⟩, ifB_of (fun d => ⟨⟨i0, by omega⟩, ⟨of_decide_eq_true d, ?_⟩, ifB_of (fun d2 => ⟨⟨i0, c⟩, ifB_of (fun d3 => ⟨⟨i0, c⟩, ⟨(by trivial), (by trivial), (by trivial), by omega, by omega, ?_⟩, by omega⟩) (fun d3 => ⟨⟨(by trivial), (by trivial), (by trivial), by omega, by omega, stay ?_⟩, by omega⟩)⟩) (fun d2 => ⟨⟨(by trivial), (by trivial), (by trivial), by omega, by omega, stay ?_⟩, by omega⟩)⟩) (fun d => ⟨⟨(by trivial), (by trivial), (by trivial), by omega, by omega, stay ?_⟩, by omega⟩)⟩
      · have f := group_free hi (show 0 ≤ gi (groupsX xs') i.toNat from of_decide_eq_true d)
        rw [hgi, gOf_all hi, f]
        have h1 := num_in f
        have h2 := Grp.num_mono (freeB xs') (cmX xs') (show i.toNat + 1 ≤ xs'.length from hi)
        have h3 : numX xs' (cmX xs' i.toNat) < (awkF xs' xs'.length).length := by rw [hwl]; exact Nat.lt_of_lt_of_le h1 h2
        exact Int.ofNat_lt.2 h3
      · have d2 : Ty.ix .bool (awkF xs' xs'.length) (gi (groupsX xs') i.toNat).toNat = true := d2
        rw [setC_quiet, hf]
        refine fill_go h5 hi ?_
        unfold wakeS
        rw [d3, d2]
        rfl
      · rw [d3, Bool.false_and]
      · have d2 : Ty.ix .bool (awkF xs' xs'.length) (gi (groupsX xs') i.toNat).toNat = false := d2
        rw [d2, Bool.and_false]
      · have d : ¬ Ty.ix .int (groupsX xs') i.toNat ≥ 0 := of_decide_eq_false d
        cases q : (Ty.ix .body xs' i.toNat).Quiet == 8 with
        | false => rw [Bool.false_and]
        | true =>
          have f := groups_in hok hi q
          rw [hgi, gOf_all hi, f] at d
          exact absurd (Int.natCast_nonneg _) d
    · have c := of_decide_eq_false c
      rw [fill_map (f := wakeS (groupsX xs') (awkF xs' xs'.length)) h5 (by omega)]
      exact ⟨(by trivial), (by trivial)⟩)

def LSl9pl  : LS where
  S := List Body × Int × List Body × Int
  live := [(1, [none]), (5, [some .body]), (6, [none])]
  shape := fun s => ([.int .i64 s.2.1, .vec 1, .int .i64 s.2.2.2], [(false, .vec .body s.1), (true, .vec .body s.2.2.1)])
  get := fun v h => match v, h with
    | [.int .i64 pull, .vec 1, .int .i64 i], [(false, .vec .body xs), (true, .vec .body ys)] => some (xs, pull, ys, i)
    | _, _ => none
  inv := fun s0 s => Holds (s.1 = s0.1 ∧ s.2.1 = s0.2.1 ∧ 0 ≤ s.2.2.2 ∧ s.2.2.2 ≤ s0.1.length ∧ s.2.2.1 = fill (fun e => pullS s0.2.1 e (Ty.ix .body s0.1 e)) s0.1 s.2.2.2.toNat)
  mu := fun s => ((s.1.length : Int) - s.2.2.2).toNat
  ok := by
    intro v h s hg
    try dsimp only at hg
    split at hg <;> cases hg
    rfl

def L_l9pl : Loops := fun n => match n with
  | 3 => some LSl9pl
  | _ => none
noncomputable def fs_l9Pull : Fs := ⟨[], fun args H => match args, H with
  | [.vec 0, .int .i64 pull], [(false, .vec .body xs)] => some ((some (bodiesOk xs = true ∧ 0 ≤ pull ∧ pull ≤ 2560)), .vec 1, [(false, .vec .body xs), (true, .vec .body (mapX (pullS pull) xs))])
  | _, _ => none⟩

theorem vc_l9Pull (xs : List Body) (pull : Int) (Q : SV → List Ent → Prop) :
    fnVC tt (look [(67, fs_specCopyB), (71, fs_l6Sleeps), (127, fs_specWithin)]) (L_l9pl) Tryz.f102 [.vec 0, .int .i64 pull] [(false, .vec .body xs)] Q =
    (let w_ := IntKind.wrap IntKind.i64; let n_ := Int.toNat; let ib_ := Ty.ix Ty.body; List.length xs ≤ (1048576 : Nat) ∧ Holds (xs = xs ∧ pull = pull ∧ (0 : Int) ≤ (0 : Int) ∧ (0 : Int) ≤ (↑(List.length xs) : Int) ∧ xs = fill (fun e => pullS pull e (ib_ xs e)) xs (n_ (0 : Int))) ∧ ∀ (y1 : List Body × Int × List Body × Int), let y1f0_ := Prod.fst y1; let y1s1_ := Prod.snd y1; let y1f1_ := Prod.fst (Prod.snd y1); let y1s2_ := Prod.snd (Prod.snd y1); let y1f2_ := Prod.fst (Prod.snd (Prod.snd y1)); let y1s3_ := Prod.snd (Prod.snd (Prod.snd y1)); let A4_ := (↑(List.length y1f0_) : Int); let A3_ := (Prod.snd y1s2_ + (1 : Int)); let A2_ := (ib_ y1f2_ (n_ y1s3_)); Holds (Prod.fst y1 = xs ∧ y1f1_ = pull ∧ (0 : Int) ≤ y1s3_ ∧ y1s3_ ≤ (↑(List.length xs) : Int) ∧ y1f2_ = fill (fun e => pullS pull e (ib_ xs e)) xs (n_ y1s3_)) → ifB (decide (Prod.snd y1s2_ < (↑(List.length y1f2_) : Int))) (((0 : Int) ≤ y1s3_ ∧ y1s3_ < (↑(List.length y1f2_) : Int)) ∧ ifB (decide (Body.Mass A2_ > (0 : Int))) (ifB (!decide (Body.Quiet A2_ ≥ (8 : Int))) (((0 : Int) ≤ y1s3_ ∧ y1s3_ < (↑(List.length y1f2_) : Int)) ∧ Holds (Prod.fst y1 = xs ∧ y1f1_ = pull ∧ (0 : Int) ≤ w_ A3_ ∧ w_ A3_ ≤ (↑(List.length xs) : Int) ∧ List.set y1f2_ (n_ y1s3_) (Body.mk (Body.Id A2_) (Body.Shape A2_) (Body.At A2_) (Vec.mk (Vec.X (Body.Drive A2_)) (withinS (w_ (Vec.Y (Body.Drive A2_) - w_ (Prod.fst y1s1_ * Body.Mass A2_))) (20000000 : Int))) (Body.Mass A2_) (Body.Bounce A2_) (Body.Rub A2_) (Body.Quiet A2_)) = fill (fun e => pullS pull e (ib_ xs e)) xs (n_ (w_ A3_))) ∧ n_ (A4_ - w_ A3_) < n_ (A4_ - y1s3_)) (Holds (Prod.fst y1 = xs ∧ y1f1_ = pull ∧ (0 : Int) ≤ w_ A3_ ∧ w_ A3_ ≤ (↑(List.length xs) : Int) ∧ y1f2_ = fill (fun e => pullS pull e (ib_ xs e)) xs (n_ (w_ A3_))) ∧ n_ (A4_ - w_ A3_) < n_ (A4_ - y1s3_))) (Holds (Prod.fst y1 = xs ∧ y1f1_ = pull ∧ (0 : Int) ≤ w_ A3_ ∧ w_ A3_ ≤ (↑(List.length xs) : Int) ∧ y1f2_ = fill (fun e => pullS pull e (ib_ xs e)) xs (n_ (w_ A3_))) ∧ n_ (A4_ - w_ A3_) < n_ (A4_ - y1s3_))) (Q (SV.vec (1 : Nat)) [(false, Blk.vec Ty.body y1f0_), (true, Blk.vec Ty.body y1f2_)])) := by kernel_rfl

theorem ok_l9Pull : FsOk Tryz.prog 102 fs_l9Pull := fsOk_of tt_ok (tabFs_cons ok_specCopyB (tabFs_cons ok_l6Sleeps (tabFs_cons ok_specWithin tabFs_nil))) mixed Tryz.func102 (by kernel_rfl) (by kernel_rfl) (by
    intro args LL p r HH h hp
    unfold fs_l9Pull at h
    dsimp only at h
    split at h
    case h_2 => cases h
    rename_i pull xs
    simp only [Option.some.injEq, Prod.mk.injEq] at h
    obtain ⟨rfl, rfl, rfl⟩ := h
    refine ⟨by simp [Form, stays], (L_l9pl), ?_⟩
    rw [vc_l9Pull]
    try dsimp only
    obtain ⟨hok, p0, p1⟩ := hp _ rfl
    have hl := bodiesOk_len hok
    refine ⟨by omega, ⟨(by trivial), (by trivial), by omega, by omega, (fill_zero _ _).symm⟩, ?_⟩
    rintro ⟨xs', pl, ys, i⟩ ⟨h⟩
    dsimp only at h ⊢
    obtain ⟨rfl, rfl, i0, i1, h5⟩ := h
    have hyl : ys.length = xs'.length := by rw [h5]; exact length_fill _ _ (by omega)
    refine ifB_of (fun c => ?_) (fun c => ?_)
    · have c := of_decide_eq_true c
      have hi : i.toNat < xs'.length := by omega
      have e1 : (i + 1).toNat = i.toNat + 1 := by omega
      have w : IntKind.i64.wrap (i + 1) = i + 1 := wrap_small (by omega) (by omega)
      have hf := (fill_ix h5 hi).2
      have hb := bok_iff.1 (bodiesOk_each hok hi)
      have hmv := moves_ok2 hok hi
      rw [w, e1, hf]
      refine ⟨⟨i0, c⟩, ifB_of (fun d => ifB_of (fun d2 => ⟨⟨i0, c⟩, ⟨(by trivial), (by trivial), by omega, by omega, fill_go h5 hi ?_⟩, by omega⟩) (fun d2 => ⟨⟨(by trivial), (by trivial), by omega, by omega, fill_stay h5 hi ?_⟩, by omega⟩)) (fun d => ⟨⟨(by trivial), (by trivial), by omega, by omega, fill_stay h5 hi ?_⟩, by omega⟩)⟩
      · rw [d, d2] at hmv
        have hm := mul_le_mul0 p0 p1 hb.2.2.2.2.1.1 hb.2.2.2.2.1.2
        have hd := hb.2.2.2.1
        have e : withinS (W ((Ty.ix .body xs' i.toNat).Drive.Y - W (pl * (Ty.ix .body xs' i.toNat).Mass))) 20000000 = max (W ((Ty.ix .body xs' i.toNat).Drive.Y - W (pl * (Ty.ix .body xs' i.toNat).Mass))) (-20000000) := by
          rw [withinS_drive, withinI_drive, show W (pl * (Ty.ix .body xs' i.toNat).Mass) = pl * (Ty.ix .body xs' i.toNat).Mass from W_small (by omega) (by omega), W_small (by omega) (by omega)]
          unfold clampTo
          omega
        have e : withinS (IntKind.i64.wrap ((Ty.ix .body xs' i.toNat).Drive.Y - IntKind.i64.wrap (pl * (Ty.ix .body xs' i.toNat).Mass))) 20000000 = _ := e
        rw [e]
        unfold pullS
        rw [hmv]
        rfl
      · rw [d, d2] at hmv
        unfold pullS
        rw [hmv]
        rfl
      · rw [d] at hmv
        unfold pullS
        rw [hmv]
        rfl
    · have c := of_decide_eq_false c
      rw [fill_map (f := pullS pl) h5 (by omega)]
      exact ⟨(by trivial), (by trivial)⟩)

def LSl9lv  : LS where
  S := List Body × List Contact × Unit × Unit × List Contact × Int
  live := [(0, [none]), (1, [none]), (5, [some .contact]), (6, [none])]
  shape := fun s => ([.vec 0, .vec 1, .vec 2, .int .i64 s.2.2.2.2.2], [(false, .vec .body s.1), (false, .vec .contact s.2.1), (true, .vec .contact s.2.2.2.2.1)])
  get := fun v h => match v, h with
    | [.vec 0, .vec 1, .vec 2, .int .i64 i], [(false, .vec .body xs), (false, .vec .contact cs), (true, .vec .contact live)] => some (xs, cs, (), (), live, i)
    | _, _ => none
  inv := fun s0 s => Holds (s.1 = s0.1 ∧ s.2.1 = s0.2.1 ∧ 0 ≤ s.2.2.2.2.2 ∧ s.2.2.2.2.2 ≤ s0.2.1.length ∧ s.2.2.2.2.1 ++ liveF s0.1 (s0.2.1.drop s.2.2.2.2.2.toNat) = liveF s0.1 s0.2.1)
  mu := fun s => ((s.2.1.length : Int) - s.2.2.2.2.2).toNat
  ok := by
    intro v h s hg
    try dsimp only at hg
    split at hg <;> cases hg
    rfl

def L_l9lv : Loops := fun n => match n with
  | 3 => some LSl9lv
  | _ => none
noncomputable def fs_l9Live : Fs := ⟨[], fun args H => match args, H with
  | [.vec 0, .vec 1], [(false, .vec .body xs), (false, .vec .contact cs)] => some ((some (bodiesOk xs = true ∧ CtsOk xs.length cs)), .vec 2, [(false, .vec .body xs), (false, .vec .contact cs), (true, .vec .contact (liveF xs cs))])
  | _, _ => none⟩

theorem vc_l9Live (xs : List Body) (cs : List Contact) (Q : SV → List Ent → Prop) :
    fnVC tt (look [(71, fs_l6Sleeps)]) (L_l9lv) Tryz.f100 [.vec 0, .vec 1] [(false, .vec .body xs), (false, .vec .contact cs)] Q =
    (let w_ := IntKind.wrap IntKind.i64; let n_ := Int.toNat; let ic_ := Ty.ix Ty.contact; Holds (xs = xs ∧ cs = cs ∧ (0 : Int) ≤ (0 : Int) ∧ (0 : Int) ≤ (↑(List.length cs) : Int) ∧ [] ++ liveF xs (List.drop (n_ (0 : Int)) cs) = liveF xs cs) ∧ ∀ (y1 : List Body × List Contact × Unit × Unit × List Contact × Int), let y1f0_ := Prod.fst y1; let y1s1_ := Prod.snd y1; let y1f1_ := Prod.fst (Prod.snd y1); let y1s4_ := Prod.snd (Prod.snd (Prod.snd (Prod.snd y1))); let y1f4_ := Prod.fst (Prod.snd (Prod.snd (Prod.snd (Prod.snd y1)))); let y1s5_ := Prod.snd (Prod.snd (Prod.snd (Prod.snd (Prod.snd y1)))); let A8_ := (List.length y1f4_ + List.length [ic_ y1f1_ (n_ y1s5_)]); let A7_ := (↑(List.length cs) : Int); let A4_ := (ic_ y1f1_ (n_ y1s5_)); let A9_ := (Ty.ix Ty.body y1f0_ (n_ (Contact.B A4_))); let A3_ := (↑(List.length y1f1_) : Int); let A2_ := (Prod.snd y1s4_ + (1 : Int)); let A6_ := (A3_ - w_ A2_); let A5_ := (List.drop (n_ (w_ A2_)) cs); Holds (Prod.fst y1 = xs ∧ y1f1_ = cs ∧ (0 : Int) ≤ y1s5_ ∧ y1s5_ ≤ A7_ ∧ y1f4_ ++ liveF xs (List.drop (n_ y1s5_) cs) = liveF xs cs) → ifB (decide (Prod.snd y1s4_ < A3_)) (((0 : Int) ≤ y1s5_ ∧ y1s5_ < A3_) ∧ ((0 : Int) ≤ Contact.A A4_ ∧ Contact.A A4_ < (↑(List.length y1f0_) : Int)) ∧ ((0 : Int) ≤ y1s5_ ∧ y1s5_ < A3_) ∧ ((0 : Int) ≤ Contact.B A4_ ∧ Contact.B A4_ < (↑(List.length y1f0_) : Int)) ∧ ifB (decide (Body.Mass (Ty.ix Ty.body y1f0_ (n_ (Contact.A A4_))) > (0 : Int))) (ifB (!decide (Body.Quiet (Ty.ix Ty.body y1f0_ (n_ (Contact.A A4_))) ≥ (8 : Int))) (((0 : Int) ≤ y1s5_ ∧ y1s5_ < A3_) ∧ A8_ * (40 : Nat) ≤ room ∧ Holds (Prod.fst y1 = xs ∧ y1f1_ = cs ∧ (0 : Int) ≤ w_ A2_ ∧ w_ A2_ ≤ A7_ ∧ y1f4_ ++ [ic_ y1f1_ (n_ y1s5_)] ++ liveF xs A5_ = liveF xs cs) ∧ n_ A6_ < n_ (A3_ - y1s5_)) (ifB (decide (Body.Mass A9_ > (0 : Int))) (ifB (!decide (Body.Quiet A9_ ≥ (8 : Int))) (((0 : Int) ≤ y1s5_ ∧ y1s5_ < A3_) ∧ A8_ * (40 : Nat) ≤ room ∧ Holds (Prod.fst y1 = xs ∧ y1f1_ = cs ∧ (0 : Int) ≤ w_ A2_ ∧ w_ A2_ ≤ A7_ ∧ y1f4_ ++ [ic_ y1f1_ (n_ y1s5_)] ++ liveF xs A5_ = liveF xs cs) ∧ n_ A6_ < n_ (A3_ - y1s5_)) (Holds (Prod.fst y1 = xs ∧ y1f1_ = cs ∧ (0 : Int) ≤ w_ A2_ ∧ w_ A2_ ≤ A7_ ∧ y1f4_ ++ liveF xs A5_ = liveF xs cs) ∧ n_ A6_ < n_ (A3_ - y1s5_))) (Holds (Prod.fst y1 = xs ∧ y1f1_ = cs ∧ (0 : Int) ≤ w_ A2_ ∧ w_ A2_ ≤ A7_ ∧ y1f4_ ++ liveF xs A5_ = liveF xs cs) ∧ n_ A6_ < n_ (A3_ - y1s5_)))) (ifB (decide (Body.Mass A9_ > (0 : Int))) (ifB (!decide (Body.Quiet A9_ ≥ (8 : Int))) (((0 : Int) ≤ y1s5_ ∧ y1s5_ < A3_) ∧ A8_ * (40 : Nat) ≤ room ∧ Holds (Prod.fst y1 = xs ∧ y1f1_ = cs ∧ (0 : Int) ≤ w_ A2_ ∧ w_ A2_ ≤ A7_ ∧ y1f4_ ++ [ic_ y1f1_ (n_ y1s5_)] ++ liveF xs A5_ = liveF xs cs) ∧ n_ A6_ < n_ (A3_ - y1s5_)) (Holds (Prod.fst y1 = xs ∧ y1f1_ = cs ∧ (0 : Int) ≤ w_ A2_ ∧ w_ A2_ ≤ A7_ ∧ y1f4_ ++ liveF xs A5_ = liveF xs cs) ∧ n_ A6_ < n_ (A3_ - y1s5_))) (Holds (Prod.fst y1 = xs ∧ y1f1_ = cs ∧ (0 : Int) ≤ w_ A2_ ∧ w_ A2_ ≤ A7_ ∧ y1f4_ ++ liveF xs A5_ = liveF xs cs) ∧ n_ A6_ < n_ (A3_ - y1s5_)))) (Q (SV.vec (2 : Nat)) [(false, Blk.vec Ty.body y1f0_), (false, Blk.vec Ty.contact y1f1_), (true, Blk.vec Ty.contact y1f4_)])) := by kernel_rfl

theorem ok_l9Live : FsOk Tryz.prog 100 fs_l9Live := fsOk_of tt_ok (tabFs_cons ok_l6Sleeps tabFs_nil) mixed Tryz.func100 (by kernel_rfl) (by kernel_rfl) (by
    intro args LL p r HH h hp
    unfold fs_l9Live at h
    dsimp only at h
    split at h
    case h_2 => cases h
    rename_i xs cs
    simp only [Option.some.injEq, Prod.mk.injEq] at h
    obtain ⟨rfl, rfl, rfl⟩ := h
    refine ⟨by simp [Form, stays], (L_l9lv), ?_⟩
    rw [vc_l9Live]
    try dsimp only
    obtain ⟨hok, hct⟩ := hp _ rfl
    have hl := bodiesOk_len hok
    have hc0 := hct.1
    refine ⟨⟨(by trivial), (by trivial), by omega, by omega, (by trivial)⟩, ?_⟩
    rintro ⟨xs', cs', u, v, live, i⟩ ⟨h⟩
    dsimp only at h ⊢
    obtain ⟨rfl, rfl, i0, i1, h7⟩ := h
    have hll : (liveF xs' cs').length ≤ cs'.length := List.length_filter_le _ _
    have h7l := congrArg List.length h7
    rw [List.length_append] at h7l
    refine ifB_of (fun c => ?_) (fun c => ?_)
    · have c := of_decide_eq_true c
      have hik : i.toNat < cs'.length := by omega
      have e1 : (i + 1).toNat = i.toNat + 1 := by omega
      have w : IntKind.i64.wrap (i + 1) = i + 1 := wrap_small (by omega) (by omega)
      obtain ⟨a0, a1, b0, b1, _⟩ := hct.2 _ hik
      rw [liveF_drop hik, moves_ok2 hok (show (Ty.ix .contact cs' i.toNat).A.toNat < xs'.length by omega), moves_ok2 hok (show (Ty.ix .contact cs' i.toNat).B.toNat < xs'.length by omega)] at h7
      rw [w, e1]
      have yes : ∀ {us : List Contact}, us = [Ty.ix .contact cs' i.toNat] → live ++ (us ++ liveF xs' (cs'.drop (i.toNat + 1))) = liveF xs' cs' → live ++ [Ty.ix .contact cs' i.toNat] ++ liveF xs' (cs'.drop (i.toNat + 1)) = liveF xs' cs' := by
        rintro us rfl h
        rw [← h, List.append_assoc]
      refine ⟨⟨i0, c⟩, ⟨a0, a1⟩, ⟨i0, c⟩, ⟨b0, b1⟩, ifB_of (fun d1 => ifB_of (fun d2 => ⟨⟨i0, c⟩, by simp only [room, List.length_singleton]; omega, ⟨(by trivial), (by trivial), by omega, by omega, ?_⟩, by omega⟩)
        (fun d2 => ifB_of (fun d3 => ifB_of (fun d4 => ⟨⟨i0, c⟩, by simp only [room, List.length_singleton]; omega, ⟨(by trivial), (by trivial), by omega, by omega, ?_⟩, by omega⟩) (fun d4 => ⟨⟨(by trivial), (by trivial), by omega, by omega, ?_⟩, by omega⟩)) (fun d3 => ⟨⟨(by trivial), (by trivial), by omega, by omega, ?_⟩, by omega⟩)))
        (fun d1 => ifB_of (fun d3 => ifB_of (fun d4 => ⟨⟨i0, c⟩, by simp only [room, List.length_singleton]; omega, ⟨(by trivial), (by trivial), by omega, by omega, ?_⟩, by omega⟩) (fun d4 => ⟨⟨(by trivial), (by trivial), by omega, by omega, ?_⟩, by omega⟩)) (fun d3 => ⟨⟨(by trivial), (by trivial), by omega, by omega, ?_⟩, by omega⟩))⟩
      · rw [d1, d2] at h7
        exact yes rfl h7
      · rw [d1, d2, d3, d4] at h7
        exact yes rfl h7
      · rw [d1, d2, d3, d4] at h7
        exact h7
      · rw [d1, d2, d3] at h7
        exact h7
      · rw [d1, d3, d4] at h7
        exact yes rfl h7
      · rw [d1, d3, d4] at h7
        exact h7
      · rw [d1, d3] at h7
        exact h7
    · have c := of_decide_eq_false c
      rw [drop_end (by omega)] at h7
      have h7 : live = liveF xs' cs' := by simpa [liveF] using h7
      rw [h7]
      exact ⟨(by trivial), (by trivial)⟩)

def LSl9mv  : LS where
  S := List Body × List Body × Int
  live := [(3, [some .body]), (4, [none])]
  shape := fun s => ([.vec 1, .int .i64 s.2.2], [(false, .vec .body s.1), (true, .vec .body s.2.1)])
  get := fun v h => match v, h with
    | [.vec 1, .int .i64 i], [(false, .vec .body xs), (true, .vec .body ys)] => some (xs, ys, i)
    | _, _ => none
  inv := fun s0 s => Holds (s.1 = s0.1 ∧ 0 ≤ s.2.2 ∧ s.2.2 ≤ s0.1.length ∧ s.2.1 = fill (fun e => goS e (Ty.ix .body s0.1 e)) s0.1 s.2.2.toNat)
  mu := fun s => ((s.1.length : Int) - s.2.2).toNat
  ok := by
    intro v h s hg
    try dsimp only at hg
    split at hg <;> cases hg
    rfl

def L_l9mv : Loops := fun n => match n with
  | 3 => some LSl9mv
  | _ => none
noncomputable def fs_l9Moves : Fs := ⟨[], fun args H => match args, H with
  | [.vec 0], [(false, .vec .body xs)] => some ((some (bodiesOk xs = true)), .vec 1, [(false, .vec .body xs), (true, .vec .body (mapX goS xs))])
  | _, _ => none⟩

theorem vc_l9Moves (xs : List Body) (Q : SV → List Ent → Prop) :
    fnVC tt (look [(67, fs_specCopyB), (71, fs_l6Sleeps), (136, fs_specSpeed), (135, fs_specMoveB)]) (L_l9mv) Tryz.f104 [.vec 0] [(false, .vec .body xs)] Q =
    (let w_ := IntKind.wrap IntKind.i64; let n_ := Int.toNat; let ib_ := Ty.ix Ty.body; List.length xs ≤ (1048576 : Nat) ∧ Holds (xs = xs ∧ (0 : Int) ≤ (0 : Int) ∧ (0 : Int) ≤ (↑(List.length xs) : Int) ∧ xs = fill (fun e => goS e (ib_ xs e)) xs (n_ (0 : Int))) ∧ ∀ (y1 : List Body × List Body × Int), let y1f0_ := Prod.fst y1; let y1s1_ := Prod.snd y1; let y1f1_ := Prod.fst (Prod.snd y1); let y1s2_ := Prod.snd (Prod.snd y1); let A5_ := (ib_ y1f1_ (n_ y1s2_)); let A4_ := (↑(List.length y1f0_) : Int); let A3_ := (↑(List.length y1f1_) : Int); let A2_ := (Prod.snd y1s1_ + (1 : Int)); Holds (Prod.fst y1 = xs ∧ (0 : Int) ≤ y1s2_ ∧ y1s2_ ≤ (↑(List.length xs) : Int) ∧ y1f1_ = fill (fun e => goS e (ib_ xs e)) xs (n_ y1s2_)) → ifB (decide (Prod.snd y1s1_ < A3_)) (((0 : Int) ≤ y1s2_ ∧ y1s2_ < A3_) ∧ ifB (decide (Body.Mass A5_ > (0 : Int))) (((0 : Int) ≤ y1s2_ ∧ y1s2_ < A3_) ∧ ifB (!decide (Body.Quiet A5_ ≥ (8 : Int))) (((0 : Int) ≤ y1s2_ ∧ y1s2_ < A3_) ∧ ((0 : Int) ≤ y1s2_ ∧ y1s2_ < A3_) ∧ ((0 : Int) ≤ y1s2_ ∧ y1s2_ < A3_) ∧ Holds (Prod.fst y1 = xs ∧ (0 : Int) ≤ w_ A2_ ∧ w_ A2_ ≤ (↑(List.length xs) : Int) ∧ List.set y1f1_ (n_ y1s2_) (moveB A5_ (speed A5_)) = fill (fun e => goS e (ib_ xs e)) xs (n_ (w_ A2_))) ∧ n_ (A4_ - w_ A2_) < n_ (A4_ - y1s2_)) (Holds (Prod.fst y1 = xs ∧ (0 : Int) ≤ w_ A2_ ∧ w_ A2_ ≤ (↑(List.length xs) : Int) ∧ y1f1_ = fill (fun e => goS e (ib_ xs e)) xs (n_ (w_ A2_))) ∧ n_ (A4_ - w_ A2_) < n_ (A4_ - y1s2_))) (Holds (Prod.fst y1 = xs ∧ (0 : Int) ≤ w_ A2_ ∧ w_ A2_ ≤ (↑(List.length xs) : Int) ∧ y1f1_ = fill (fun e => goS e (ib_ xs e)) xs (n_ (w_ A2_))) ∧ n_ (A4_ - w_ A2_) < n_ (A4_ - y1s2_))) (Q (SV.vec (1 : Nat)) [(false, Blk.vec Ty.body y1f0_), (true, Blk.vec Ty.body y1f1_)])) := by kernel_rfl

theorem ok_l9Moves : FsOk Tryz.prog 104 fs_l9Moves := fsOk_of tt_ok (tabFs_cons ok_specCopyB (tabFs_cons ok_l6Sleeps (tabFs_cons ok_specSpeed (tabFs_cons ok_specMoveB tabFs_nil)))) mixed Tryz.func104 (by kernel_rfl) (by kernel_rfl) (by
    intro args LL p r HH h hp
    unfold fs_l9Moves at h
    dsimp only at h
    split at h
    case h_2 => cases h
    rename_i xs
    simp only [Option.some.injEq, Prod.mk.injEq] at h
    obtain ⟨rfl, rfl, rfl⟩ := h
    refine ⟨by simp [Form, stays], (L_l9mv), ?_⟩
    rw [vc_l9Moves]
    try dsimp only
    have hok := hp _ rfl
    have hl := bodiesOk_len hok
    refine ⟨by omega, ⟨(by trivial), by omega, by omega, (fill_zero _ _).symm⟩, ?_⟩
    rintro ⟨xs', ys, i⟩ ⟨h⟩
    dsimp only at h ⊢
    obtain ⟨rfl, i0, i1, h5⟩ := h
    have hyl : ys.length = xs'.length := by rw [h5]; exact length_fill _ _ (by omega)
    refine ifB_of (fun c => ?_) (fun c => ?_)
    · have c := of_decide_eq_true c
      have hi : i.toNat < xs'.length := by omega
      have e1 : (i + 1).toNat = i.toNat + 1 := by omega
      have w : IntKind.i64.wrap (i + 1) = i + 1 := wrap_small (by omega) (by omega)
      have hf := (fill_ix h5 hi).2
      have hmv := moves_ok2 hok hi
      rw [w, e1, hf]
      refine ⟨⟨i0, c⟩, ifB_of (fun d => ⟨⟨i0, c⟩, ifB_of (fun d2 => ⟨⟨i0, c⟩, ⟨i0, c⟩, ⟨i0, c⟩, ⟨(by trivial), by omega, by omega, fill_go h5 hi ?_⟩, by omega⟩) (fun d2 => ⟨⟨(by trivial), by omega, by omega, fill_stay h5 hi ?_⟩, by omega⟩)⟩) (fun d => ⟨⟨(by trivial), by omega, by omega, fill_stay h5 hi ?_⟩, by omega⟩)⟩
      · rw [d, d2] at hmv
        unfold goS
        rw [hmv]
        rfl
      · rw [d, d2] at hmv
        unfold goS
        rw [hmv]
        rfl
      · rw [d] at hmv
        unfold goS
        rw [hmv]
        rfl
    · have c := of_decide_eq_false c
      rw [fill_map (f := goS) h5 (by omega)]
      exact ⟨(by trivial), (by trivial)⟩)

def LSl9q  : LS where
  S := List Body × List Body × Unit × List Body × Int
  live := [(1, [none]), (5, [some .body]), (6, [none])]
  shape := fun s => ([.vec 1, .vec 2, .int .i64 s.2.2.2.2], [(false, .vec .body s.1), (false, .vec .body s.2.1), (true, .vec .body s.2.2.2.1)])
  get := fun v h => match v, h with
    | [.vec 1, .vec 2, .int .i64 i], [(false, .vec .body xs), (false, .vec .body was), (true, .vec .body ys)] => some (xs, was, (), ys, i)
    | _, _ => none
  inv := fun s0 s => Holds (s.1 = s0.1 ∧ s.2.1 = s0.2.1 ∧ 0 ≤ s.2.2.2.2 ∧ s.2.2.2.2 ≤ s0.1.length ∧ s.2.2.2.1 = fill (fun e => quietS s0.2.1 e (Ty.ix .body s0.1 e)) s0.1 s.2.2.2.2.toNat)
  mu := fun s => ((s.1.length : Int) - s.2.2.2.2).toNat
  ok := by
    intro v h s hg
    try dsimp only at hg
    split at hg <;> cases hg
    rfl

def L_l9q : Loops := fun n => match n with
  | 3 => some LSl9q
  | _ => none
noncomputable def fs_l9Quiet : Fs := ⟨[], fun args H => match args, H with
  | [.vec 0, .vec 1], [(false, .vec .body xs), (false, .vec .body was)] => some ((some (bodiesOk xs = true ∧ bodiesOk was = true ∧ was.length = xs.length)), .vec 2, [(false, .vec .body xs), (false, .vec .body was), (true, .vec .body (mapX (quietS was) xs))])
  | _, _ => none⟩

theorem vc_l9Quiet (xs : List Body) (was : List Body) (Q : SV → List Ent → Prop) :
    fnVC tt (look [(67, fs_specCopyB), (71, fs_l6Sleeps), (136, fs_specSpeed), (62, fs_l1In), (131, fs_l3Less)]) (L_l9q) Tryz.f106 [.vec 0, .vec 1] [(false, .vec .body xs), (false, .vec .body was)] Q =
    (let w_ := IntKind.wrap IntKind.i64; let s_ := SV.int IntKind.i64; let n_ := Int.toNat; let ib_ := Ty.ix Ty.body; List.length xs ≤ (1048576 : Nat) ∧ Holds (xs = xs ∧ was = was ∧ (0 : Int) ≤ (0 : Int) ∧ (0 : Int) ≤ (↑(List.length xs) : Int) ∧ xs = fill (fun e => quietS was e (ib_ xs e)) xs (n_ (0 : Int))) ∧ ∀ (y1 : List Body × List Body × Unit × List Body × Int), let y1f0_ := Prod.fst y1; let y1s1_ := Prod.snd y1; let y1f1_ := Prod.fst (Prod.snd y1); let y1s3_ := Prod.snd (Prod.snd (Prod.snd y1)); let y1f3_ := Prod.fst (Prod.snd (Prod.snd (Prod.snd y1))); let y1s4_ := Prod.snd (Prod.snd (Prod.snd (Prod.snd y1))); let A8_ := (↑(List.length y1f3_) : Int); let A7_ := (ib_ y1f3_ (n_ y1s4_)); let A6_ := (↑(List.length xs) : Int); let A5_ := ((↑(List.length y1f0_) : Int) - y1s4_); let A2_ := (Prod.snd y1s3_ + (1 : Int)); let A4_ := (n_ (w_ A2_)); let A3_ := ((↑(List.length y1f0_) : Int) - w_ A2_); Holds (Prod.fst y1 = xs ∧ y1f1_ = was ∧ (0 : Int) ≤ y1s4_ ∧ y1s4_ ≤ A6_ ∧ y1f3_ = fill (fun e => quietS was e (ib_ xs e)) xs (n_ y1s4_)) → ifB (decide (Prod.snd y1s3_ < A8_)) (((0 : Int) ≤ y1s4_ ∧ y1s4_ < A8_) ∧ ifB (Body.Mass A7_ == (0 : Int)) (Holds (Prod.fst y1 = xs ∧ y1f1_ = was ∧ (0 : Int) ≤ w_ A2_ ∧ w_ A2_ ≤ A6_ ∧ y1f3_ = fill (fun e => quietS was e (ib_ xs e)) xs A4_) ∧ n_ A3_ < n_ A5_) (((0 : Int) ≤ y1s4_ ∧ y1s4_ < A8_) ∧ ifB (decide (Body.Quiet A7_ ≥ (8 : Int))) (Holds (Prod.fst y1 = xs ∧ y1f1_ = was ∧ (0 : Int) ≤ w_ A2_ ∧ w_ A2_ ≤ A6_ ∧ y1f3_ = fill (fun e => quietS was e (ib_ xs e)) xs A4_) ∧ n_ A3_ < n_ A5_) (((0 : Int) ≤ y1s4_ ∧ y1s4_ < A8_) ∧ ((0 : Int) ≤ y1s4_ ∧ y1s4_ < A8_) ∧ ifB (isIn (Vec.X (speed A7_)) (-8 : Int) (8 : Int)) (ifB (isIn (Vec.Y (speed A7_)) (-8 : Int) (8 : Int)) (((0 : Int) ≤ y1s4_ ∧ y1s4_ < (↑(List.length y1f1_) : Int)) ∧ ((0 : Int) ≤ y1s4_ ∧ y1s4_ < (↑(List.length (setC Ty.body y1f3_ (n_ y1s4_) ((0 : Nat) + (11 : Nat)) [s_ (0 : Int)])) : Int)) ∧ Holds (Prod.fst y1 = xs ∧ y1f1_ = was ∧ (0 : Int) ≤ w_ A2_ ∧ w_ A2_ ≤ A6_ ∧ setC Ty.body (setC Ty.body y1f3_ (n_ y1s4_) ((0 : Nat) + (11 : Nat)) [s_ (0 : Int)]) (n_ y1s4_) ((0 : Nat) + (11 : Nat)) [s_ (min (w_ (Body.Quiet (ib_ y1f1_ (n_ y1s4_)) + (1 : Int))) (7 : Int))] = fill (fun e => quietS was e (ib_ xs e)) xs A4_) ∧ n_ A3_ < n_ A5_) (Holds (Prod.fst y1 = xs ∧ y1f1_ = was ∧ (0 : Int) ≤ w_ A2_ ∧ w_ A2_ ≤ A6_ ∧ setC Ty.body y1f3_ (n_ y1s4_) ((0 : Nat) + (11 : Nat)) [s_ (0 : Int)] = fill (fun e => quietS was e (ib_ xs e)) xs A4_) ∧ n_ A3_ < n_ A5_)) (Holds (Prod.fst y1 = xs ∧ y1f1_ = was ∧ (0 : Int) ≤ w_ A2_ ∧ w_ A2_ ≤ A6_ ∧ setC Ty.body y1f3_ (n_ y1s4_) ((0 : Nat) + (11 : Nat)) [s_ (0 : Int)] = fill (fun e => quietS was e (ib_ xs e)) xs A4_) ∧ n_ A3_ < n_ A5_)))) (Q (SV.vec (2 : Nat)) [(false, Blk.vec Ty.body y1f0_), (false, Blk.vec Ty.body y1f1_), (true, Blk.vec Ty.body y1f3_)])) := by kernel_rfl

theorem ok_l9Quiet : FsOk Tryz.prog 106 fs_l9Quiet := fsOk_of tt_ok (tabFs_cons ok_specCopyB (tabFs_cons ok_l6Sleeps (tabFs_cons ok_specSpeed (tabFs_cons ok_l1In (tabFs_cons ok_l3Less tabFs_nil))))) mixed Tryz.func106 (by kernel_rfl) (by kernel_rfl) (by
    intro args LL p r HH h hp
    unfold fs_l9Quiet at h
    dsimp only at h
    split at h
    case h_2 => cases h
    rename_i xs was
    simp only [Option.some.injEq, Prod.mk.injEq] at h
    obtain ⟨rfl, rfl, rfl⟩ := h
    refine ⟨by simp [Form, stays], (L_l9q), ?_⟩
    rw [vc_l9Quiet]
    try dsimp only
    obtain ⟨hok, hok2, hl2⟩ := hp _ rfl
    have hl := bodiesOk_len hok
    refine ⟨by omega, ⟨(by trivial), (by trivial), by omega, by omega, (fill_zero _ _).symm⟩, ?_⟩
    rintro ⟨xs', was', u, ys, i⟩ ⟨h⟩
    dsimp only at h ⊢
    obtain ⟨rfl, rfl, i0, i1, h5⟩ := h
    have hyl : ys.length = xs'.length := by rw [h5]; exact length_fill _ _ (by omega)
    refine ifB_of (fun c => ?_) (fun c => ?_)
    · have c := of_decide_eq_true c
      have hi : i.toNat < xs'.length := by omega
      have e1 : (i + 1).toNat = i.toNat + 1 := by omega
      have w : IntKind.i64.wrap (i + 1) = i + 1 := wrap_small (by omega) (by omega)
      have hf := (fill_ix h5 hi).2
      have hq := quiet_ok2 hok hi
      rw [w, e1, setC_quiet, setC_quiet, ix_set_self_body _ _ (by omega), List.set_set, hf, hq]
      refine ⟨⟨i0, c⟩, ifB_of (fun d => ⟨⟨(by trivial), (by trivial), by omega, by omega, fill_stay h5 hi ?_⟩, by omega⟩) (fun d => ⟨⟨i0, c⟩, ifB_of (fun d2 => ⟨⟨(by trivial), (by trivial), by omega, by omega, fill_stay h5 hi ?_⟩, by omega⟩) (fun d2 => ⟨⟨i0, c⟩, ⟨i0, c⟩, ifB_of (fun d3 => ifB_of (fun d4 => ⟨⟨i0, by omega⟩, ⟨i0, by rw [List.length_set]; exact c⟩, ⟨(by trivial), (by trivial), by omega, by omega, fill_go h5 hi ?_⟩, by omega⟩) (fun d4 => ⟨⟨(by trivial), (by trivial), by omega, by omega, fill_go h5 hi ?_⟩, by omega⟩)) (fun d3 => ⟨⟨(by trivial), (by trivial), by omega, by omega, fill_go h5 hi ?_⟩, by omega⟩)⟩)⟩)⟩
      all_goals
        unfold quietS moves
      · rw [d]
        rfl
      · rw [d, d2]
        rfl
      · rw [d, d2, d3, d4]
        rfl
      · rw [d, d2, d3, d4]
        rfl
      · rw [d, d2, d3]
        rfl
    · have c := of_decide_eq_false c
      rw [fill_map (f := quietS was') h5 (by omega)]
      exact ⟨(by trivial), (by trivial)⟩)

/-- In the groups from g on that are awake none sleeps. -/
def LowF (gs : List Int) (ws : List Bool) (g : Nat) (xs : List Body) : Prop := ∀ k, k < xs.length → (g : Int) ≤ gi gs k → Ty.ix .bool ws (gi gs k).toNat = true → (Ty.ix .body xs k).Quiet ≤ 7
def LSl9s1 (zs : List Body) : LS where
  S := List Body × List Int × List Bool × Unit × Unit × List Body × Int
  live := [(1, [none]), (2, [none]), (7, [some .body]), (8, [none])]
  shape := fun s => ([.vec 1, .vec 2, .vec 3, .int .i64 s.2.2.2.2.2.2], [(false, .vec .body s.1), (false, .vec .int s.2.1), (false, .vec .bool s.2.2.1), (true, .vec .body s.2.2.2.2.2.1)])
  get := fun v h => match v, h with
    | [.vec 1, .vec 2, .vec 3, .int .i64 g], [(false, .vec .body xs), (false, .vec .int gs), (false, .vec .bool ws), (true, .vec .body ys)] => some (xs, gs, ws, (), (), ys, g)
    | _, _ => none
  inv := fun s0 s => Holds (s.1 = s0.1 ∧ s.2.1 = s0.2.1 ∧ s.2.2.1 = s0.2.2.1 ∧ 0 ≤ s.2.2.2.2.2.2 ∧ s.2.2.2.2.2.2 ≤ s0.2.2.1.length ∧ s.2.2.2.2.2.1.length = zs.length ∧ LowF s0.2.1 s0.2.2.1 s.2.2.2.2.2.2.toNat s.2.2.2.2.2.1 ∧ settleF s0.2.1 s.2.2.2.2.2.2.toNat (s0.2.2.1.drop s.2.2.2.2.2.2.toNat) s.2.2.2.2.2.1 = settleF s0.2.1 0 s0.2.2.1 zs)
  mu := fun s => ((s.2.2.1.length : Int) - s.2.2.2.2.2.2).toNat
  ok := by
    intro v h s hg
    try dsimp only at hg
    split at hg <;> cases hg
    rfl

def LSl9s2  : LS where
  S := List Body × List Int × List Bool × Unit × Unit × List Body × Int × Bool × Int
  live := [(1, [none]), (2, [none]), (7, [some .body]), (8, [none]), (9, [none]), (10, [none])]
  shape := fun s => ([.vec 1, .vec 2, .vec 3, .int .i64 s.2.2.2.2.2.2.1, .bool s.2.2.2.2.2.2.2.1, .int .i64 s.2.2.2.2.2.2.2.2], [(false, .vec .body s.1), (false, .vec .int s.2.1), (false, .vec .bool s.2.2.1), (true, .vec .body s.2.2.2.2.2.1)])
  get := fun v h => match v, h with
    | [.vec 1, .vec 2, .vec 3, .int .i64 g, .bool all, .int .i64 i], [(false, .vec .body xs), (false, .vec .int gs), (false, .vec .bool ws), (true, .vec .body ys)] => some (xs, gs, ws, (), (), ys, g, all, i)
    | _, _ => none
  inv := fun s0 s => Holds (s.1 = s0.1 ∧ s.2.1 = s0.2.1 ∧ s.2.2.1 = s0.2.2.1 ∧ s.2.2.2.2.2.1 = s0.2.2.2.2.2.1 ∧ s.2.2.2.2.2.2.1 = s0.2.2.2.2.2.2.1 ∧ 0 ≤ s.2.2.2.2.2.2.2.2 ∧ s.2.2.2.2.2.2.2.2 ≤ s0.2.2.2.2.2.1.length ∧ s.2.2.2.2.2.2.2.1 = stillG s0.2.2.2.2.2.1 s0.2.1 s0.2.2.2.2.2.2.1 s.2.2.2.2.2.2.2.2.toNat)
  mu := fun s => ((s.2.2.2.2.2.1.length : Int) - s.2.2.2.2.2.2.2.2).toNat
  ok := by
    intro v h s hg
    try dsimp only at hg
    split at hg <;> cases hg
    rfl

def LSl9s3  : LS where
  S := List Body × List Int × List Bool × Unit × Unit × List Body × Int × Bool × Int
  live := [(1, [none]), (2, [none]), (7, [some .body]), (8, [none]), (9, [none]), (11, [none])]
  shape := fun s => ([.vec 1, .vec 2, .vec 3, .int .i64 s.2.2.2.2.2.2.1, .bool s.2.2.2.2.2.2.2.1, .int .i64 s.2.2.2.2.2.2.2.2], [(false, .vec .body s.1), (false, .vec .int s.2.1), (false, .vec .bool s.2.2.1), (true, .vec .body s.2.2.2.2.2.1)])
  get := fun v h => match v, h with
    | [.vec 1, .vec 2, .vec 3, .int .i64 g, .bool all, .int .i64 i], [(false, .vec .body xs), (false, .vec .int gs), (false, .vec .bool ws), (true, .vec .body ys)] => some (xs, gs, ws, (), (), ys, g, all, i)
    | _, _ => none
  inv := fun s0 s => Holds (s.1 = s0.1 ∧ s.2.1 = s0.2.1 ∧ s.2.2.1 = s0.2.2.1 ∧ s.2.2.2.2.2.2.1 = s0.2.2.2.2.2.2.1 ∧ s.2.2.2.2.2.2.2.1 = s0.2.2.2.2.2.2.2.1 ∧ 0 ≤ s.2.2.2.2.2.2.2.2 ∧ s.2.2.2.2.2.2.2.2 ≤ s0.2.2.2.2.2.1.length ∧ s.2.2.2.2.2.1 = fill (bedAt s0.2.2.2.2.2.1 s0.2.1 s0.2.2.2.2.2.2.1 s0.2.2.2.2.2.2.2.1) s0.2.2.2.2.2.1 s.2.2.2.2.2.2.2.2.toNat)
  mu := fun s => ((s.2.2.2.2.2.1.length : Int) - s.2.2.2.2.2.2.2.2).toNat
  ok := by
    intro v h s hg
    try dsimp only at hg
    split at hg <;> cases hg
    rfl

def L_l9s (zs : List Body) : Loops := fun n => match n with
  | 3 => some (LSl9s1 zs)
  | 8 => some LSl9s2
  | 12 => some LSl9s3
  | _ => none
noncomputable def fs_l9Sleep : Fs := ⟨[], fun args H => match args, H with
  | [.vec 0, .vec 1, .vec 2], [(false, .vec .body xs), (false, .vec .int gs), (false, .vec .bool ws)] => some ((some (xs.length ≤ 12 ∧ gs.length = xs.length ∧ ws.length ≤ 12 ∧ LowG gs ws xs)), .vec 3, [(false, .vec .body xs), (false, .vec .int gs), (false, .vec .bool ws), (true, .vec .body (settleF gs 0 ws xs))])
  | _, _ => none⟩

theorem vc_l9Sleep (xs : List Body) (gs : List Int) (ws : List Bool) (Q : SV → List Ent → Prop) :
    fnVC tt (look [(67, fs_specCopyB)]) (L_l9s xs) Tryz.f105 [.vec 0, .vec 1, .vec 2] [(false, .vec .body xs), (false, .vec .int gs), (false, .vec .bool ws)] Q =
    (let w_ := IntKind.wrap IntKind.i64; let s_ := SV.int IntKind.i64; let n_ := Int.toNat; List.length xs ≤ (1048576 : Nat) ∧ Holds (xs = xs ∧ gs = gs ∧ ws = ws ∧ (0 : Int) ≤ (0 : Int) ∧ (0 : Int) ≤ (↑(List.length ws) : Int) ∧ List.length xs = List.length xs ∧ LowF gs ws (n_ (0 : Int)) xs ∧ settleF gs (n_ (0 : Int)) (List.drop (n_ (0 : Int)) ws) xs = settleF gs (0 : Nat) ws xs) ∧ ∀ (y14 : List Body × List Int × List Bool × Unit × Unit × List Body × Int), let y14f0_ := Prod.fst y14; let y14s1_ := Prod.snd y14; let y14f1_ := Prod.fst (Prod.snd y14); let y14f2_ := Prod.fst (Prod.snd (Prod.snd y14)); let y14s5_ := Prod.snd (Prod.snd (Prod.snd (Prod.snd (Prod.snd y14)))); let y14f5_ := Prod.fst (Prod.snd (Prod.snd (Prod.snd (Prod.snd (Prod.snd y14))))); let y14s6_ := Prod.snd (Prod.snd (Prod.snd (Prod.snd (Prod.snd (Prod.snd y14))))); let A16_ := (↑(List.length y14f2_) : Int); let A15_ := (n_ (w_ (Prod.snd y14s5_ + (1 : Int)))); Holds (Prod.fst y14 = xs ∧ y14f1_ = gs ∧ y14f2_ = ws ∧ (0 : Int) ≤ y14s6_ ∧ y14s6_ ≤ (↑(List.length ws) : Int) ∧ List.length y14f5_ = List.length xs ∧ LowF gs ws (n_ y14s6_) y14f5_ ∧ settleF gs (n_ y14s6_) (List.drop (n_ y14s6_) ws) y14f5_ = settleF gs (0 : Nat) ws xs) → ifB (decide (Prod.snd y14s5_ < A16_)) (((0 : Int) ≤ y14s6_ ∧ y14s6_ < A16_) ∧ ifB (!Ty.ix Ty.bool y14f2_ (n_ y14s6_)) (Holds (Prod.fst y14 = xs ∧ y14f1_ = gs ∧ y14f2_ = ws ∧ (0 : Int) ≤ w_ (Prod.snd y14s5_ + (1 : Int)) ∧ w_ (Prod.snd y14s5_ + (1 : Int)) ≤ (↑(List.length ws) : Int) ∧ List.length y14f5_ = List.length xs ∧ LowF gs ws A15_ y14f5_ ∧ settleF gs A15_ (List.drop A15_ ws) y14f5_ = settleF gs (0 : Nat) ws xs) ∧ n_ (A16_ - w_ (Prod.snd y14s5_ + (1 : Int))) < n_ (A16_ - y14s6_)) (Holds (Prod.fst y14 = y14f0_ ∧ y14f1_ = y14f1_ ∧ y14f2_ = y14f2_ ∧ y14f5_ = y14f5_ ∧ y14s6_ = y14s6_ ∧ (0 : Int) ≤ (0 : Int) ∧ (0 : Int) ≤ (↑(List.length y14f5_) : Int) ∧ true = stillG y14f5_ y14f1_ y14s6_ (n_ (0 : Int))) ∧ ∀ (y9 : List Body × List Int × List Bool × Unit × Unit × List Body × Int × Bool × Int), let y9f0_ := Prod.fst y9; let y9s1_ := Prod.snd y9; let y9f1_ := Prod.fst (Prod.snd y9); let y9f2_ := Prod.fst (Prod.snd (Prod.snd y9)); let y9f5_ := Prod.fst (Prod.snd (Prod.snd (Prod.snd (Prod.snd (Prod.snd y9))))); let y9f6_ := Prod.fst (Prod.snd (Prod.snd (Prod.snd (Prod.snd (Prod.snd (Prod.snd y9)))))); let y9s7_ := Prod.snd (Prod.snd (Prod.snd (Prod.snd (Prod.snd (Prod.snd (Prod.snd y9)))))); let y9f7_ := Prod.fst (Prod.snd (Prod.snd (Prod.snd (Prod.snd (Prod.snd (Prod.snd (Prod.snd y9))))))); let y9s8_ := Prod.snd (Prod.snd (Prod.snd (Prod.snd (Prod.snd (Prod.snd (Prod.snd (Prod.snd y9))))))); let A12_ := (↑(List.length y9f5_) : Int); let A11_ := (Prod.snd y9s7_ + (1 : Int)); let A10_ := y14s5_; let A13_ := (↑(List.length (Prod.fst A10_)) : Int); Holds (Prod.fst y9 = y14f0_ ∧ y9f1_ = y14f1_ ∧ y9f2_ = y14f2_ ∧ y9f5_ = Prod.fst A10_ ∧ y9f6_ = Prod.snd A10_ ∧ (0 : Int) ≤ y9s8_ ∧ y9s8_ ≤ A13_ ∧ y9f7_ = stillG (Prod.fst A10_) y14f1_ (Prod.snd A10_) (n_ y9s8_)) → ifB (decide (Prod.snd y9s7_ < A12_)) (ifB y9f7_ (((0 : Int) ≤ y9s8_ ∧ y9s8_ < (↑(List.length y9f1_) : Int)) ∧ ifB (Ty.ix Ty.int y9f1_ (n_ y9s8_) != y9f6_) (Holds (Prod.fst y9 = y14f0_ ∧ y9f1_ = y14f1_ ∧ y9f2_ = y14f2_ ∧ y9f5_ = Prod.fst A10_ ∧ y9f6_ = Prod.snd A10_ ∧ (0 : Int) ≤ w_ A11_ ∧ w_ A11_ ≤ A13_ ∧ true = stillG (Prod.fst A10_) y14f1_ (Prod.snd A10_) (n_ (w_ A11_))) ∧ n_ (A12_ - w_ A11_) < n_ (A12_ - y9s8_)) (((0 : Int) ≤ y9s8_ ∧ y9s8_ < A12_) ∧ Holds (Prod.fst y9 = y14f0_ ∧ y9f1_ = y14f1_ ∧ y9f2_ = y14f2_ ∧ y9f5_ = Prod.fst A10_ ∧ y9f6_ = Prod.snd A10_ ∧ (0 : Int) ≤ w_ A11_ ∧ w_ A11_ ≤ A13_ ∧ decide (Body.Quiet (Ty.ix Ty.body y9f5_ (n_ y9s8_)) ≥ (7 : Int)) = stillG (Prod.fst A10_) y14f1_ (Prod.snd A10_) (n_ (w_ A11_))) ∧ n_ (A12_ - w_ A11_) < n_ (A12_ - y9s8_))) (Holds (Prod.fst y9 = y14f0_ ∧ y9f1_ = y14f1_ ∧ y9f2_ = y14f2_ ∧ y9f5_ = Prod.fst A10_ ∧ y9f6_ = Prod.snd A10_ ∧ (0 : Int) ≤ w_ A11_ ∧ w_ A11_ ≤ A13_ ∧ false = stillG (Prod.fst A10_) y14f1_ (Prod.snd A10_) (n_ (w_ A11_))) ∧ n_ (A12_ - w_ A11_) < n_ (A12_ - y9s8_))) (Holds (Prod.fst y9 = y9f0_ ∧ y9f1_ = y9f1_ ∧ y9f2_ = y9f2_ ∧ y9f6_ = y9f6_ ∧ y9f7_ = y9f7_ ∧ (0 : Int) ≤ (0 : Int) ∧ (0 : Int) ≤ A12_ ∧ y9f5_ = fill (bedAt y9f5_ y9f1_ y9f6_ y9f7_) y9f5_ (n_ (0 : Int))) ∧ ∀ (y1 : List Body × List Int × List Bool × Unit × Unit × List Body × Int × Bool × Int), let y1f0_ := Prod.fst y1; let y1s1_ := Prod.snd y1; let y1f1_ := Prod.fst (Prod.snd y1); let y1f2_ := Prod.fst (Prod.snd (Prod.snd y1)); let y1f5_ := Prod.fst (Prod.snd (Prod.snd (Prod.snd (Prod.snd (Prod.snd y1))))); let y1s6_ := Prod.snd (Prod.snd (Prod.snd (Prod.snd (Prod.snd (Prod.snd y1))))); let y1f6_ := Prod.fst (Prod.snd (Prod.snd (Prod.snd (Prod.snd (Prod.snd (Prod.snd y1)))))); let y1s7_ := Prod.snd (Prod.snd (Prod.snd (Prod.snd (Prod.snd (Prod.snd (Prod.snd y1)))))); let y1f7_ := Prod.fst (Prod.snd (Prod.snd (Prod.snd (Prod.snd (Prod.snd (Prod.snd (Prod.snd y1))))))); let y1s8_ := Prod.snd (Prod.snd (Prod.snd (Prod.snd (Prod.snd (Prod.snd (Prod.snd (Prod.snd y1))))))); let A7_ := (n_ (w_ (Prod.fst y1s6_ + (1 : Int)))); let A6_ := (↑(List.length y1f5_) : Int); let A5_ := (setC Ty.body y1f5_ (n_ y1s8_) ((0 : Nat) + (11 : Nat)) [s_ (8 : Int)]); let A4_ := (Prod.snd y1s7_ + (1 : Int)); let A2_ := (Prod.snd (Prod.snd (Prod.snd (Prod.snd y9s1_)))); let A8_ := (↑(List.length (Prod.fst A2_)) : Int); let A3_ := (bedAt (Prod.fst A2_) y9f1_ (Prod.fst (Prod.snd A2_)) (Prod.fst (Prod.snd (Prod.snd A2_)))); Holds (Prod.fst y1 = y9f0_ ∧ y1f1_ = y9f1_ ∧ y1f2_ = y9f2_ ∧ y1f6_ = Prod.fst (Prod.snd A2_) ∧ y1f7_ = Prod.fst (Prod.snd (Prod.snd A2_)) ∧ (0 : Int) ≤ y1s8_ ∧ y1s8_ ≤ A8_ ∧ y1f5_ = fill A3_ (Prod.fst A2_) (n_ y1s8_)) → ifB (decide (Prod.snd y1s7_ < A6_)) (ifB y1f7_ (((0 : Int) ≤ y1s8_ ∧ y1s8_ < (↑(List.length y1f1_) : Int)) ∧ ifB (Ty.ix Ty.int y1f1_ (n_ y1s8_) == y1f6_) (((0 : Int) ≤ y1s8_ ∧ y1s8_ < A6_) ∧ ((0 : Int) ≤ y1s8_ ∧ y1s8_ < (↑(List.length A5_) : Int)) ∧ Holds (Prod.fst y1 = y9f0_ ∧ y1f1_ = y9f1_ ∧ y1f2_ = y9f2_ ∧ y1f6_ = Prod.fst (Prod.snd A2_) ∧ y1f7_ = Prod.fst (Prod.snd (Prod.snd A2_)) ∧ (0 : Int) ≤ w_ A4_ ∧ w_ A4_ ≤ A8_ ∧ setC Ty.body A5_ (n_ y1s8_) ((0 : Nat) + (6 : Nat)) [s_ (0 : Int), s_ (0 : Int)] = fill A3_ (Prod.fst A2_) (n_ (w_ A4_))) ∧ n_ ((↑(List.length (setC Ty.body A5_ (n_ y1s8_) ((0 : Nat) + (6 : Nat)) [s_ (0 : Int), s_ (0 : Int)])) : Int) - w_ A4_) < n_ (A6_ - y1s8_)) (Holds (Prod.fst y1 = y9f0_ ∧ y1f1_ = y9f1_ ∧ y1f2_ = y9f2_ ∧ y1f6_ = Prod.fst (Prod.snd A2_) ∧ y1f7_ = Prod.fst (Prod.snd (Prod.snd A2_)) ∧ (0 : Int) ≤ w_ A4_ ∧ w_ A4_ ≤ A8_ ∧ y1f5_ = fill A3_ (Prod.fst A2_) (n_ (w_ A4_))) ∧ n_ (A6_ - w_ A4_) < n_ (A6_ - y1s8_))) (Holds (Prod.fst y1 = y9f0_ ∧ y1f1_ = y9f1_ ∧ y1f2_ = y9f2_ ∧ y1f6_ = Prod.fst (Prod.snd A2_) ∧ y1f7_ = Prod.fst (Prod.snd (Prod.snd A2_)) ∧ (0 : Int) ≤ w_ A4_ ∧ w_ A4_ ≤ A8_ ∧ y1f5_ = fill A3_ (Prod.fst A2_) (n_ (w_ A4_))) ∧ n_ (A6_ - w_ A4_) < n_ (A6_ - y1s8_))) (Holds (Prod.fst y1 = xs ∧ y1f1_ = gs ∧ y1f2_ = ws ∧ (0 : Int) ≤ w_ (Prod.fst y1s6_ + (1 : Int)) ∧ w_ (Prod.fst y1s6_ + (1 : Int)) ≤ (↑(List.length ws) : Int) ∧ List.length y1f5_ = List.length xs ∧ LowF gs ws A7_ y1f5_ ∧ settleF gs A7_ (List.drop A7_ ws) y1f5_ = settleF gs (0 : Nat) ws xs) ∧ n_ ((↑(List.length y1f2_) : Int) - w_ (Prod.fst y1s6_ + (1 : Int))) < n_ (A16_ - Prod.snd A10_))))) (Q (SV.vec (3 : Nat)) [(false, Blk.vec Ty.body y14f0_), (false, Blk.vec Ty.int y14f1_), (false, Blk.vec Ty.bool y14f2_), (true, Blk.vec Ty.body y14f5_)])) := by kernel_rfl

theorem ok_l9Sleep : FsOk Tryz.prog 105 fs_l9Sleep := fsOk_of tt_ok (tabFs_cons ok_specCopyB tabFs_nil) mixed Tryz.func105 (by kernel_rfl) (by kernel_rfl) (by
    intro args LL p r HH h hp
    unfold fs_l9Sleep at h
    dsimp only at h
    split at h
    case h_2 => cases h
    rename_i xs gs ws
    simp only [Option.some.injEq, Prod.mk.injEq] at h
    obtain ⟨rfl, rfl, rfl⟩ := h
    refine ⟨by simp [Form, stays], (L_l9s xs), ?_⟩
    rw [vc_l9Sleep]
    try dsimp only
    obtain ⟨hl, hgl, hwl, hlow⟩ := hp _ rfl
    have low0 : LowF gs ws 0 xs := fun k hk h1 h2 => hlow k hk (by omega) h2
    refine ⟨by omega, ⟨(by trivial), (by trivial), (by trivial), by omega, by omega, (by trivial), low0, (by trivial)⟩, ?_⟩
    rintro ⟨xs', gs', ws', u, v, ys, g⟩ ⟨h⟩
    dsimp only at h ⊢
    obtain ⟨rfl, rfl, rfl, g0, g1, g2, g3, g4⟩ := h
    refine ifB_of (fun c => ?_) (fun c => ?_)
    · have c := of_decide_eq_true c
      have hg : g.toNat < ws'.length := by omega
      have e1 : (g + 1).toNat = g.toNat + 1 := by omega
      have w1 : IntKind.i64.wrap (g + 1) = g + 1 := wrap_small (by omega) (by omega)
      rw [drop_ix (T := .bool) hg] at g4
      have eg : ((g.toNat : Nat) : Int) = g := by omega
      refine ⟨⟨g0, c⟩, ifB_of (fun d => ?_) (fun d => ⟨⟨(by trivial), (by trivial), (by trivial), (by trivial), (by trivial), by omega, by omega, (by trivial)⟩, ?_⟩)⟩
      · rw [w1, e1]
        have d := not_true d
        refine ⟨⟨(by trivial), (by trivial), (by trivial), by omega, by omega, g2, fun k hk h1 h2 => g3 k hk (by omega) h2, ?_⟩, by omega⟩
        rw [← g4, d]
        show settleF gs' (g.toNat + 1) (ws'.drop (g.toNat + 1)) ys = settleF gs' (g.toNat + 1) (ws'.drop (g.toNat + 1)) (settleOne ys gs' (g.toNat : Nat) false)
        congr 1
        unfold settleOne bedAt
        simp only [Bool.false_and, cond_false]
        exact (gen_ix (T := .body) ys).symm
      have d := not_false d
      rintro ⟨xs2, gs2, ws2, u2, v2, ys2, gg, all, i⟩ ⟨h⟩
      dsimp only at h ⊢
      obtain ⟨rfl, rfl, rfl, rfl, rfl, i0, i1, rfl⟩ := h
      refine ifB_of (fun c2 => ?_) (fun c2 => ?_)
      · have c2 := of_decide_eq_true c2
        have hi : i.toNat < ys2.length := by omega
        have e2 : (i + 1).toNat = i.toNat + 1 := by omega
        have w2 : IntKind.i64.wrap (i + 1) = i + 1 := wrap_small (by omega) (by omega)
        rw [w2, e2]
        have hst : stillG ys2 gs2 gg (i.toNat + 1) = (stillG ys2 gs2 gg i.toNat && (!(gi gs2 i.toNat == gg) || (Ty.ix .body ys2 i.toNat).Quiet == 7)) := rfl
        rw [hst]
        refine ifB_of (fun q => ⟨⟨i0, by omega⟩, ifB_of (fun q2 => ⟨⟨(by trivial), (by trivial), (by trivial), (by trivial), (by trivial), by omega, by omega, ?_⟩, by omega⟩) (fun q2 => ⟨⟨i0, c2⟩, ⟨(by trivial), (by trivial), (by trivial), (by trivial), (by trivial), by omega, by omega, ?_⟩, by omega⟩)⟩) (fun q => ⟨⟨(by trivial), (by trivial), (by trivial), (by trivial), (by trivial), by omega, by omega, ?_⟩, by omega⟩)
        · have q2 : (!(gi gs2 i.toNat == gg)) = true := q2
          rw [q, q2]
          rfl
        · have q2 : (!(gi gs2 i.toNat == gg)) = false := q2
          have q3 : gi gs2 i.toNat = gg := eq_of_beq (not_false q2)
          have h7 := g3 i.toNat hi (by rw [q3]; omega) (by rw [q3]; exact d)
          rw [q, q2]
          show decide ((Ty.ix .body ys2 i.toNat).Quiet ≥ 7) = ((Ty.ix .body ys2 i.toNat).Quiet == 7)
          rw [Bool.eq_iff_iff]
          simp only [decide_eq_true_eq, beq_iff_eq]
          omega
        · rw [q]
          rfl
      · have c2 := of_decide_eq_false c2
        have ei : i.toNat = ys2.length := by omega
        rw [ei]
        refine ⟨⟨(by trivial), (by trivial), (by trivial), (by trivial), (by trivial), by omega, by omega, (fill_zero _ _).symm⟩, ?_⟩
        clear c2 i0 i1 ei
        rintro ⟨xs3, gs3, ws3, u3, v3, zs, g3', all, k⟩ ⟨h⟩
        dsimp only at h ⊢
        obtain ⟨rfl, rfl, rfl, rfl, rfl, k0, k1, h5⟩ := h
        have hzl : zs.length = ys2.length := by rw [h5]; exact length_fill _ _ (by omega)
        refine ifB_of (fun c3 => ?_) (fun c3 => ?_)
        · have c3 := of_decide_eq_true c3
          generalize stillG ys2 gs3 g3' ys2.length = A at h5 ⊢
          have hi : k.toNat < ys2.length := by omega
          have e2 : (k + 1).toNat = k.toNat + 1 := by omega
          have w2 : IntKind.i64.wrap (k + 1) = k + 1 := wrap_small (by omega) (by omega)
          have hf := (fill_ix h5 hi).2
          rw [w2, e2, setC_quiet, setC_drive, ix_set_self_body _ _ (by omega), List.set_set, hf]
          refine ifB_of (fun q => ⟨⟨k0, by omega⟩, ifB_of (fun q2 => ⟨⟨k0, c3⟩, ⟨k0, by rw [List.length_set]; exact c3⟩, ⟨(by trivial), (by trivial), (by trivial), (by trivial), (by trivial), by omega, by omega, fill_go h5 hi ?_⟩, by rw [List.length_set]; omega⟩) (fun q2 => ⟨⟨(by trivial), (by trivial), (by trivial), (by trivial), (by trivial), by omega, by omega, fill_stay h5 hi ?_⟩, by omega⟩)⟩) (fun q => ⟨⟨(by trivial), (by trivial), (by trivial), (by trivial), (by trivial), by omega, by omega, fill_stay h5 hi ?_⟩, by omega⟩)
          · have q2 : (gi gs3 k.toNat == g3') = true := q2
            unfold bedAt
            rw [q, q2]
            rfl
          · have q2 : (gi gs3 k.toNat == g3') = false := q2
            unfold bedAt
            rw [q2, Bool.and_false]
            rfl
          · unfold bedAt
            rw [q, Bool.false_and]
            rfl
        · have c3 := of_decide_eq_false c3
          rw [show k.toNat = ys2.length by omega, fill_end _ _ rfl] at h5
          have hz : zs = settleOne ys2 gs3 (g3'.toNat : Nat) true := by
            unfold settleOne
            rw [eg, Bool.true_and]
            exact h5
          rw [w1, e1]
          have g4' := g4
          rw [d] at g4'
          refine ⟨⟨(by trivial), (by trivial), (by trivial), by omega, by omega, by omega, fun j hj h1 h2 => ?_, ?_⟩, by omega⟩
          · rw [hz, length_settleOne] at hj
            rw [hz, ix_settleOne hj]
            have hne : (gi gs3 j == (g3'.toNat : Int)) = false := beq_eq_false_iff_ne.2 (by omega)
            unfold bedAt
            rw [hne, Bool.and_false]
            exact g3 j hj (by omega) h2
          · rw [hz]
            exact g4'
    · have c := of_decide_eq_false c
      rw [drop_end (by omega)] at g4
      have g4 : ys = _ := g4
      rw [g4]
      exact ⟨(by trivial), (by trivial)⟩)

theorem contactsF_ctok {xs : List Body} (h : xs.length ≤ 12) : CtsOk xs.length (contactsF xs) := by
  have h1 := length_contactsF h
  refine ⟨by omega, fun k hk => ?_⟩
  have hm : Ty.ix .contact (contactsF xs) k ∈ contactsF xs := List.mem_of_getElem? (ix_get (T := .contact) hk)
  obtain ⟨a, b, q1, q2, q3, _⟩ := mem_contactsF hm
  rw [q3]
  refine ⟨?_, ?_, ?_, ?_, ?_⟩ <;> dsimp only <;> omega
noncomputable def fs_l9Step : Fs := ⟨[], fun args H => match args, H with
  | [.vec 0, .int .i64 pull], [(false, .vec .body xs)] => some ((some (bodiesOk xs = true ∧ 0 ≤ pull ∧ pull ≤ 2560)), .vec 1, [(false, .vec .body xs), (true, .vec .body (stepF xs pull))])
  | _, _ => none⟩

theorem vc_l9Step (xs : List Body) (pull : Int) (Q : SV → List Ent → Prop) :
    fnVC tt (look [(96, fs_l7Contacts), (97, fs_l7Groups), (98, fs_l7Awake), (99, fs_l9Wake), (100, fs_l9Live), (102, fs_l9Pull), (101, fs_specAll), (104, fs_l9Moves), (103, fs_specAparts), (106, fs_l9Quiet), (105, fs_l9Sleep)]) L0 Tryz.f63 [.vec 0, .int .i64 pull] [(false, .vec .body xs)] Q =
    (let ic_ := Ty.ix Ty.contact; let A1_ := (liveF (wokenF xs) (contactsF xs)); let A2_ := (mapX goS (pushAllF (mapX (pullS pull) (wokenF xs)) A1_)); bodiesOk xs = true ∧ (List.length xs ≤ (12 : Nat) ∧ contactsF xs = contactsF xs) ∧ (bodiesOk xs = true ∧ groupsX xs = groupsX xs) ∧ (bodiesOk xs = true ∧ groupsX xs = groupsX xs ∧ awkF xs (List.length xs) = awkF xs (List.length xs)) ∧ (bodiesOk (wokenF xs) = true ∧ List.length (contactsF xs) ≤ (144 : Nat) ∧ ∀ (k : Nat), k < List.length (contactsF xs) → (0 : Int) ≤ Contact.A (ic_ (contactsF xs) k) ∧ Contact.A (ic_ (contactsF xs) k) < (↑(List.length (wokenF xs)) : Int) ∧ (0 : Int) ≤ Contact.B (ic_ (contactsF xs) k) ∧ Contact.B (ic_ (contactsF xs) k) < (↑(List.length (wokenF xs)) : Int) ∧ Contact.A (ic_ (contactsF xs) k) ≠ Contact.B (ic_ (contactsF xs) k)) ∧ (bodiesOk (wokenF xs) = true ∧ (0 : Int) ≤ pull ∧ pull ≤ (2560 : Int)) ∧ ((∀ (k : Nat), k < List.length (mapX (pullS pull) (wokenF xs)) → POk (Ty.ix Ty.body (mapX (pullS pull) (wokenF xs)) k)) ∧ List.length (mapX (pullS pull) (wokenF xs)) ≤ (12 : Nat) ∧ List.length A1_ ≤ (144 : Nat) ∧ ∀ (k : Nat), k < List.length A1_ → (0 : Int) ≤ Contact.A (ic_ A1_ k) ∧ Contact.A (ic_ A1_ k) < (↑(List.length (mapX (pullS pull) (wokenF xs))) : Int) ∧ (0 : Int) ≤ Contact.B (ic_ A1_ k) ∧ Contact.B (ic_ A1_ k) < (↑(List.length (mapX (pullS pull) (wokenF xs))) : Int) ∧ Contact.A (ic_ A1_ k) ≠ Contact.B (ic_ A1_ k)) ∧ bodiesOk (pushAllF (mapX (pullS pull) (wokenF xs)) A1_) = true ∧ ((∀ (k : Nat), k < List.length A2_ → POk (Ty.ix Ty.body A2_ k)) ∧ List.length A2_ ≤ (12 : Nat) ∧ List.length A1_ ≤ (144 : Nat) ∧ ∀ (k : Nat), k < List.length A1_ → (0 : Int) ≤ Contact.A (ic_ A1_ k) ∧ Contact.A (ic_ A1_ k) < (↑(List.length A2_) : Int) ∧ (0 : Int) ≤ Contact.B (ic_ A1_ k) ∧ Contact.B (ic_ A1_ k) < (↑(List.length A2_) : Int) ∧ Contact.A (ic_ A1_ k) ≠ Contact.B (ic_ A1_ k)) ∧ (bodiesOk (apartF A2_ A1_) = true ∧ bodiesOk (wokenF xs) = true ∧ List.length (wokenF xs) = List.length (apartF A2_ A1_)) ∧ (List.length (mapX (quietS (wokenF xs)) (apartF A2_ A1_)) ≤ (12 : Nat) ∧ List.length (groupsX xs) = List.length (mapX (quietS (wokenF xs)) (apartF A2_ A1_)) ∧ List.length (awkF xs (List.length xs)) ≤ (12 : Nat) ∧ ∀ (k : Nat), k < List.length (mapX (quietS (wokenF xs)) (apartF A2_ A1_)) → (0 : Int) ≤ gi (groupsX xs) k → Ty.ix Ty.bool (awkF xs (List.length xs)) (Int.toNat (gi (groupsX xs) k)) = true → Body.Quiet (Ty.ix Ty.body (mapX (quietS (wokenF xs)) (apartF A2_ A1_)) k) ≤ (7 : Int)) ∧ Q (SV.vec (1 : Nat)) [(false, Blk.vec Ty.body xs), (true, Blk.vec Ty.body (settleF (groupsX xs) (0 : Nat) (awkF xs (List.length xs)) (mapX (quietS (wokenF xs)) (apartF A2_ A1_))))]) := by kernel_rfl

theorem ok_l9Step : FsOk Tryz.prog 63 fs_l9Step := fsOk_of tt_ok (tabFs_cons ok_l7Contacts (tabFs_cons ok_l7Groups (tabFs_cons ok_l7Awake (tabFs_cons ok_l9Wake (tabFs_cons ok_l9Live (tabFs_cons ok_l9Pull (tabFs_cons ok_specAll (tabFs_cons ok_l9Moves (tabFs_cons ok_specAparts (tabFs_cons ok_l9Quiet (tabFs_cons ok_l9Sleep tabFs_nil))))))))))) mixed Tryz.func63 (by kernel_rfl) (by kernel_rfl) (by
    intro args LL p r HH h hp
    unfold fs_l9Step at h
    dsimp only at h
    split at h
    case h_2 => cases h
    rename_i pull xs
    simp only [Option.some.injEq, Prod.mk.injEq] at h
    obtain ⟨rfl, rfl, rfl⟩ := h
    refine ⟨by simp [Form, stays], L0, ?_⟩
    rw [vc_l9Step]
    try dsimp only
    obtain ⟨hok, p0, p1⟩ := hp _ rfl
    have hl := bodiesOk_len hok
    have hco := contactsF_ctok hl
    have hlv := live_same (pull := pull) hl
    rw [hlv]
    have hll : CtsOk xs.length (liveX xs pull) := live_ok hl
    have hP := ok_pulledF hok p0 p1
    refine ⟨hok, ⟨hl, rfl⟩, ⟨hok, rfl⟩, ⟨hok, rfl, rfl⟩, ⟨ok_wokenF hok, by rw [length_wokenF]; exact hco⟩, ⟨ok_wokenF hok, p0, p1⟩, ⟨allP_ok hP, by rw [length_mapX, length_wokenF]; exact hl, by rw [length_mapX, length_wokenF]; exact hll⟩, ok_pushedF hok p0 p1,
      ⟨allP_ok (ok_movedF hok p0 p1), by rw [length_mapX, length_pushAllF, length_mapX, length_wokenF]; exact hl, by rw [length_mapX, length_pushAllF, length_mapX, length_wokenF]; exact hll⟩,
      ⟨ok_apartX hok p0 p1, ok_wokenF hok, by rw [length_apartF, length_mapX, length_pushAllF, length_mapX, length_wokenF]⟩, ⟨?_, ?_, ?_, low_quietX hok⟩, (by trivial), (by trivial)⟩
    · rw [length_mapX, length_apartF, length_mapX, length_pushAllF, length_mapX, length_wokenF]
      exact hl
    · rw [length_mapX, length_apartF, length_mapX, length_pushAllF, length_mapX, length_wokenF]
      simp only [groupsX, length_gen]
    · have := length_awkF xs xs.length
      have := num_le xs xs.length
      omega)

end
end Go.Proofs.YtnahfbjdicjdpaaGreat.Sym

namespace Go.Proofs.YtnahfbjdicjdpaaGreat.Sym
open Go
set_option linter.unusedVariables false
set_option linter.unusedSimpArgs false
set_option maxRecDepth 100000

noncomputable def pairC (xs : List Body) (c : Contact) : Pair := ⟨(Ty.ix .body xs c.A.toNat).Id, (Ty.ix .body xs c.B.toNat).Id⟩
noncomputable def pairsC (xs : List Body) (cs : List Contact) : List Pair := cs.map (pairC xs)
noncomputable def stepPairs (xs : List Body) : List Pair := pairsC xs (contactsOf xs)
theorem pairsC_drop {xs : List Body} {cs : List Contact} {i : Nat} (h : i < cs.length) : pairsC xs (cs.drop i) = pairC xs (Ty.ix .contact cs i) :: pairsC xs (cs.drop (i + 1)) := by
  rw [drop_ix (T := .contact) h]
  rfl
theorem length_pairsC (xs : List Body) (cs : List Contact) : (pairsC xs cs).length = cs.length := by simp [pairsC]
theorem ix_mem {T : Ty} {xs : List T.El} {i : Nat} (h : i < xs.length) : T.ix xs i ∈ xs := by
  have := ix_get (T := T) h
  exact List.mem_of_getElem? this
theorem contact_ok {xs : List Body} {i : Nat} (h : i < (contactsF xs).length) : 0 ≤ (Ty.ix .contact (contactsF xs) i).A ∧ (Ty.ix .contact (contactsF xs) i).A < xs.length ∧ 0 ≤ (Ty.ix .contact (contactsF xs) i).B ∧ (Ty.ix .contact (contactsF xs) i).B < xs.length ∧ (Ty.ix .contact (contactsF xs) i).A < (Ty.ix .contact (contactsF xs) i).B := by
  obtain ⟨a, b, h1, h2, h3, _⟩ := mem_contactsF (ix_mem (T := .contact) h)
  rw [h3]
  dsimp only
  omega
def LSl9p  : LS where
  S := List Body × Unit × List Pair × List Contact × Int
  live := [(0, [none]), (3, [some .pair]), (4, [some .contact]), (5, [none])]
  shape := fun s => ([.vec 0, .vec 1, .vec 2, .int .i64 s.2.2.2.2], [(false, .vec .body s.1), (true, .vec .pair s.2.2.1), (true, .vec .contact s.2.2.2.1)])
  get := fun v h => match v, h with
    | [.vec 0, .vec 1, .vec 2, .int .i64 i], [(false, .vec .body xs), (true, .vec .pair out), (true, .vec .contact cs)] => some (xs, (), out, cs, i)
    | _, _ => none
  inv := fun s0 s => Holds (s.1 = s0.1 ∧ s.2.2.2.1 = s0.2.2.2.1 ∧ 0 ≤ s.2.2.2.2 ∧ s.2.2.2.2 ≤ s0.2.2.2.1.length ∧ s.2.2.1 ++ pairsC s0.1 (s0.2.2.2.1.drop s.2.2.2.2.toNat) = pairsC s0.1 s0.2.2.2.1)
  mu := fun s => ((s.2.2.2.1.length : Int) - s.2.2.2.2).toNat
  ok := by
    intro v h s hg
    try dsimp only at hg
    split at hg <;> cases hg
    rfl

def L_l9p : Loops := fun n => match n with
  | 4 => some LSl9p
  | _ => none
noncomputable def fs_l9Pairs : Fs := ⟨[], fun args H => match args, H with
  | [.vec 0], [(false, .vec .body xs)] => some ((some (bodiesOk xs = true)), .vec 1, [(false, .vec .body xs), (true, .vec .pair (pairsC xs (contactsF xs)))])
  | _, _ => none⟩

theorem vc_l9Pairs (xs : List Body) (Q : SV → List Ent → Prop) :
    fnVC tt (look [(96, fs_l7Contacts)]) (L_l9p) Tryz.f76 [.vec 0] [(false, .vec .body xs)] Q =
    (let w_ := IntKind.wrap IntKind.i64; let n_ := Int.toNat; bodiesOk xs = true ∧ Holds (xs = xs ∧ contactsF xs = contactsF xs ∧ (0 : Int) ≤ (0 : Int) ∧ (0 : Int) ≤ (↑(List.length (contactsF xs)) : Int) ∧ [] ++ pairsC xs (List.drop (n_ (0 : Int)) (contactsF xs)) = pairsC xs (contactsF xs)) ∧ ∀ (y1 : List Body × Unit × List Pair × List Contact × Int), let y1f0_ := Prod.fst y1; let y1s1_ := Prod.snd y1; let y1f2_ := Prod.fst (Prod.snd (Prod.snd y1)); let y1s3_ := Prod.snd (Prod.snd (Prod.snd y1)); let y1f3_ := Prod.fst (Prod.snd (Prod.snd (Prod.snd y1))); let y1s4_ := Prod.snd (Prod.snd (Prod.snd (Prod.snd y1))); let A3_ := (↑(List.length y1f3_) : Int); let A2_ := (Ty.ix Ty.contact y1f3_ (n_ y1s4_)); Holds (Prod.fst y1 = xs ∧ y1f3_ = contactsF xs ∧ (0 : Int) ≤ y1s4_ ∧ y1s4_ ≤ (↑(List.length (contactsF xs)) : Int) ∧ y1f2_ ++ pairsC xs (List.drop (n_ y1s4_) (contactsF xs)) = pairsC xs (contactsF xs)) → ifB (decide (Prod.snd y1s3_ < A3_)) (((0 : Int) ≤ y1s4_ ∧ y1s4_ < A3_) ∧ ((0 : Int) ≤ Contact.A A2_ ∧ Contact.A A2_ < (↑(List.length y1f0_) : Int)) ∧ ((0 : Int) ≤ y1s4_ ∧ y1s4_ < A3_) ∧ ((0 : Int) ≤ Contact.B A2_ ∧ Contact.B A2_ < (↑(List.length y1f0_) : Int)) ∧ (List.length y1f2_ + List.length [Pair.mk (Body.Id (Ty.ix Ty.body y1f0_ (n_ (Contact.A A2_)))) (Body.Id (Ty.ix Ty.body y1f0_ (n_ (Contact.B A2_))))]) * (16 : Nat) ≤ room ∧ Holds (Prod.fst y1 = xs ∧ y1f3_ = contactsF xs ∧ (0 : Int) ≤ w_ (Prod.snd y1s3_ + (1 : Int)) ∧ w_ (Prod.snd y1s3_ + (1 : Int)) ≤ (↑(List.length (contactsF xs)) : Int) ∧ y1f2_ ++ [Pair.mk (Body.Id (Ty.ix Ty.body y1f0_ (n_ (Contact.A A2_)))) (Body.Id (Ty.ix Ty.body y1f0_ (n_ (Contact.B A2_))))] ++ pairsC xs (List.drop (n_ (w_ (Prod.snd y1s3_ + (1 : Int)))) (contactsF xs)) = pairsC xs (contactsF xs)) ∧ n_ (A3_ - w_ (Prod.snd y1s3_ + (1 : Int))) < n_ (A3_ - y1s4_)) (Q (SV.vec (1 : Nat)) [(false, Blk.vec Ty.body y1f0_), (true, Blk.vec Ty.pair y1f2_)])) := by kernel_rfl

theorem ok_l9Pairs : FsOk Tryz.prog 76 fs_l9Pairs := fsOk_of tt_ok (tabFs_cons ok_l7Contacts tabFs_nil) mixed Tryz.func76 (by kernel_rfl) (by kernel_rfl) (by
    intro args LL p r HH h hp
    unfold fs_l9Pairs at h
    dsimp only at h
    split at h
    case h_2 => cases h
    rename_i xs
    simp only [Option.some.injEq, Prod.mk.injEq] at h
    obtain ⟨rfl, rfl, rfl⟩ := h
    refine ⟨by simp [Form, stays], (L_l9p), ?_⟩
    rw [vc_l9Pairs]
    try dsimp only
    have hok := hp _ rfl
    have hl := bodiesOk_len hok
    have hq := length_contactsF hl
    refine ⟨hok, ⟨(by trivial), (by trivial), by omega, by omega, (by trivial)⟩, ?_⟩
    rintro ⟨xs', u, out, cs, i⟩ ⟨h⟩
    dsimp only at h ⊢
    obtain ⟨rfl, rfl, i0, i1, i2⟩ := h
    have hs2 := congrArg List.length i2
    rw [List.length_append, length_pairsC, length_pairsC, List.length_drop] at hs2
    refine ifB_of (fun c3 => ?_) (fun c3 => ?_)
    · have c3 := of_decide_eq_true c3
      have e1 : (i + 1).toNat = i.toNat + 1 := by omega
      have w : IntKind.i64.wrap (i + 1) = i + 1 := wrap_small (by omega) (by omega)
      have hi : i.toNat < (contactsF xs').length := by omega
      rw [pairsC_drop hi] at i2
      rw [w, e1]
      have hc := contact_ok hi
      refine ⟨⟨i0, c3⟩, ⟨hc.1, hc.2.1⟩, ⟨i0, c3⟩, ⟨hc.2.2.1, hc.2.2.2.1⟩, by simp only [room, List.length_singleton]; omega, ⟨(by trivial), (by trivial), by omega, by omega, ?_⟩, by omega⟩
      rw [← i2, List.append_assoc]
      rfl
    · have c3 := of_decide_eq_false c3
      rw [drop_end (by omega)] at i2
      rw [← i2]
      simp [pairsC])

def LSi9p  : LS where
  S := List Body × Unit × List Pair × List Contact × Int × Int
  live := [(0, [none]), (3, [some .pair]), (7, [some .contact]), (8, [none]), (9, [none])]
  shape := fun s => ([.vec 0, .vec 1, .vec 2, .int .i64 s.2.2.2.2.1, .int .i64 s.2.2.2.2.2], [(false, .vec .body s.1), (true, .vec .pair s.2.2.1), (true, .vec .contact s.2.2.2.1)])
  get := fun v h => match v, h with
    | [.vec 0, .vec 1, .vec 2, .int .i64 n, .int .i64 i], [(false, .vec .body xs), (true, .vec .pair out), (true, .vec .contact cs)] => some (xs, (), out, cs, n, i)
    | _, _ => none
  inv := fun s0 s => Holds (s.1 = s0.1 ∧ s.2.2.2.1 = s0.2.2.2.1 ∧ s.2.2.2.2.1 = s0.2.2.2.1.length ∧ 0 ≤ s.2.2.2.2.2 ∧ s.2.2.2.2.2 ≤ s0.2.2.2.1.length ∧ s.2.2.1 ++ pairsC s0.1 (s0.2.2.2.1.drop s.2.2.2.2.2.toNat) = pairsC s0.1 s0.2.2.2.1)
  mu := fun s => ((s.2.2.2.1.length : Int) - s.2.2.2.2.2).toNat
  ok := by
    intro v h s hg
    try dsimp only at hg
    split at hg <;> cases hg
    rfl

def L_i9p : Loops := fun n => match n with
  | 3 => some LSi9p
  | _ => none
theorem contact_ok' {xs : List Body} {i : Nat} (h : i < (contactsOf xs).length) : 0 ≤ (Ty.ix .contact (contactsOf xs) i).A ∧ (Ty.ix .contact (contactsOf xs) i).A < xs.length ∧ 0 ≤ (Ty.ix .contact (contactsOf xs) i).B ∧ (Ty.ix .contact (contactsOf xs) i).B < xs.length ∧ (Ty.ix .contact (contactsOf xs) i).A < (Ty.ix .contact (contactsOf xs) i).B := by
  unfold contactsOf at h ⊢
  cases q : bodiesOk xs with
  | true => rw [q] at h; exact contact_ok h
  | false => rw [q] at h; simp at h
noncomputable def fs_implStepPairs : Fs := ⟨[], fun args H => match args, H with
  | [.vec 0], [(false, .vec .body xs)] => some ((some (xs.length ≤ 1048576)), .vec 1, [(false, .vec .body xs), (true, .vec .pair (stepPairs xs))])
  | _, _ => none⟩

theorem vc_implStepPairs (xs : List Body) (Q : SV → List Ent → Prop) :
    fnVC tt (look [(21, fs_implContacts)]) (L_i9p) Tryz.f38 [.vec 0] [(false, .vec .body xs)] Q =
    (let w_ := IntKind.wrap IntKind.i64; let n_ := Int.toNat; List.length xs ≤ (1048576 : Nat) ∧ Holds (xs = xs ∧ contactsOf xs = contactsOf xs ∧ (↑(List.length (contactsOf xs)) : Int) = (↑(List.length (contactsOf xs)) : Int) ∧ (0 : Int) ≤ (0 : Int) ∧ (0 : Int) ≤ (↑(List.length (contactsOf xs)) : Int) ∧ [] ++ pairsC xs (List.drop (n_ (0 : Int)) (contactsOf xs)) = pairsC xs (contactsOf xs)) ∧ ∀ (y1 : List Body × Unit × List Pair × List Contact × Int × Int), let y1f0_ := Prod.fst y1; let y1s1_ := Prod.snd y1; let y1f2_ := Prod.fst (Prod.snd (Prod.snd y1)); let y1f3_ := Prod.fst (Prod.snd (Prod.snd (Prod.snd y1))); let y1s4_ := Prod.snd (Prod.snd (Prod.snd (Prod.snd y1))); let y1f4_ := Prod.fst (Prod.snd (Prod.snd (Prod.snd (Prod.snd y1)))); let y1s5_ := Prod.snd (Prod.snd (Prod.snd (Prod.snd (Prod.snd y1)))); let A3_ := (↑(List.length (contactsOf xs)) : Int); let A2_ := (Ty.ix Ty.contact y1f3_ (n_ y1s5_)); Holds (Prod.fst y1 = xs ∧ y1f3_ = contactsOf xs ∧ y1f4_ = A3_ ∧ (0 : Int) ≤ y1s5_ ∧ y1s5_ ≤ A3_ ∧ y1f2_ ++ pairsC xs (List.drop (n_ y1s5_) (contactsOf xs)) = pairsC xs (contactsOf xs)) → ifB (decide (Prod.snd y1s4_ < y1f4_)) (((0 : Int) ≤ y1s5_ ∧ y1s5_ < (↑(List.length y1f3_) : Int)) ∧ ((0 : Int) ≤ Contact.A A2_ ∧ Contact.A A2_ < (↑(List.length y1f0_) : Int)) ∧ ((0 : Int) ≤ Contact.B A2_ ∧ Contact.B A2_ < (↑(List.length y1f0_) : Int)) ∧ (List.length y1f2_ + List.length [Pair.mk (Body.Id (Ty.ix Ty.body y1f0_ (n_ (Contact.A A2_)))) (Body.Id (Ty.ix Ty.body y1f0_ (n_ (Contact.B A2_))))]) * (16 : Nat) ≤ room ∧ Holds (Prod.fst y1 = xs ∧ y1f3_ = contactsOf xs ∧ y1f4_ = A3_ ∧ (0 : Int) ≤ w_ (Prod.snd y1s4_ + (1 : Int)) ∧ w_ (Prod.snd y1s4_ + (1 : Int)) ≤ A3_ ∧ y1f2_ ++ [Pair.mk (Body.Id (Ty.ix Ty.body y1f0_ (n_ (Contact.A A2_)))) (Body.Id (Ty.ix Ty.body y1f0_ (n_ (Contact.B A2_))))] ++ pairsC xs (List.drop (n_ (w_ (Prod.snd y1s4_ + (1 : Int)))) (contactsOf xs)) = pairsC xs (contactsOf xs)) ∧ n_ ((↑(List.length y1f3_) : Int) - w_ (Prod.snd y1s4_ + (1 : Int))) < n_ ((↑(List.length y1f3_) : Int) - y1s5_)) (Q (SV.vec (1 : Nat)) [(false, Blk.vec Ty.body y1f0_), (true, Blk.vec Ty.pair y1f2_)])) := by kernel_rfl

theorem ok_implStepPairs : FsOk Tryz.prog 38 fs_implStepPairs := fsOk_of tt_ok (tabFs_cons ok_implContacts tabFs_nil) mixed Tryz.func38 (by kernel_rfl) (by kernel_rfl) (by
    intro args LL p r HH h hp
    unfold fs_implStepPairs at h
    dsimp only at h
    split at h
    case h_2 => cases h
    rename_i xs
    simp only [Option.some.injEq, Prod.mk.injEq] at h
    obtain ⟨rfl, rfl, rfl⟩ := h
    refine ⟨by simp [Form, stays], (L_i9p), ?_⟩
    rw [vc_implStepPairs]
    try dsimp only
    have hb := hp _ rfl
    have hq := length_contactsOf xs
    refine ⟨hb, ⟨(by trivial), (by trivial), (by trivial), by omega, by omega, (by trivial)⟩, ?_⟩
    rintro ⟨xs', u, out, cs, n, i⟩ ⟨h⟩
    dsimp only at h ⊢
    obtain ⟨rfl, rfl, rfl, i0, i1, i2⟩ := h
    have hs2 := congrArg List.length i2
    rw [List.length_append, length_pairsC, length_pairsC, List.length_drop] at hs2
    refine ifB_of (fun c3 => ?_) (fun c3 => ?_)
    · have c3 := of_decide_eq_true c3
      have e1 : (i + 1).toNat = i.toNat + 1 := by omega
      have w : IntKind.i64.wrap (i + 1) = i + 1 := wrap_small (by omega) (by omega)
      have hi : i.toNat < (contactsOf xs').length := by omega
      rw [pairsC_drop hi] at i2
      rw [w, e1]
      have hc := contact_ok' hi
      refine ⟨⟨i0, c3⟩, ⟨hc.1, hc.2.1⟩, ⟨hc.2.2.1, hc.2.2.2.1⟩, by simp only [room, List.length_singleton]; omega, ⟨(by trivial), (by trivial), (by trivial), by omega, by omega, ?_⟩, by omega⟩
      rw [← i2, List.append_assoc]
      rfl
    · have c3 := of_decide_eq_false c3
      rw [drop_end (by omega)] at i2
      unfold stepPairs
      rw [← i2]
      simp [pairsC])

theorem length_stepPairs (xs : List Body) : (stepPairs xs).length ≤ 144 := by
  unfold stepPairs
  rw [length_pairsC]
  exact length_contactsOf xs
end Go.Proofs.YtnahfbjdicjdpaaGreat.Sym

namespace Go.Proofs.YtnahfbjdicjdpaaGreat.Sym
open Go
set_option linter.unusedVariables false
set_option linter.unusedSimpArgs false

theorem ofL_over {U : Ty} {zs ts : List U.El} {R : List Ent} :
    updH (ofL ((true, .vec U zs) :: R)) [(0, true, .dead), (R.length + 1, true, .vec U ts)] = ofL ((true, .dead) :: (R ++ [(true, .vec U ts)])) := by
  funext k
  rw [updH_two]
  by_cases h0 : k = 0
  · subst h0; simp [ofL]
  · rw [if_neg h0]
    obtain ⟨m, rfl⟩ : ∃ m, k = m + 1 := ⟨k - 1, by omega⟩
    by_cases h1 : m = R.length
    · subst h1; simp [ofL]
    · rw [if_neg (by omega)]
      simp only [ofL, List.getElem?_cons_succ]
      by_cases h2 : m < R.length
      · rw [List.getElem?_append_left h2]
      · rw [List.getElem?_eq_none (by omega), List.getElem?_eq_none (by simp; omega)]

theorem fsem_retake {P : Program} {f : Nat} {args : List SV} {L R : List Ent} {U : Ty} {zs : List U.El} {n : Nat} (h : FSem P f args L (.sl 0 0 n) ((true, .vec U zs) :: R)) :
    FSem P f args L (.vec (R.length + 1)) ((true, .dead) :: (R ++ [(true, .vec U (zs.take n))])) := by
  refine ⟨?_, ?_, ?_, ?_, ?_⟩
  · have := h.len
    simp only [List.length_cons, List.length_append, List.length_nil] at this ⊢
    omega
  · intro k b hk
    have := h.keep k b hk
    cases k with
    | zero => simp at this
    | succ k =>
      simp only [List.getElem?_cons_succ] at this ⊢
      rw [List.getElem?_append_left (List.getElem?_eq_some_iff.1 this).1]
      exact this
  · intro k b hk
    obtain ⟨b', h1, h2⟩ := h.wrt k b hk
    cases k with
    | zero => exact ⟨.dead, rfl, by cases b <;> trivial⟩
    | succ k =>
      simp only [List.getElem?_cons_succ] at h1 ⊢
      refine ⟨b', ?_, h2⟩
      rw [List.getElem?_append_left (List.getElem?_eq_some_iff.1 h1).1]
      exact h1
  · intro k e hk he
    cases k with
    | zero => simp at he; subst he; rfl
    | succ k =>
      simp only [List.getElem?_cons_succ] at he
      by_cases hlt : k < R.length
      · rw [List.getElem?_append_left hlt] at he
        exact h.new (k + 1) e hk (by simpa using he)
      · rw [List.getElem?_append_right (by omega)] at he
        have := List.mem_of_getElem? he
        simp at this
        subst this
        rfl
  · intro wr env w us hh hnew hc
    refine (h.run wr env w us hh hnew hc).mono ?_
    rintro e w' ⟨v, env', rfl, hsame, hr, hv, hfr⟩
    have h0 : ofL ((true, Blk.vec U zs) :: R) 0 = some (true, .vec U zs) := rfl
    simp only [conc, conc2, concC, h0] at hv
    obtain ⟨hn, x, rfl, hx⟩ := hv
    obtain ⟨hcap, hrest⟩ := hr.blk 0 true _ h0
    have hno : ofL ((true, Blk.vec U zs) :: R) (R.length + 1) = none := by simp [ofL]
    have hlen : (zs.take n).length = n := by simp; omega
    have hov := hr.over (w' := w') (zs := zs.take n) h0 hno (x := (x, (env' 0).2)) (fun _ _ _ => rfl) (fun k hk => hnew k (Nat.le_trans hfr.size hk)) (fun H' => by
        refine ⟨by simp [envSet]; omega, ?_⟩
        rcases hrest with hz | ⟨b, off, E, vs, fz, hb1, hheap, hsize, hlies, hfz⟩
        · exact .inl (by simp [envSet, hz])
        · by_cases hz : (env' 0).2 = 0
          · exact .inl (by simp [envSet, hz])
          right
          rcases hx with hx | hx
          · exact absurd hx hz
          rw [hb1] at hx
          simp only [Option.map_some, Nat.zero_mul, add_addr, Nat.add_zero] at hx
          refine ⟨b, off, E, vs, fz, by simp [envSet, hx], hheap, by simpa [envSet] using hsize, ?_, hfz⟩
          intro e he o ho
          rw [hlen] at he
          have := hlies e (by omega) o ho
          have hix : U.ix (zs.take n) e = U.ix zs e := by simp [Ty.ix, List.getD, List.getElem?_take, he]
          rw [hix]
          exact this) (fun y hy => by
        left
        simp only [own, envSet, if_true] at hy ⊢
        split at hy
        · cases hy
        · rename_i hz
          rw [if_neg hz]
          rcases hx with hx | hx
          · exact absurd hx hz
          · rw [hx] at hy
            cases hb : (env' 0).1 with
            | none => rw [hb] at hy; simp at hy
            | some q => rw [hb] at hy; simp [Addr.add] at hy ⊢; exact hy)
    rw [ofL_over] at hov
    refine ⟨_, _, rfl, ?_, hov.2, ?_, hfr⟩
    · intro j hj
      have hl := h.len
      simp only [List.length_cons] at hl
      simp only [envSet]
      rw [if_neg (by omega)]
      exact hsame j hj
    · have : ofL ((true, Blk.dead) :: (R ++ [(true, Blk.vec U (zs.take n))])) (R.length + 1) = some (true, .vec U (zs.take n)) := by simp [ofL]
      simp only [conc, conc2, concC, this, hlen, envSet, if_true, Nat.sub_zero]

theorem fsOk_retake {P : Program} {f : Nat} {fs fs' : Fs} (h : FsOk P f fs) (hr : ∀ args L p r L', fs'.ev args L = some (p, r, L') → ∃ (U : Ty) (zs : List U.El) (R : List Ent) (n : Nat),
    fs.ev args L = some (p, .sl 0 0 n, (true, .vec U zs) :: R) ∧ r = .vec (R.length + 1) ∧ L' = (true, .dead) :: (R ++ [(true, .vec U (zs.take n))])) : FsOk P f fs' :=
  ⟨h.enter, fun args L p r L' he hp => by
    obtain ⟨U, zs, R, n, h1, rfl, rfl⟩ := hr args L p r L' he
    exact fsem_retake (h.sem args L p _ _ h1 hp)⟩

end Go.Proofs.YtnahfbjdicjdpaaGreat.Sym

namespace Go.Proofs.YtnahfbjdicjdpaaGreat.Sym
open Go
set_option linter.unusedVariables false
set_option linter.unusedSimpArgs false
set_option maxRecDepth 100000

/-- How many at the beginning of a list have something. -/
def pref {α : Type} (p : α → Bool) (xs : List α) : Nat := (xs.takeWhile p).length
theorem pref_eq {T : Ty} {p : T.El → Bool} : ∀ {xs : List T.El} {k : Nat}, k ≤ xs.length → (∀ e, e < k → p (T.ix xs e) = true) → (k < xs.length → p (T.ix xs k) = false) → pref p xs = k
  | [], k, h, _, _ => by simp at h; subst h; rfl
  | x :: r, 0, _, _, h2 => by
    have h3 : p x = false := h2 (by simp)
    simp [pref, List.takeWhile, h3]
  | x :: r, k + 1, h, h1, h2 => by
    have hx : p x = true := h1 0 (by omega)
    have h3 := pref_eq (xs := r) (k := k) (by simpa using h) (fun e he => h1 (e + 1) (by omega)) (fun hk => h2 (by simpa using hk))
    simp only [pref] at h3
    simp [pref, List.takeWhile, hx, h3]
theorem pref_spec {T : Ty} {p : T.El → Bool} : ∀ (xs : List T.El), pref p xs ≤ xs.length ∧ (∀ e, e < pref p xs → p (T.ix xs e) = true) ∧ (pref p xs < xs.length → p (T.ix xs (pref p xs)) = false)
  | [] => ⟨by simp [pref], fun e h => by simp [pref] at h, fun h => by simp at h⟩
  | x :: r => by
    cases hx : p x with
    | false =>
      have e : pref p (x :: r) = 0 := by simp [pref, List.takeWhile, hx]
      rw [e]
      exact ⟨by simp, fun e h => by omega, fun _ => hx⟩
    | true =>
      obtain ⟨h1, h2, h3⟩ := pref_spec r
      have e : pref p (x :: r) = pref p r + 1 := by simp [pref, List.takeWhile, hx]
      rw [e]
      refine ⟨by simpa using h1, fun e h => ?_, fun h => h3 (by simpa using h)⟩
      cases e with
      | zero => exact hx
      | succ e => exact h2 e (by omega)

end Go.Proofs.YtnahfbjdicjdpaaGreat.Sym

namespace Go.Proofs.YtnahfbjdicjdpaaGreat.Sym
open Go
set_option linter.unusedVariables false
set_option linter.unusedSimpArgs false
set_option maxRecDepth 100000

theorem filter_drop {T : Ty} (p : T.El → Bool) {xs : List T.El} {i : Nat} (h : i < xs.length) : (xs.drop i).filter p = (bif p (T.ix xs i) then [T.ix xs i] else []) ++ (xs.drop (i + 1)).filter p := by
  rw [drop_ix (T := T) h]
  cases q : p (T.ix xs i) <;> simp [List.filter, q]
def eqP (a b : Pair) : Bool := a.A == b.A && a.B == b.B
theorem eqP_iff {a b : Pair} : eqP a b = true ↔ a = b := by
  obtain ⟨a1, a2⟩ := a
  obtain ⟨b1, b2⟩ := b
  simp [eqP]
def hasP (ps : List Pair) (p : Pair) : Bool := ps.any fun q => eqP q p
theorem hasP_true {ps : List Pair} {p : Pair} : hasP ps p = true ↔ p ∈ ps := by
  simp only [hasP, List.any_eq_true, eqP_iff]
  exact ⟨fun ⟨x, h, e⟩ => e ▸ h, fun h => ⟨p, h, rfl⟩⟩
theorem hasP_false {ps : List Pair} {p : Pair} (h : ∀ e, e < ps.length → eqP (Ty.ix .pair ps e) p = false) : hasP ps p = false := by
  cases q : hasP ps p with
  | false => rfl
  | true =>
    have hm := hasP_true.1 q
    obtain ⟨i, hi, e⟩ := List.mem_iff_getElem.1 hm
    have := h i hi
    rw [ix_eq (T := .pair) (List.getElem?_eq_getElem hi), e, eqP_iff.2 rfl] at this
    cases this
theorem hasP_at {ps : List Pair} {p : Pair} {i : Nat} (hi : i < ps.length) (h : eqP (Ty.ix .pair ps i) p = true) : hasP ps p = true := by
  refine hasP_true.2 ?_
  rw [← eqP_iff.1 h]
  exact List.mem_of_getElem? (ix_get (T := .pair) hi)
def newF (was now : List Pair) : List Pair := now.filter fun p => !hasP was p
theorem newF_drop {was now : List Pair} {i : Nat} (h : i < now.length) : newF was (now.drop i) = (bif !hasP was (Ty.ix .pair now i) then [Ty.ix .pair now i] else []) ++ newF was (now.drop (i + 1)) := filter_drop (T := .pair) _ h
theorem length_newF (was now : List Pair) : (newF was now).length ≤ now.length := List.length_filter_le _ _
def LSl4In  : LS where
  S := List Pair × Unit × Pair × Int
  live := [(0, [none]), (3, [none]), (5, [none])]
  shape := fun s => ([.vec 0, .ptr 1 0 0, .int .i64 s.2.2.2], [(false, .vec .pair s.1), (true, .box [.int .i64 s.2.2.1.A, .int .i64 s.2.2.1.B])])
  get := fun v h => match v, h with
    | [.vec 0, .ptr 1 0 0, .int .i64 i], [(false, .vec .pair ps), (true, .box [.int .i64 pA, .int .i64 pB])] => some (ps, (), (Pair.mk pA pB), i)
    | _, _ => none
  inv := fun s0 s => Holds (s.1 = s0.1 ∧ s.2.2.1 = s0.2.2.1 ∧ 0 ≤ s.2.2.2 ∧ s.2.2.2 ≤ s0.1.length ∧ (∀ e, e < s.2.2.2.toNat → eqP (Ty.ix .pair s0.1 e) s0.2.2.1 = false))
  mu := fun s => ((s.1.length : Int) - s.2.2.2).toNat
  ok := by
    intro v h s hg
    try dsimp only at hg
    split at hg <;> cases hg
    rfl

def L_l4In : Loops := fun n => match n with
  | 2 => some LSl4In
  | _ => none
noncomputable def fs_l4In : Fs := ⟨[], fun args H => match args, H with
  | [.vec 0, .agg [.int .i64 pA, .int .i64 pB]], [(false, .vec .pair ps)] => some ((some (ps.length ≤ 1048576)), .bool (hasP ps (Pair.mk pA pB)), [(false, .vec .pair ps)])
  | _, _ => none⟩

theorem vc_l4In (ps : List Pair) (pA : Int) (pB : Int) (Q : SV → List Ent → Prop) :
    fnVC tt (look []) (L_l4In) Tryz.f118 [.vec 0, .agg [.int .i64 pA, .int .i64 pB]] [(false, .vec .pair ps)] Q =
    (Holds (ps = ps ∧ Pair.mk pA pB = Pair.mk pA pB ∧ (0 : Int) ≤ (0 : Int) ∧ (0 : Int) ≤ (↑(List.length ps) : Int) ∧ ∀ (e : Nat), e < Int.toNat (0 : Int) → eqP (Ty.ix Ty.pair ps e) (Pair.mk pA pB) = false) ∧ ∀ (x : List Pair × Unit × Pair × Int), Holds (Prod.fst x = ps ∧ Prod.fst (Prod.snd (Prod.snd x)) = Pair.mk pA pB ∧ (0 : Int) ≤ Prod.snd (Prod.snd (Prod.snd x)) ∧ Prod.snd (Prod.snd (Prod.snd x)) ≤ (↑(List.length ps) : Int) ∧ ∀ (e : Nat), e < Int.toNat (Prod.snd (Prod.snd (Prod.snd x))) → eqP (Ty.ix Ty.pair ps e) (Pair.mk pA pB) = false) → ifB (decide (Prod.snd (Prod.snd (Prod.snd x)) < (↑(List.length (Prod.fst x)) : Int))) (((0 : Int) ≤ Prod.snd (Prod.snd (Prod.snd x)) ∧ Prod.snd (Prod.snd (Prod.snd x)) < (↑(List.length (Prod.fst x)) : Int)) ∧ ifB (Pair.A (Ty.ix Ty.pair (Prod.fst x) (Int.toNat (Prod.snd (Prod.snd (Prod.snd x))))) == Pair.A (Prod.fst (Prod.snd (Prod.snd x))) && Pair.B (Ty.ix Ty.pair (Prod.fst x) (Int.toNat (Prod.snd (Prod.snd (Prod.snd x))))) == Pair.B (Prod.fst (Prod.snd (Prod.snd x)))) (Q (SV.bool true) [(false, Blk.vec Ty.pair (Prod.fst x))]) (Holds (Prod.fst x = ps ∧ Prod.fst (Prod.snd (Prod.snd x)) = Pair.mk pA pB ∧ (0 : Int) ≤ IntKind.wrap IntKind.i64 (Prod.snd (Prod.snd (Prod.snd x)) + (1 : Int)) ∧ IntKind.wrap IntKind.i64 (Prod.snd (Prod.snd (Prod.snd x)) + (1 : Int)) ≤ (↑(List.length ps) : Int) ∧ ∀ (e : Nat), e < Int.toNat (IntKind.wrap IntKind.i64 (Prod.snd (Prod.snd (Prod.snd x)) + (1 : Int))) → eqP (Ty.ix Ty.pair ps e) (Pair.mk pA pB) = false) ∧ Int.toNat ((↑(List.length (Prod.fst x)) : Int) - IntKind.wrap IntKind.i64 (Prod.snd (Prod.snd (Prod.snd x)) + (1 : Int))) < Int.toNat ((↑(List.length (Prod.fst x)) : Int) - Prod.snd (Prod.snd (Prod.snd x))))) (Q (SV.bool false) [(false, Blk.vec Ty.pair (Prod.fst x))])) := by kernel_rfl

theorem ok_l4In : FsOk Tryz.prog 118 fs_l4In := fsOk_of tt_ok tabFs_nil mixed Tryz.func118 (by kernel_rfl) (by kernel_rfl) (by
    intro args LL p r HH h hp
    unfold fs_l4In at h
    dsimp only at h
    split at h
    case h_2 => cases h
    rename_i pA pB ps
    simp only [Option.some.injEq, Prod.mk.injEq] at h
    obtain ⟨rfl, rfl, rfl⟩ := h
    refine ⟨by simp [Form, stays], (L_l4In), ?_⟩
    rw [vc_l4In]
    try dsimp only
    have hb := hp _ rfl
    refine ⟨⟨(by trivial), (by trivial), by omega, by omega, fun e he => absurd he (by simp)⟩, ?_⟩
    rintro ⟨ps', u, p', i⟩ ⟨h⟩
    dsimp only at h ⊢
    obtain ⟨rfl, rfl, i0, i1, i2⟩ := h
    refine ifB_of (fun c => ?_) (fun c => ?_)
    · have c := of_decide_eq_true c
      refine ⟨⟨i0, c⟩, ifB_of (fun c2 => ?_) (fun c2 => ?_)⟩
      · exact ⟨by rw [hasP_at (by omega) c2], (by trivial)⟩
      · have w : IntKind.i64.wrap (i + 1) = i + 1 := wrap_small (by omega) (by omega)
        rw [w]
        refine ⟨⟨(by trivial), (by trivial), by omega, by omega, fun e he => ?_⟩, by omega⟩
        by_cases q : e = i.toNat
        · rw [q]; exact c2
        · exact i2 e (by omega)
    · have c := of_decide_eq_false c
      exact ⟨by rw [hasP_false fun e he => i2 e (by omega)], (by trivial)⟩)

end Go.Proofs.YtnahfbjdicjdpaaGreat.Sym

namespace Go.Proofs.YtnahfbjdicjdpaaGreat.Sym
open Go
set_option linter.unusedVariables false
set_option linter.unusedSimpArgs false
set_option maxRecDepth 100000

def atB (xs : List Body) (id : Int) : Nat := pref (fun y => decide (y.Id < id)) xs
def hasB (xs : List Body) (id : Int) : Bool := decide (atB xs id < xs.length) && (Ty.ix .body xs (atB xs id)).Id == id
theorem atB_le (xs : List Body) (id : Int) : atB xs id ≤ xs.length := (pref_spec (T := .body) xs).1
def LSl10At  : LS where
  S := List Body × Unit × Int × Int
  live := [(0, [none]), (1, [none]), (6, [none])]
  shape := fun s => ([.vec 0, .int .i64 s.2.2.1, .int .i64 s.2.2.2], [(false, .vec .body s.1)])
  get := fun v h => match v, h with
    | [.vec 0, .int .i64 id, .int .i64 k], [(false, .vec .body xs)] => some (xs, (), id, k)
    | _, _ => none
  inv := fun s0 s => Holds (s.1 = s0.1 ∧ s.2.2.1 = s0.2.2.1 ∧ 0 ≤ s.2.2.2 ∧ s.2.2.2 ≤ s0.1.length ∧ (∀ e, e < s.2.2.2.toNat → decide ((Ty.ix .body s0.1 e).Id < s0.2.2.1) = true))
  mu := fun s => ((s.1.length : Int) - s.2.2.2).toNat
  ok := by
    intro v h s hg
    try dsimp only at hg
    split at hg <;> cases hg
    rfl

def L_l10At : Loops := fun n => match n with
  | 2 => some LSl10At
  | _ => none
noncomputable def fs_l10At : Fs := ⟨[], fun args H => match args, H with
  | [.vec 0, .int .i64 id], [(false, .vec .body xs)] => some ((some (xs.length ≤ 4611686018427387904)), .tup [.int .i64 (atB xs id), .bool (hasB xs id)], [(false, .vec .body xs)])
  | _, _ => none⟩

theorem vc_l10At (id : Int) (xs : List Body) (Q : SV → List Ent → Prop) :
    fnVC tt (look []) (L_l10At) Tryz.f78 [.vec 0, .int .i64 id] [(false, .vec .body xs)] Q =
    (Holds (xs = xs ∧ id = id ∧ (0 : Int) ≤ (0 : Int) ∧ (0 : Int) ≤ (↑(List.length xs) : Int) ∧ ∀ (e : Nat), e < Int.toNat (0 : Int) → decide (Body.Id (Ty.ix Ty.body xs e) < id) = true) ∧ ∀ (x : List Body × Unit × Int × Int), Holds (Prod.fst x = xs ∧ Prod.fst (Prod.snd (Prod.snd x)) = id ∧ (0 : Int) ≤ Prod.snd (Prod.snd (Prod.snd x)) ∧ Prod.snd (Prod.snd (Prod.snd x)) ≤ (↑(List.length xs) : Int) ∧ ∀ (e : Nat), e < Int.toNat (Prod.snd (Prod.snd (Prod.snd x))) → decide (Body.Id (Ty.ix Ty.body xs e) < id) = true) → ifB (decide (Prod.snd (Prod.snd (Prod.snd x)) < (↑(List.length (Prod.fst x)) : Int))) (((0 : Int) ≤ Prod.snd (Prod.snd (Prod.snd x)) ∧ Prod.snd (Prod.snd (Prod.snd x)) < (↑(List.length (Prod.fst x)) : Int)) ∧ ifB (decide (Body.Id (Ty.ix Ty.body (Prod.fst x) (Int.toNat (Prod.snd (Prod.snd (Prod.snd x))))) < Prod.fst (Prod.snd (Prod.snd x)))) (Holds (Prod.fst x = xs ∧ Prod.fst (Prod.snd (Prod.snd x)) = id ∧ (0 : Int) ≤ IntKind.wrap IntKind.i64 (Prod.snd (Prod.snd (Prod.snd x)) + (1 : Int)) ∧ IntKind.wrap IntKind.i64 (Prod.snd (Prod.snd (Prod.snd x)) + (1 : Int)) ≤ (↑(List.length xs) : Int) ∧ ∀ (e : Nat), e < Int.toNat (IntKind.wrap IntKind.i64 (Prod.snd (Prod.snd (Prod.snd x)) + (1 : Int))) → decide (Body.Id (Ty.ix Ty.body xs e) < id) = true) ∧ Int.toNat ((↑(List.length (Prod.fst x)) : Int) - IntKind.wrap IntKind.i64 (Prod.snd (Prod.snd (Prod.snd x)) + (1 : Int))) < Int.toNat ((↑(List.length (Prod.fst x)) : Int) - Prod.snd (Prod.snd (Prod.snd x)))) (ifB (decide (Prod.snd (Prod.snd (Prod.snd x)) < (↑(List.length (Prod.fst x)) : Int))) (((0 : Int) ≤ Prod.snd (Prod.snd (Prod.snd x)) ∧ Prod.snd (Prod.snd (Prod.snd x)) < (↑(List.length (Prod.fst x)) : Int)) ∧ Q (SV.tup [SV.int IntKind.i64 (Prod.snd (Prod.snd (Prod.snd x))), SV.bool (Body.Id (Ty.ix Ty.body (Prod.fst x) (Int.toNat (Prod.snd (Prod.snd (Prod.snd x))))) == Prod.fst (Prod.snd (Prod.snd x)))]) [(false, Blk.vec Ty.body (Prod.fst x))]) (Q (SV.tup [SV.int IntKind.i64 (Prod.snd (Prod.snd (Prod.snd x))), SV.bool false]) [(false, Blk.vec Ty.body (Prod.fst x))]))) (ifB (decide (Prod.snd (Prod.snd (Prod.snd x)) < (↑(List.length (Prod.fst x)) : Int))) (((0 : Int) ≤ Prod.snd (Prod.snd (Prod.snd x)) ∧ Prod.snd (Prod.snd (Prod.snd x)) < (↑(List.length (Prod.fst x)) : Int)) ∧ Q (SV.tup [SV.int IntKind.i64 (Prod.snd (Prod.snd (Prod.snd x))), SV.bool (Body.Id (Ty.ix Ty.body (Prod.fst x) (Int.toNat (Prod.snd (Prod.snd (Prod.snd x))))) == Prod.fst (Prod.snd (Prod.snd x)))]) [(false, Blk.vec Ty.body (Prod.fst x))]) (Q (SV.tup [SV.int IntKind.i64 (Prod.snd (Prod.snd (Prod.snd x))), SV.bool false]) [(false, Blk.vec Ty.body (Prod.fst x))]))) := by kernel_rfl

theorem ok_l10At : FsOk Tryz.prog 78 fs_l10At := fsOk_of tt_ok tabFs_nil mixed Tryz.func78 (by kernel_rfl) (by kernel_rfl) (by
    intro args LL p r HH h hp
    unfold fs_l10At at h
    dsimp only at h
    split at h
    case h_2 => cases h
    rename_i id xs
    simp only [Option.some.injEq, Prod.mk.injEq] at h
    obtain ⟨rfl, rfl, rfl⟩ := h
    refine ⟨by simp [Form, stays], (L_l10At), ?_⟩
    rw [vc_l10At]
    try dsimp only
    have hb := hp _ rfl
    refine ⟨⟨(by trivial), (by trivial), by omega, by omega, fun e he => absurd he (by simp)⟩, ?_⟩
    rintro ⟨xs', u, id', k⟩ ⟨h⟩
    dsimp only at h ⊢
    obtain ⟨rfl, rfl, h0, h1, h2⟩ := h
    have fin : (k.toNat < xs'.length → decide ((Ty.ix .body xs' k.toNat).Id < id') = false) → atB xs' id' = k.toNat := fun h => pref_eq (T := .body) (by omega) h2 h
    refine ifB_of (fun c => ?_) (fun c => ?_)
    · have hi := of_decide_eq_true c
      refine ⟨⟨h0, hi⟩, ifB_of (fun c2 => ?_) (fun c2 => ?_)⟩
      · have e1 : (k + 1).toNat = k.toNat + 1 := by omega
        simp (disch := omega) only [wrap_small, e1]
        refine ⟨⟨(by trivial), (by trivial), by omega, by omega, fun e he => ?_⟩, by omega⟩
        by_cases q : e = k.toNat
        · rw [q]; exact c2
        · exact h2 e (by omega)
      · have hk := fin fun _ => c2
        refine ifB_of (fun _ => ⟨⟨h0, hi⟩, ?_⟩) (fun c3 => ?_)
        · unfold hasB
          rw [hk]
          have : ((k.toNat : Nat) : Int) = k := by omega
          simp [this, show k.toNat < xs'.length by omega]
        · have := of_decide_eq_false c3
          omega
    · have hi := of_decide_eq_false c
      have hk := fin fun h => by omega
      refine ifB_of (fun c3 => ?_) (fun c3 => ?_)
      · have := of_decide_eq_true c3
        omega
      · unfold hasB
        rw [hk]
        have : ((k.toNat : Nat) : Int) = k := by omega
        simp [this, show ¬ k.toNat < xs'.length by omega])

noncomputable def fs_notAhead : Fs := ⟨[], fun args H => match args, H with
  | [.agg [.int .i64 aI, .int .i64 aK, .int .i64 aW, .int .i64 aH, .int .i64 aX, .int .i64 aY, .int .i64 aU, .int .i64 aV, .int .i64 aM, .int .i64 aB, .int .i64 aR, .int .i64 aQ], .ptr 0 0 0], [(true, .box [.int .i64 id])] => some (none, .bool (decide (aI ≥ id)), [(true, .box [.int .i64 id])])
  | _, _ => none⟩

theorem vc_notAhead (aI : Int) (aK : Int) (aW : Int) (aH : Int) (aX : Int) (aY : Int) (aU : Int) (aV : Int) (aM : Int) (aB : Int) (aR : Int) (aQ : Int) (id : Int) (Q : SV → List Ent → Prop) :
    fnVC tt (look []) L0 Tryz.f119 [.agg [.int .i64 aI, .int .i64 aK, .int .i64 aW, .int .i64 aH, .int .i64 aX, .int .i64 aY, .int .i64 aU, .int .i64 aV, .int .i64 aM, .int .i64 aB, .int .i64 aR, .int .i64 aQ], .ptr 0 0 0] [(true, .box [.int .i64 id])] Q =
    (Q (SV.bool (decide (aI ≥ id))) [(true, Blk.box [SV.int IntKind.i64 id])]) := by kernel_rfl

theorem ok_notAhead : FsOk Tryz.prog 119 fs_notAhead := fsOk_of tt_ok tabFs_nil mixed Tryz.func119 (by kernel_rfl) (by kernel_rfl) (by
    intro args LL p r HH h hp
    unfold fs_notAhead at h
    dsimp only at h
    split at h
    case h_2 => cases h
    rename_i aI aK aW aH aX aY aU aV aM aB aR aQ id
    simp only [Option.some.injEq, Prod.mk.injEq] at h
    obtain ⟨rfl, rfl, rfl⟩ := h
    refine ⟨by simp [Form, stays], L0, ?_⟩
    rw [vc_notAhead]
    try dsimp only
    exact ⟨rfl, rfl⟩)

def LSidxPlace  : LS where
  S := List Body × Int × Unit × Unit × Int × Int
  live := [(0, [none]), (1, [none]), (7, [none]), (8, [none])]
  shape := fun s => ([.vec 0, .fn 119 (some 1), .int .i64 s.2.2.2.2.1, .int .i64 s.2.2.2.2.2], [(false, .vec .body s.1), (true, .box [.int .i64 s.2.1])])
  get := fun v h => match v, h with
    | [.vec 0, .fn 119 (some 1), .int .i64 n, .int .i64 i], [(false, .vec .body xs), (true, .box [.int .i64 id])] => some (xs, id, (), (), n, i)
    | _, _ => none
  inv := fun s0 s => Holds (s.1 = s0.1 ∧ s.2.1 = s0.2.1 ∧ s.2.2.2.2.1 = s0.1.length ∧ 0 ≤ s.2.2.2.2.2 ∧ s.2.2.2.2.2 ≤ s0.1.length ∧ (∀ k, k < s.2.2.2.2.2.toNat → decide ((Ty.ix .body s0.1 k).Id ≥ s0.2.1) = false))
  mu := fun s => ((s.1.length : Int) - s.2.2.2.2.2).toNat
  ok := by
    intro v h s hg
    try dsimp only at hg
    split at hg <;> cases hg
    rfl

def L_idxPlace : Loops := fun n => match n with
  | 2 => some LSidxPlace
  | _ => none
noncomputable def fs_idxPlace : Fs := ⟨[], fun args H => match args, H with
  | [.vec 0, .fn 119 (some 1)], [(false, .vec .body xs), (true, .box [.int .i64 id])] => some ((some (xs.length ≤ 4611686018427387904)), .int .i64 (firstI (fun y : Body => decide (y.Id ≥ id)) xs), [(false, .vec .body xs), (true, .box [.int .i64 id])])
  | _, _ => none⟩

theorem vc_idxPlace (xs : List Body) (id : Int) (Q : SV → List Ent → Prop) :
    fnVC tt (look [(119, fs_notAhead)]) (L_idxPlace) Tryz.f114 [.vec 0, .fn 119 (some 1)] [(false, .vec .body xs), (true, .box [.int .i64 id])] Q =
    (Holds (xs = xs ∧ id = id ∧ (↑(List.length xs) : Int) = (↑(List.length xs) : Int) ∧ (0 : Int) ≤ (0 : Int) ∧ (0 : Int) ≤ (↑(List.length xs) : Int) ∧ ∀ (k : Nat), k < Int.toNat (0 : Int) → decide (Body.Id (Ty.ix Ty.body xs k) ≥ id) = false) ∧ ∀ (x : List Body × Int × Unit × Unit × Int × Int), Holds (Prod.fst x = xs ∧ Prod.fst (Prod.snd x) = id ∧ Prod.fst (Prod.snd (Prod.snd (Prod.snd (Prod.snd x)))) = (↑(List.length xs) : Int) ∧ (0 : Int) ≤ Prod.snd (Prod.snd (Prod.snd (Prod.snd (Prod.snd x)))) ∧ Prod.snd (Prod.snd (Prod.snd (Prod.snd (Prod.snd x)))) ≤ (↑(List.length xs) : Int) ∧ ∀ (k : Nat), k < Int.toNat (Prod.snd (Prod.snd (Prod.snd (Prod.snd (Prod.snd x))))) → decide (Body.Id (Ty.ix Ty.body xs k) ≥ id) = false) → ifB (decide (Prod.snd (Prod.snd (Prod.snd (Prod.snd (Prod.snd x)))) < Prod.fst (Prod.snd (Prod.snd (Prod.snd (Prod.snd x)))))) (((0 : Int) ≤ Prod.snd (Prod.snd (Prod.snd (Prod.snd (Prod.snd x)))) ∧ Prod.snd (Prod.snd (Prod.snd (Prod.snd (Prod.snd x)))) < (↑(List.length (Prod.fst x)) : Int)) ∧ ifB (decide (Body.Id (Ty.ix Ty.body (Prod.fst x) (Int.toNat (Prod.snd (Prod.snd (Prod.snd (Prod.snd (Prod.snd x))))))) ≥ Prod.fst (Prod.snd x))) (Q (SV.int IntKind.i64 (Prod.snd (Prod.snd (Prod.snd (Prod.snd (Prod.snd x)))))) [(false, Blk.vec Ty.body (Prod.fst x)), (true, Blk.box [SV.int IntKind.i64 (Prod.fst (Prod.snd x))])]) (Holds (Prod.fst x = xs ∧ Prod.fst (Prod.snd x) = id ∧ Prod.fst (Prod.snd (Prod.snd (Prod.snd (Prod.snd x)))) = (↑(List.length xs) : Int) ∧ (0 : Int) ≤ IntKind.wrap IntKind.i64 (Prod.snd (Prod.snd (Prod.snd (Prod.snd (Prod.snd x)))) + (1 : Int)) ∧ IntKind.wrap IntKind.i64 (Prod.snd (Prod.snd (Prod.snd (Prod.snd (Prod.snd x)))) + (1 : Int)) ≤ (↑(List.length xs) : Int) ∧ ∀ (k : Nat), k < Int.toNat (IntKind.wrap IntKind.i64 (Prod.snd (Prod.snd (Prod.snd (Prod.snd (Prod.snd x)))) + (1 : Int))) → decide (Body.Id (Ty.ix Ty.body xs k) ≥ id) = false) ∧ Int.toNat ((↑(List.length (Prod.fst x)) : Int) - IntKind.wrap IntKind.i64 (Prod.snd (Prod.snd (Prod.snd (Prod.snd (Prod.snd x)))) + (1 : Int))) < Int.toNat ((↑(List.length (Prod.fst x)) : Int) - Prod.snd (Prod.snd (Prod.snd (Prod.snd (Prod.snd x))))))) (Q (SV.int IntKind.i64 (-1 : Int)) [(false, Blk.vec Ty.body (Prod.fst x)), (true, Blk.box [SV.int IntKind.i64 (Prod.fst (Prod.snd x))])])) := by kernel_rfl

theorem ok_idxPlace : FsOk Tryz.prog 114 fs_idxPlace := fsOk_of tt_ok (tabFs_cons ok_notAhead tabFs_nil) mixed Tryz.func114 (by kernel_rfl) (by kernel_rfl) (by
    intro args LL p r HH h hp
    unfold fs_idxPlace at h
    dsimp only at h
    split at h
    case h_2 => cases h
    rename_i xs id
    simp only [Option.some.injEq, Prod.mk.injEq] at h
    obtain ⟨rfl, rfl, rfl⟩ := h
    refine ⟨by simp [Form, stays], (L_idxPlace), ?_⟩
    rw [vc_idxPlace]
    try dsimp only
    have hb := hp _ rfl
    refine ⟨⟨(by trivial), (by trivial), (by trivial), by omega, by omega, fun k hk => absurd hk (by simp)⟩, ?_⟩
    rintro ⟨xs', id', u, f, n, i⟩ ⟨h⟩
    dsimp only at h ⊢
    obtain ⟨rfl, rfl, rfl, h0, h1, h3⟩ := h
    refine ifB_of (fun c => ?_) (fun c => ?_)
    · have hi : i < xs'.length := of_decide_eq_true c
      have e1 : (i + 1).toNat = i.toNat + 1 := by omega
      refine ⟨⟨h0, hi⟩, ifB_of (fun c1 => ?_) (fun c1 => ?_)⟩
      · rw [firstI_at (T := .body) (p := fun y : Body => decide (y.Id ≥ id')) (i := i.toNat) (by omega) c1 h3]
        refine ⟨?_, (by trivial)⟩
        congr 1
        omega
      · simp (disch := omega) only [wrap_small, e1]
        refine ⟨⟨(by trivial), (by trivial), (by trivial), by omega, by omega, fun k hk => ?_⟩, by omega⟩
        by_cases e : k = i.toNat
        · rw [e]; exact c1
        · exact h3 k (by omega)
    · have hi : ¬ i < xs'.length := of_decide_eq_false c
      rw [firstI_no (T := .body) (p := fun y : Body => decide (y.Id ≥ id')) fun k hk => h3 k (by omega)]
      exact ⟨rfl, rfl⟩)

theorem firstI_place (xs : List Body) (id : Int) : firstI (fun y : Body => decide (y.Id ≥ id)) xs = bif decide (atB xs id < xs.length) then (atB xs id : Int) else -1 := by
  obtain ⟨k1, k2, k3⟩ := pref_spec (T := .body) (p := fun y : Body => decide (y.Id < id)) xs
  change atB xs id ≤ xs.length at k1
  change ∀ e, e < atB xs id → decide ((Ty.ix .body xs e).Id < id) = true at k2
  change atB xs id < xs.length → decide ((Ty.ix .body xs (atB xs id)).Id < id) = false at k3
  cases hh : decide (atB xs id < xs.length) with
  | true =>
    have hlt := of_decide_eq_true hh
    have := of_decide_eq_false (k3 hlt)
    simp only [cond_true]
    refine firstI_at (T := .body) (p := fun y : Body => decide (y.Id ≥ id)) hlt (decide_eq_true (by omega)) fun e he => ?_
    have := of_decide_eq_true (k2 e he)
    exact decide_eq_false (by omega)
  | false =>
    have hlt := of_decide_eq_false hh
    simp only [cond_false]
    refine firstI_no (T := .body) (p := fun y : Body => decide (y.Id ≥ id)) fun e he => ?_
    have := of_decide_eq_true (k2 e (by omega))
    exact decide_eq_false (by omega)
noncomputable def fs_place : Fs := ⟨[], fun args H => match args, H with
  | [.vec 0, .int .i64 id], [(false, .vec .body xs)] => some ((some (xs.length ≤ 4611686018427387904)), .tup [.int .i64 (atB xs id), .bool (hasB xs id)], [(false, .vec .body xs)])
  | _, _ => none⟩

theorem vc_place (id : Int) (xs : List Body) (Q : SV → List Ent → Prop) :
    fnVC tt (look [(114, fs_idxPlace)]) L0 Tryz.f80 [.vec 0, .int .i64 id] [(false, .vec .body xs)] Q =
    (List.length xs ≤ (4611686018427387904 : Nat) ∧ ifB (decide (firstI (fun y => decide (Body.Id y ≥ id)) xs < (0 : Int))) (Q (SV.tup [SV.int IntKind.i64 (↑(List.length xs) : Int), SV.bool false]) [(false, Blk.vec Ty.body xs)]) (((0 : Int) ≤ firstI (fun y => decide (Body.Id y ≥ id)) xs ∧ firstI (fun y => decide (Body.Id y ≥ id)) xs < (↑(List.length xs) : Int)) ∧ Q (SV.tup [SV.int IntKind.i64 (firstI (fun y => decide (Body.Id y ≥ id)) xs), SV.bool (Body.Id (Ty.ix Ty.body xs (Int.toNat (firstI (fun y => decide (Body.Id y ≥ id)) xs))) == id)]) [(false, Blk.vec Ty.body xs)])) := by kernel_rfl

theorem ok_place : FsOk Tryz.prog 80 fs_place := fsOk_of tt_ok (tabFs_cons ok_idxPlace tabFs_nil) mixed Tryz.func80 (by kernel_rfl) (by kernel_rfl) (by
    intro args LL p r HH h hp
    unfold fs_place at h
    dsimp only at h
    split at h
    case h_2 => cases h
    rename_i id xs
    simp only [Option.some.injEq, Prod.mk.injEq] at h
    obtain ⟨rfl, rfl, rfl⟩ := h
    refine ⟨by simp [Form, stays], L0, ?_⟩
    rw [vc_place]
    try dsimp only
    have hb := hp _ rfl
    refine ⟨hb, ?_⟩
    rw [firstI_place]
    have hk := atB_le xs id
    unfold hasB
    cases hh : decide (atB xs id < xs.length) with
    | true =>
      have hlt := of_decide_eq_true hh
      simp only [cond_true]
      refine ifB_of (fun c => ?_) (fun c => ⟨by omega, ?_⟩)
      · have := of_decide_eq_true c
        omega
      · exact ⟨rfl, (by trivial)⟩
    | false =>
      have hlt := of_decide_eq_false hh
      simp only [cond_false]
      refine ifB_of (fun c => ?_) (fun c => ?_)
      · rw [show atB xs id = xs.length by omega]
        exact ⟨rfl, (by trivial)⟩
      · simp at c)


def ahead (a b : Pair) : Bool := decide (a.A < b.A) || a.A == b.A && decide (a.B < b.B)
noncomputable def fs_l10Ahead : Fs := ⟨[], fun args H => match args, H with
  | [.agg [.int .i64 aA, .int .i64 aB], .agg [.int .i64 bA, .int .i64 bB]], [] => some (none, .bool (ahead (Pair.mk aA aB) (Pair.mk bA bB)), [])
  | _, _ => none⟩

theorem vc_l10Ahead (aA : Int) (aB : Int) (bA : Int) (bB : Int) (Q : SV → List Ent → Prop) :
    fnVC tt (look []) L0 Tryz.f79 [.agg [.int .i64 aA, .int .i64 aB], .agg [.int .i64 bA, .int .i64 bB]] [] Q =
    (ifB (decide (aA < bA)) (Q (SV.bool true) []) (ifB (aA == bA) (Q (SV.bool (decide (aB < bB))) []) (Q (SV.bool false) []))) := by kernel_rfl

theorem ok_l10Ahead : FsOk Tryz.prog 79 fs_l10Ahead := fsOk_of tt_ok tabFs_nil mixed Tryz.func79 (by kernel_rfl) (by kernel_rfl) (by
    intro args LL p r HH h hp
    unfold fs_l10Ahead at h
    dsimp only at h
    split at h
    case h_2 => cases h
    rename_i aA aB bA bB
    simp only [Option.some.injEq, Prod.mk.injEq] at h
    obtain ⟨rfl, rfl, rfl⟩ := h
    refine ⟨by simp [Form, stays], L0, ?_⟩
    rw [vc_l10Ahead]
    try dsimp only

    repeat' (first | refine ifB_of (fun _ => ?_) (fun _ => ?_) | refine pre_of ?_ (fun _ => ?_))
    all_goals first
      | rfl
      | (simp only [W, ahead, *, cond_true, cond_false, Bool.true_and, Bool.false_and, Bool.and_true, Bool.and_false, Bool.not_true, Bool.not_false, and_self, true_and]; done)
      | (simp_all [W, ahead]; done)
      | (simp_all [W, ahead] <;> omega))

def pairAt (xs : List Body) (ps : List Pair) (i : Nat) : Bool :=
  hasB xs (Ty.ix .pair ps i).A && hasB xs (Ty.ix .pair ps i).B && decide ((Ty.ix .pair ps i).A < (Ty.ix .pair ps i).B) && (i == 0 || ahead (Ty.ix .pair ps (i - 1)) (Ty.ix .pair ps i))
def worldOk (t p : Int) (xs : List Body) (ps : List Pair) : Bool := isIn t 0 100000 && isIn p 0 2560 && bodiesOk xs && allTo (pairAt xs ps) ps.length
def LSspecWok  : LS where
  S := List Body × List Pair × (Int × Int) × Int
  live := [(1, [none]), (3, [none])]
  shape := fun s => ([.ptr 2 0 0, .int .i64 s.2.2.2], [(false, .vec .body s.1), (false, .vec .pair s.2.1), (true, .box [.int .i64 s.2.2.1.1, .int .i64 s.2.2.1.2, .vec 0, .vec 1])])
  get := fun v h => match v, h with
    | [.ptr 2 0 0, .int .i64 i], [(false, .vec .body xs), (false, .vec .pair ps), (true, .box [.int .i64 w_0, .int .i64 w_1, .vec 0, .vec 1])] => some (xs, ps, (w_0, w_1), i)
    | _, _ => none
  inv := fun s0 s => Holds (s.1 = s0.1 ∧ s.2.1 = s0.2.1 ∧ s.2.2.1 = s0.2.2.1 ∧ 0 ≤ s.2.2.2 ∧ s.2.2.2 ≤ s0.2.1.length ∧ allTo (pairAt s0.1 s0.2.1) s.2.2.2.toNat = true)
  mu := fun s => ((s.2.1.length : Int) - s.2.2.2).toNat
  ok := by
    intro v h s hg
    try dsimp only at hg
    split at hg <;> cases hg
    rfl

def L_specWok : Loops := fun n => match n with
  | 4 => some LSspecWok
  | _ => none
noncomputable def fs_specWorldOk : Fs := ⟨[], fun args H => match args, H with
  | [.agg [.int .i64 t, .int .i64 p, .vec 0, .vec 1]], [(false, .vec .body xs), (false, .vec .pair ps)] => some ((some (xs.length ≤ 1048576 ∧ ps.length ≤ 1048576)), .bool (worldOk t p xs ps), [(false, .vec .body xs), (false, .vec .pair ps)])
  | _, _ => none⟩

theorem vc_specWorldOk (t : Int) (p : Int) (xs : List Body) (ps : List Pair) (Q : SV → List Ent → Prop) :
    fnVC tt (look [(62, fs_l1In), (27, fs_specBodiesOk), (78, fs_l10At), (79, fs_l10Ahead)]) (L_specWok) Tryz.f35 [.agg [.int .i64 t, .int .i64 p, .vec 0, .vec 1]] [(false, .vec .body xs), (false, .vec .pair ps)] Q =
    (let w_ := IntKind.wrap IntKind.i64; let n_ := Int.toNat; ifB (!isIn t (0 : Int) (100000 : Int)) (Q (SV.bool false) [(false, Blk.vec Ty.body xs), (false, Blk.vec Ty.pair ps)]) (ifB (!isIn p (0 : Int) (2560 : Int)) (Q (SV.bool false) [(false, Blk.vec Ty.body xs), (false, Blk.vec Ty.pair ps)]) (List.length xs ≤ (4611686018427387904 : Nat) ∧ ifB (!bodiesOk xs) (Q (SV.bool false) [(false, Blk.vec Ty.body xs), (false, Blk.vec Ty.pair ps)]) (Holds (xs = xs ∧ ps = ps ∧ (t, p) = (t, p) ∧ (0 : Int) ≤ (0 : Int) ∧ (0 : Int) ≤ (↑(List.length ps) : Int) ∧ allTo (pairAt xs ps) (n_ (0 : Int)) = true) ∧ ∀ (y1 : List Body × List Pair × (Int × Int) × Int), let y1f0_ := Prod.fst y1; let y1s1_ := Prod.snd y1; let y1f1_ := Prod.fst (Prod.snd y1); let y1s2_ := Prod.snd (Prod.snd y1); let y1f2_ := Prod.fst (Prod.snd (Prod.snd y1)); let y1s3_ := Prod.snd (Prod.snd (Prod.snd y1)); let A6_ := (false, Blk.vec Ty.pair y1f1_); let A5_ := (false, Blk.vec Ty.body y1f0_); let A4_ := (Ty.ix Ty.pair y1f1_ (n_ y1s3_)); let A3_ := (↑(List.length y1f1_) : Int); let A2_ := (Prod.snd y1s2_ + (1 : Int)); Holds (Prod.fst y1 = xs ∧ y1f1_ = ps ∧ y1f2_ = (t, p) ∧ (0 : Int) ≤ y1s3_ ∧ y1s3_ ≤ (↑(List.length ps) : Int) ∧ allTo (pairAt xs ps) (n_ y1s3_) = true) → ifB (decide (Prod.snd y1s2_ < A3_)) (((0 : Int) ≤ y1s3_ ∧ y1s3_ < A3_) ∧ List.length y1f0_ ≤ (4611686018427387904 : Nat) ∧ List.length y1f0_ ≤ (4611686018427387904 : Nat) ∧ ifB (!hasB y1f0_ (Pair.A A4_)) (Q (SV.bool false) [A5_, A6_]) (ifB (!hasB y1f0_ (Pair.B A4_)) (Q (SV.bool false) [A5_, A6_]) (ifB (decide (Pair.A A4_ ≥ Pair.B A4_)) (Q (SV.bool false) [A5_, A6_]) (ifB (decide (Prod.snd y1s2_ > (0 : Int))) (((0 : Int) ≤ w_ (Prod.snd y1s2_ - (1 : Int)) ∧ w_ (Prod.snd y1s2_ - (1 : Int)) < A3_) ∧ ifB (!ahead (Ty.ix Ty.pair y1f1_ (n_ (w_ (Prod.snd y1s2_ - (1 : Int))))) A4_) (Q (SV.bool false) [A5_, A6_]) (Holds (Prod.fst y1 = xs ∧ y1f1_ = ps ∧ y1f2_ = (t, p) ∧ (0 : Int) ≤ w_ A2_ ∧ w_ A2_ ≤ (↑(List.length ps) : Int) ∧ allTo (pairAt xs ps) (n_ (w_ A2_)) = true) ∧ n_ (A3_ - w_ A2_) < n_ (A3_ - y1s3_))) (Holds (Prod.fst y1 = xs ∧ y1f1_ = ps ∧ y1f2_ = (t, p) ∧ (0 : Int) ≤ w_ A2_ ∧ w_ A2_ ≤ (↑(List.length ps) : Int) ∧ allTo (pairAt xs ps) (n_ (w_ A2_)) = true) ∧ n_ (A3_ - w_ A2_) < n_ (A3_ - y1s3_)))))) (Q (SV.bool true) [A5_, A6_]))))) := by kernel_rfl

theorem ok_specWorldOk : FsOk Tryz.prog 35 fs_specWorldOk := fsOk_of tt_ok (tabFs_cons ok_l1In (tabFs_cons ok_specBodiesOk (tabFs_cons ok_l10At (tabFs_cons ok_l10Ahead tabFs_nil)))) mixed Tryz.func35 (by kernel_rfl) (by kernel_rfl) (by
    intro args LL p r HH h hp
    unfold fs_specWorldOk at h
    dsimp only at h
    split at h
    case h_2 => cases h
    rename_i t p xs ps
    simp only [Option.some.injEq, Prod.mk.injEq] at h
    obtain ⟨rfl, rfl, rfl⟩ := h
    refine ⟨by simp [Form, stays], (L_specWok), ?_⟩
    rw [vc_specWorldOk]
    try dsimp only
    obtain ⟨hb, hb2⟩ := hp _ rfl
    refine ifB_of (fun c => ?_) (fun c => ifB_of (fun c2 => ?_) (fun c2 => ⟨by omega, ifB_of (fun c3 => ?_) (fun c3 => ⟨⟨(by trivial), (by trivial), (by trivial), by omega, by omega, rfl⟩, ?_⟩)⟩))
    · simp [worldOk, not_true c]
    · simp [worldOk, not_true c2]
    · simp [worldOk, not_true c3]
    rintro ⟨xs', ps', w, i⟩ ⟨h⟩
    dsimp only at h ⊢
    obtain ⟨rfl, rfl, rfl, h0, h1, h2⟩ := h
    refine ifB_of (fun c4 => ?_) (fun c4 => ?_)
    · have hi : i < ps'.length := of_decide_eq_true c4
      have hw1 : IntKind.i64.wrap (i + 1) = i + 1 := wrap_small (by omega) (by omega)
      have hw2 : IntKind.i64.wrap (i - 1) = i - 1 := wrap_small (by omega) (by omega)
      have e1 : (i + 1).toNat = i.toNat + 1 := by omega
      have e2 : (i - 1).toNat = i.toNat - 1 := by omega
      have fl : pairAt xs' ps' i.toNat = false → worldOk t p xs' ps' = false := fun h => by simp [worldOk, allTo_false h (show i.toNat < ps'.length by omega)]
      have nx : pairAt xs' ps' i.toNat = true → allTo (pairAt xs' ps') (i.toNat + 1) = true := fun h => by simp [allTo, h2, h]
      rw [hw1, hw2, e1, e2]
      refine ⟨⟨h0, hi⟩, by omega, by omega, ifB_of (fun d1 => ?_) (fun d1 => ifB_of (fun d2 => ?_) (fun d2 => ifB_of (fun d3 => ?_) (fun d3 => ifB_of (fun d4 => ?_) (fun d4 => ?_))))⟩
      · rw [fl (by simp [pairAt, not_true d1])]
        exact ⟨rfl, rfl⟩
      · rw [fl (by simp [pairAt, not_true d2])]
        exact ⟨rfl, rfl⟩
      · have d3' : decide ((Ty.ix .pair ps' i.toNat).A < (Ty.ix .pair ps' i.toNat).B) = false := decide_eq_false (by have := of_decide_eq_true d3; omega)
        rw [fl (by simp only [pairAt, d3', Bool.and_false, Bool.false_and])]
        exact ⟨rfl, rfl⟩
      · have d3' : decide ((Ty.ix .pair ps' i.toNat).A < (Ty.ix .pair ps' i.toNat).B) = true := decide_eq_true (by have := of_decide_eq_false d3; omega)
        have d4 := of_decide_eq_true d4
        have hz : (i.toNat == 0) = false := by simp; omega
        have pa : pairAt xs' ps' i.toNat = ahead (Ty.ix .pair ps' (i.toNat - 1)) (Ty.ix .pair ps' i.toNat) := by simp only [pairAt, not_false d1, not_false d2, d3', hz, Bool.true_and, Bool.false_or]
        rw [pa] at fl nx
        refine ⟨⟨by omega, by omega⟩, ifB_of (fun d5 => ?_) (fun d5 => ?_)⟩
        · rw [fl (not_true d5)]
          exact ⟨rfl, rfl⟩
        · exact ⟨⟨(by trivial), (by trivial), (by trivial), by omega, by omega, nx (not_false d5)⟩, by omega⟩
      · have d3' : decide ((Ty.ix .pair ps' i.toNat).A < (Ty.ix .pair ps' i.toNat).B) = true := decide_eq_true (by have := of_decide_eq_false d3; omega)
        have d4 := of_decide_eq_false d4
        have hz : (i.toNat == 0) = true := by simp; omega
        exact ⟨⟨(by trivial), (by trivial), (by trivial), by omega, by omega, nx (by simp only [pairAt, not_false d1, not_false d2, d3', hz, Bool.true_and, Bool.true_or])⟩, by omega⟩
    · have hi : ¬ i < ps'.length := of_decide_eq_false c4
      have e1 : i.toNat = ps'.length := by omega
      rw [e1] at h2
      simp [worldOk, not_false c, not_false c2, not_false c3, h2])

def LSimplWok  : LS where
  S := List Body × List Pair × (Int × Int) × Unit × Int × Int
  live := [(1, [none]), (26, [none]), (27, [none]), (28, [none])]
  shape := fun s => ([.ptr 2 0 0, .vec 1, .int .i64 s.2.2.2.2.1, .int .i64 s.2.2.2.2.2], [(false, .vec .body s.1), (false, .vec .pair s.2.1), (true, .box [.int .i64 s.2.2.1.1, .int .i64 s.2.2.1.2, .vec 0, .vec 1])])
  get := fun v h => match v, h with
    | [.ptr 2 0 0, .vec 1, .int .i64 n, .int .i64 i], [(false, .vec .body xs), (false, .vec .pair ps), (true, .box [.int .i64 w_0, .int .i64 w_1, .vec 0, .vec 1])] => some (xs, ps, (w_0, w_1), (), n, i)
    | _, _ => none
  inv := fun s0 s => Holds (s.1 = s0.1 ∧ s.2.1 = s0.2.1 ∧ s.2.2.1 = s0.2.2.1 ∧ s.2.2.2.2.1 = s0.2.1.length ∧ 0 ≤ s.2.2.2.2.2 ∧ s.2.2.2.2.2 ≤ s0.2.1.length ∧ allTo (pairAt s0.1 s0.2.1) s.2.2.2.2.2.toNat = true)
  mu := fun s => ((s.2.1.length : Int) - s.2.2.2.2.2).toNat
  ok := by
    intro v h s hg
    try dsimp only at hg
    split at hg <;> cases hg
    rfl

def L_implWok : Loops := fun n => match n with
  | 4 => some LSimplWok
  | _ => none
noncomputable def fs_implWorldOk : Fs := ⟨[], fun args H => match args, H with
  | [.agg [.int .i64 t, .int .i64 p, .vec 0, .vec 1]], [(false, .vec .body xs), (false, .vec .pair ps)] => some ((some (xs.length ≤ 1048576 ∧ ps.length ≤ 1048576)), .bool (worldOk t p xs ps), [(false, .vec .body xs), (false, .vec .pair ps)])
  | _, _ => none⟩

theorem vc_implWorldOk (t : Int) (p : Int) (xs : List Body) (ps : List Pair) (Q : SV → List Ent → Prop) :
    fnVC tt (look [(52, fs_in_), (47, fs_implBodiesOk), (80, fs_place)]) (L_implWok) Tryz.f36 [.agg [.int .i64 t, .int .i64 p, .vec 0, .vec 1]] [(false, .vec .body xs), (false, .vec .pair ps)] Q =
    (let w_ := IntKind.wrap IntKind.i64; let n_ := Int.toNat; ifB (!isIn t (0 : Int) (100000 : Int)) (Q (SV.bool false) [(false, Blk.vec Ty.body xs), (false, Blk.vec Ty.pair ps)]) (ifB (!isIn p (0 : Int) (2560 : Int)) (Q (SV.bool false) [(false, Blk.vec Ty.body xs), (false, Blk.vec Ty.pair ps)]) (List.length xs ≤ (4611686018427387904 : Nat) ∧ ifB (!bodiesOk xs) (Q (SV.bool false) [(false, Blk.vec Ty.body xs), (false, Blk.vec Ty.pair ps)]) (Holds (xs = xs ∧ ps = ps ∧ (t, p) = (t, p) ∧ (↑(List.length ps) : Int) = (↑(List.length ps) : Int) ∧ (0 : Int) ≤ (0 : Int) ∧ (0 : Int) ≤ (↑(List.length ps) : Int) ∧ allTo (pairAt xs ps) (n_ (0 : Int)) = true) ∧ ∀ (y1 : List Body × List Pair × (Int × Int) × Unit × Int × Int), let y1f0_ := Prod.fst y1; let y1s1_ := Prod.snd y1; let y1f1_ := Prod.fst (Prod.snd y1); let y1f2_ := Prod.fst (Prod.snd (Prod.snd y1)); let y1s4_ := Prod.snd (Prod.snd (Prod.snd (Prod.snd y1))); let y1f4_ := Prod.fst (Prod.snd (Prod.snd (Prod.snd (Prod.snd y1)))); let y1s5_ := Prod.snd (Prod.snd (Prod.snd (Prod.snd (Prod.snd y1)))); let A8_ := (false, Blk.vec Ty.pair y1f1_); let A7_ := (false, Blk.vec Ty.body y1f0_); let A6_ := (↑(List.length ps) : Int); let A5_ := (Prod.snd y1s4_ - (1 : Int)); let A9_ := (Ty.ix Ty.pair y1f1_ (n_ (w_ A5_))); let A4_ := (Ty.ix Ty.pair y1f1_ (n_ y1s5_)); let A3_ := (↑(List.length y1f1_) : Int); let A2_ := (Prod.snd y1s4_ + (1 : Int)); Holds (Prod.fst y1 = xs ∧ y1f1_ = ps ∧ y1f2_ = (t, p) ∧ y1f4_ = A6_ ∧ (0 : Int) ≤ y1s5_ ∧ y1s5_ ≤ A6_ ∧ allTo (pairAt xs ps) (n_ y1s5_) = true) → ifB (decide (Prod.snd y1s4_ < y1f4_)) (((0 : Int) ≤ y1s5_ ∧ y1s5_ < A3_) ∧ List.length y1f0_ ≤ (4611686018427387904 : Nat) ∧ List.length y1f0_ ≤ (4611686018427387904 : Nat) ∧ ifB (!hasB y1f0_ (Pair.A A4_)) (Q (SV.bool false) [A7_, A8_]) (ifB (!hasB y1f0_ (Pair.B A4_)) (Q (SV.bool false) [A7_, A8_]) (ifB (decide (Pair.A A4_ ≥ Pair.B A4_)) (Q (SV.bool false) [A7_, A8_]) (ifB (decide (Prod.snd y1s4_ > (0 : Int))) (((0 : Int) ≤ w_ A5_ ∧ w_ A5_ < A3_) ∧ ifB (decide (Pair.A A4_ < Pair.A A9_)) (Q (SV.bool false) [A7_, A8_]) (((0 : Int) ≤ w_ A5_ ∧ w_ A5_ < A3_) ∧ ifB (Pair.A A4_ == Pair.A A9_) (((0 : Int) ≤ w_ A5_ ∧ w_ A5_ < A3_) ∧ ifB (decide (Pair.B A4_ ≤ Pair.B A9_)) (Q (SV.bool false) [A7_, A8_]) (Holds (Prod.fst y1 = xs ∧ y1f1_ = ps ∧ y1f2_ = (t, p) ∧ y1f4_ = A6_ ∧ (0 : Int) ≤ w_ A2_ ∧ w_ A2_ ≤ A6_ ∧ allTo (pairAt xs ps) (n_ (w_ A2_)) = true) ∧ n_ (A3_ - w_ A2_) < n_ (A3_ - y1s5_))) (Holds (Prod.fst y1 = xs ∧ y1f1_ = ps ∧ y1f2_ = (t, p) ∧ y1f4_ = A6_ ∧ (0 : Int) ≤ w_ A2_ ∧ w_ A2_ ≤ A6_ ∧ allTo (pairAt xs ps) (n_ (w_ A2_)) = true) ∧ n_ (A3_ - w_ A2_) < n_ (A3_ - y1s5_)))) (Holds (Prod.fst y1 = xs ∧ y1f1_ = ps ∧ y1f2_ = (t, p) ∧ y1f4_ = A6_ ∧ (0 : Int) ≤ w_ A2_ ∧ w_ A2_ ≤ A6_ ∧ allTo (pairAt xs ps) (n_ (w_ A2_)) = true) ∧ n_ (A3_ - w_ A2_) < n_ (A3_ - y1s5_)))))) (Q (SV.bool true) [A7_, A8_]))))) := by kernel_rfl

theorem ok_implWorldOk : FsOk Tryz.prog 36 fs_implWorldOk := fsOk_of tt_ok (tabFs_cons ok_in_ (tabFs_cons ok_implBodiesOk (tabFs_cons ok_place tabFs_nil))) mixed Tryz.func36 (by kernel_rfl) (by kernel_rfl) (by
    intro args LL p r HH h hp
    unfold fs_implWorldOk at h
    dsimp only at h
    split at h
    case h_2 => cases h
    rename_i t p xs ps
    simp only [Option.some.injEq, Prod.mk.injEq] at h
    obtain ⟨rfl, rfl, rfl⟩ := h
    refine ⟨by simp [Form, stays], (L_implWok), ?_⟩
    rw [vc_implWorldOk]
    try dsimp only
    obtain ⟨hb, hb2⟩ := hp _ rfl
    refine ifB_of (fun c => ?_) (fun c => ifB_of (fun c2 => ?_) (fun c2 => ⟨by omega, ifB_of (fun c3 => ?_) (fun c3 => ⟨⟨(by trivial), (by trivial), (by trivial), (by trivial), by omega, by omega, rfl⟩, ?_⟩)⟩))
    · simp [worldOk, not_true c]
    · simp [worldOk, not_true c2]
    · simp [worldOk, not_true c3]
    rintro ⟨xs', ps', w, v, n, i⟩ ⟨h⟩
    dsimp only at h ⊢
    obtain ⟨rfl, rfl, rfl, rfl, h0, h1, h2⟩ := h
    refine ifB_of (fun c4 => ?_) (fun c4 => ?_)
    · have hi : i < ps'.length := of_decide_eq_true c4
      have hw1 : IntKind.i64.wrap (i + 1) = i + 1 := wrap_small (by omega) (by omega)
      have hw2 : IntKind.i64.wrap (i - 1) = i - 1 := wrap_small (by omega) (by omega)
      have e1 : (i + 1).toNat = i.toNat + 1 := by omega
      have e2 : (i - 1).toNat = i.toNat - 1 := by omega
      have fl : pairAt xs' ps' i.toNat = false → worldOk t p xs' ps' = false := fun h => by simp [worldOk, allTo_false h (show i.toNat < ps'.length by omega)]
      have nx : pairAt xs' ps' i.toNat = true → allTo (pairAt xs' ps') (i.toNat + 1) = true := fun h => by simp [allTo, h2, h]
      rw [hw1, hw2, e1, e2]
      refine ⟨⟨h0, hi⟩, by omega, by omega, ifB_of (fun d1 => ?_) (fun d1 => ifB_of (fun d2 => ?_) (fun d2 => ifB_of (fun d3 => ?_) (fun d3 => ifB_of (fun d4 => ?_) (fun d4 => ?_))))⟩
      · rw [fl (by simp [pairAt, not_true d1])]
        exact ⟨rfl, rfl⟩
      · rw [fl (by simp [pairAt, not_true d2])]
        exact ⟨rfl, rfl⟩
      · have d3' : decide ((Ty.ix .pair ps' i.toNat).A < (Ty.ix .pair ps' i.toNat).B) = false := decide_eq_false (by have := of_decide_eq_true d3; omega)
        rw [fl (by simp only [pairAt, d3', Bool.and_false, Bool.false_and])]
        exact ⟨rfl, rfl⟩
      · have d3' : decide ((Ty.ix .pair ps' i.toNat).A < (Ty.ix .pair ps' i.toNat).B) = true := decide_eq_true (by have := of_decide_eq_false d3; omega)
        have d4 := of_decide_eq_true d4
        have hz : (i.toNat == 0) = false := by simp; omega
        have pa : pairAt xs' ps' i.toNat = ahead (Ty.ix .pair ps' (i.toNat - 1)) (Ty.ix .pair ps' i.toNat) := by simp only [pairAt, not_false d1, not_false d2, d3', hz, Bool.true_and, Bool.false_or]
        rw [pa] at fl nx
        unfold ahead at fl nx
        refine ⟨⟨by omega, by omega⟩, ifB_of (fun d5 => ?_) (fun d5 => ⟨⟨by omega, by omega⟩, ifB_of (fun d6 => ⟨⟨by omega, by omega⟩, ifB_of (fun d7 => ?_) (fun d7 => ?_)⟩) (fun d6 => ?_)⟩)⟩
        · have d5 := of_decide_eq_true d5
          rw [fl (by simp; omega)]
          exact ⟨rfl, rfl⟩
        · have d5 := of_decide_eq_false d5
          have d7 := of_decide_eq_true d7
          simp only [beq_iff_eq] at d6
          rw [fl (by simp; omega)]
          exact ⟨rfl, rfl⟩
        · have d5 := of_decide_eq_false d5
          have d7 := of_decide_eq_false d7
          simp only [beq_iff_eq] at d6
          exact ⟨⟨(by trivial), (by trivial), (by trivial), (by trivial), by omega, by omega, nx (by simp; omega)⟩, by omega⟩
        · have d5 := of_decide_eq_false d5
          simp only [beq_eq_false_iff_ne] at d6
          exact ⟨⟨(by trivial), (by trivial), (by trivial), (by trivial), by omega, by omega, nx (by simp; omega)⟩, by omega⟩
      · have d3' : decide ((Ty.ix .pair ps' i.toNat).A < (Ty.ix .pair ps' i.toNat).B) = true := decide_eq_true (by have := of_decide_eq_false d3; omega)
        have d4 := of_decide_eq_false d4
        have hz : (i.toNat == 0) = true := by simp; omega
        exact ⟨⟨(by trivial), (by trivial), (by trivial), (by trivial), by omega, by omega, nx (by simp only [pairAt, not_false d1, not_false d2, d3', hz, Bool.true_and, Bool.true_or])⟩, by omega⟩
    · have hi : ¬ i < ps'.length := of_decide_eq_false c4
      have e1 : i.toNat = ps'.length := by omega
      rw [e1] at h2
      simp [worldOk, not_false c, not_false c2, not_false c3, h2])


end Go.Proofs.YtnahfbjdicjdpaaGreat.Sym

namespace Go.Proofs.YtnahfbjdicjdpaaGreat.Sym
open Go
set_option linter.unusedVariables false
set_option linter.unusedSimpArgs false
set_option maxRecDepth 100000

theorem worldOk_bodies {t p : Int} {xs : List Body} {ps : List Pair} (h : worldOk t p xs ps = true) : bodiesOk xs = true := by
  simp only [worldOk, Bool.and_eq_true] at h
  exact h.1.2
end Go.Proofs.YtnahfbjdicjdpaaGreat.Sym

namespace Go.Proofs.YtnahfbjdicjdpaaGreat.Sym
open Go
set_option linter.unusedVariables false
set_option linter.unusedSimpArgs false
set_option maxRecDepth 100000

noncomputable def fs_clonePairs : Fs := ⟨[], fun args H => match args, H with
  | [.vec 0], [(false, .vec .pair xs)] => some ((some (xs.length ≤ 1048576)), .vec 1, [(false, .vec .pair xs), (true, .vec .pair xs)])
  | _, _ => none⟩

theorem vc_clonePairs (xs : List Pair) (Q : SV → List Ent → Prop) :
    fnVC tt (look []) L0 Tryz.f116 [.vec 0] [(false, .vec .pair xs)] Q =
    (∀ (b : Bool), (b = true → List.length xs = (0 : Nat)) → ifB b (Q (SV.vec (1 : Nat)) [(false, Blk.vec Ty.pair xs), (true, Blk.vec Ty.pair [])]) (((0 : Nat) + List.length xs) * (16 : Nat) ≤ room ∧ Q (SV.vec (1 : Nat)) [(false, Blk.vec Ty.pair xs), (true, Blk.vec Ty.pair ([] ++ xs))])) := by kernel_rfl

theorem ok_clonePairs : FsOk Tryz.prog 116 fs_clonePairs := fsOk_of tt_ok tabFs_nil mixed Tryz.func116 (by kernel_rfl) (by kernel_rfl) (by
    intro args LL p r HH h hp
    unfold fs_clonePairs at h
    dsimp only at h
    split at h
    case h_2 => cases h
    rename_i xs
    simp only [Option.some.injEq, Prod.mk.injEq] at h
    obtain ⟨rfl, rfl, rfl⟩ := h
    refine ⟨by simp [Form, stays], L0, ?_⟩
    rw [vc_clonePairs]
    try dsimp only
    have hb := hp _ rfl
    intro z hz
    refine ifB_of (fun c => ?_) (fun c => ⟨by simp only [room]; omega, ?_⟩)
    · have := List.length_eq_zero_iff.1 (hz c)
      subst this
      exact ⟨rfl, rfl⟩
    · simp)

noncomputable def fs_specCopyW : Fs := ⟨[], fun args H => match args, H with
  | [.agg [.int .i64 t, .int .i64 p, .vec 0, .vec 1]], [(false, .vec .body xs), (false, .vec .pair ps)] => some ((some (xs.length ≤ 1048576 ∧ ps.length ≤ 1048576)), .agg [.int .i64 t, .int .i64 p, .vec 2, .vec 3], [(false, .vec .body xs), (false, .vec .pair ps), (true, .vec .body xs), (true, .vec .pair ps)])
  | _, _ => none⟩

theorem vc_specCopyW (t : Int) (p : Int) (xs : List Body) (ps : List Pair) (Q : SV → List Ent → Prop) :
    fnVC tt (look [(67, fs_specCopyB)]) L0 Tryz.f75 [.agg [.int .i64 t, .int .i64 p, .vec 0, .vec 1]] [(false, .vec .body xs), (false, .vec .pair ps)] Q =
    (List.length xs ≤ (1048576 : Nat) ∧ ((0 : Nat) + List.length ps) * (16 : Nat) ≤ room ∧ Q (SV.agg [SV.int IntKind.i64 t, SV.int IntKind.i64 p, SV.vec (2 : Nat), SV.vec (3 : Nat)]) [(false, Blk.vec Ty.body xs), (false, Blk.vec Ty.pair ps), (true, Blk.vec Ty.body xs), (true, Blk.vec Ty.pair ([] ++ ps))]) := by kernel_rfl

theorem ok_specCopyW : FsOk Tryz.prog 75 fs_specCopyW := fsOk_of tt_ok (tabFs_cons ok_specCopyB tabFs_nil) mixed Tryz.func75 (by kernel_rfl) (by kernel_rfl) (by
    intro args LL p r HH h hp
    unfold fs_specCopyW at h
    dsimp only at h
    split at h
    case h_2 => cases h
    rename_i t p xs ps
    simp only [Option.some.injEq, Prod.mk.injEq] at h
    obtain ⟨rfl, rfl, rfl⟩ := h
    refine ⟨by simp [Form, stays], L0, ?_⟩
    rw [vc_specCopyW]
    try dsimp only
    obtain ⟨hb, hb2⟩ := hp _ rfl
    refine ⟨hb, by simp only [room]; omega, ?_⟩
    simp)

noncomputable def fs_implCopyW : Fs := ⟨[], fun args H => match args, H with
  | [.agg [.int .i64 t, .int .i64 p, .vec 0, .vec 1]], [(false, .vec .body xs), (false, .vec .pair ps)] => some ((some (xs.length ≤ 1048576 ∧ ps.length ≤ 1048576)), .agg [.int .i64 t, .int .i64 p, .vec 2, .vec 3], [(false, .vec .body xs), (false, .vec .pair ps), (true, .vec .body xs), (true, .vec .pair ps)])
  | _, _ => none⟩

theorem vc_implCopyW (t : Int) (p : Int) (xs : List Body) (ps : List Pair) (Q : SV → List Ent → Prop) :
    fnVC tt (look [(53, fs_cloneBodies), (116, fs_clonePairs)]) L0 Tryz.f73 [.agg [.int .i64 t, .int .i64 p, .vec 0, .vec 1]] [(false, .vec .body xs), (false, .vec .pair ps)] Q =
    (List.length xs ≤ (1048576 : Nat) ∧ List.length ps ≤ (1048576 : Nat) ∧ Q (SV.agg [SV.int IntKind.i64 t, SV.int IntKind.i64 p, SV.vec (2 : Nat), SV.vec (3 : Nat)]) [(false, Blk.vec Ty.body xs), (false, Blk.vec Ty.pair ps), (true, Blk.vec Ty.body xs), (true, Blk.vec Ty.pair ps)]) := by kernel_rfl

theorem ok_implCopyW : FsOk Tryz.prog 73 fs_implCopyW := fsOk_of tt_ok (tabFs_cons ok_cloneBodies (tabFs_cons ok_clonePairs tabFs_nil)) mixed Tryz.func73 (by kernel_rfl) (by kernel_rfl) (by
    intro args LL p r HH h hp
    unfold fs_implCopyW at h
    dsimp only at h
    split at h
    case h_2 => cases h
    rename_i t p xs ps
    simp only [Option.some.injEq, Prod.mk.injEq] at h
    obtain ⟨rfl, rfl, rfl⟩ := h
    refine ⟨by simp [Form, stays], L0, ?_⟩
    rw [vc_implCopyW]
    try dsimp only
    obtain ⟨hb, hb2⟩ := hp _ rfl
    exact ⟨hb, hb2, (by trivial), (by trivial)⟩)

def orI (ok : Bool) (n : Int) : Int := bif ok then n else 0
def orL {α : Type} (ok : Bool) (xs : List α) : List α := bif ok then xs else []
theorem length_orL {α : Type} (ok : Bool) (xs : List α) : (orL ok xs).length ≤ xs.length := by
  unfold orL
  cases ok <;> simp
theorem hasB_lt {xs : List Body} {id : Int} (h : hasB xs id = true) : atB xs id < xs.length := by
  simp only [hasB, Bool.and_eq_true, decide_eq_true_eq] at h
  exact h.1
end Go.Proofs.YtnahfbjdicjdpaaGreat.Sym

namespace Go.Proofs.YtnahfbjdicjdpaaGreat.Sym
open Go
set_option linter.unusedVariables false
set_option linter.unusedSimpArgs false
set_option maxRecDepth 100000
noncomputable section

def evs (b : Bool) (ps : List Pair) : List Event := ps.map fun q => ⟨b, q⟩
theorem length_evs (b : Bool) (ps : List Pair) : (evs b ps).length = ps.length := by simp [evs]
def stepEvs (was now : List Pair) : List Event := evs false (newF now was) ++ evs true (newF was now)
def stepTick (ok : Bool) (t : Int) : Int := bif ok then bif t == 100000 then t else W (t + 1) else 0
def stepBodies (ok : Bool) (t p : Int) (xs : List Body) : List Body := bif ok then bif t == 100000 then xs else stepOf xs p else []
def stepPs (ok : Bool) (t p : Int) (xs : List Body) (ps : List Pair) : List Pair := bif ok then bif t == 100000 then ps else stepPairs (stepOf xs p) else []
def stepEs (ok : Bool) (t p : Int) (xs : List Body) (ps : List Pair) : List Event := bif ok then bif t == 100000 then [] else stepEvs ps (stepPairs (stepOf xs p)) else []
theorem length_stepOf (xs : List Body) (pull : Int) : (stepOf xs pull).length ≤ 12 := by
  unfold stepOf
  cases q : bodiesOk xs && isIn pull 0 2560 with
  | true =>
    rw [Bool.and_eq_true] at q
    have := bodiesOk_len q.1
    simp only [cond_true, stepF, length_settleF, length_mapX, length_apartF, length_pushAllF]
    exact this
  | false => simp
end
end Go.Proofs.YtnahfbjdicjdpaaGreat.Sym

namespace Go.Proofs.YtnahfbjdicjdpaaGreat.Sym
open Go
set_option linter.unusedVariables false
set_option linter.unusedSimpArgs false
set_option maxRecDepth 100000
noncomputable section

theorem in_pull {pull : Int} : isIn pull 0 2560 = true ↔ 0 ≤ pull ∧ pull ≤ 2560 := by simp [isIn]
theorem stepOf_ok {xs : List Body} {pull : Int} (h : bodiesOk xs = true) (p0 : 0 ≤ pull) (p1 : pull ≤ 2560) : stepOf xs pull = stepF xs pull := by simp [stepOf, h, in_pull.2 ⟨p0, p1⟩]
def LSev1  : LS where
  S := List Pair × List Pair × Unit × Unit × List Event × Int
  live := [(0, [none]), (1, [none]), (5, [some .event]), (6, [none])]
  shape := fun s => ([.vec 0, .vec 1, .vec 2, .int .i64 s.2.2.2.2.2], [(false, .vec .pair s.1), (false, .vec .pair s.2.1), (true, .vec .event s.2.2.2.2.1)])
  get := fun v h => match v, h with
    | [.vec 0, .vec 1, .vec 2, .int .i64 i], [(false, .vec .pair ws), (false, .vec .pair ns), (true, .vec .event out)] => some (ws, ns, (), (), out, i)
    | _, _ => none
  inv := fun s0 s => Holds (s.1 = s0.1 ∧ s.2.1 = s0.2.1 ∧ 0 ≤ s.2.2.2.2.2 ∧ s.2.2.2.2.2 ≤ s0.1.length ∧ s.2.2.2.2.1 ++ evs false (newF s0.2.1 (s0.1.drop s.2.2.2.2.2.toNat)) = evs false (newF s0.2.1 s0.1))
  mu := fun s => ((s.1.length : Int) - s.2.2.2.2.2).toNat
  ok := by
    intro v h s hg
    try dsimp only at hg
    split at hg <;> cases hg
    rfl

def LSev2  : LS where
  S := List Pair × List Pair × Unit × Unit × List Event × Int
  live := [(0, [none]), (1, [none]), (5, [some .event]), (7, [none])]
  shape := fun s => ([.vec 0, .vec 1, .vec 2, .int .i64 s.2.2.2.2.2], [(false, .vec .pair s.1), (false, .vec .pair s.2.1), (true, .vec .event s.2.2.2.2.1)])
  get := fun v h => match v, h with
    | [.vec 0, .vec 1, .vec 2, .int .i64 i], [(false, .vec .pair ws), (false, .vec .pair ns), (true, .vec .event out)] => some (ws, ns, (), (), out, i)
    | _, _ => none
  inv := fun s0 s => Holds (s.1 = s0.1 ∧ s.2.1 = s0.2.1 ∧ 0 ≤ s.2.2.2.2.2 ∧ s.2.2.2.2.2 ≤ s0.2.1.length ∧ s.2.2.2.2.1 ++ evs true (newF s0.1 (s0.2.1.drop s.2.2.2.2.2.toNat)) = stepEvs s0.1 s0.2.1)
  mu := fun s => ((s.2.1.length : Int) - s.2.2.2.2.2).toNat
  ok := by
    intro v h s hg
    try dsimp only at hg
    split at hg <;> cases hg
    rfl

def L_ev : Loops := fun n => match n with
  | 3 => some LSev1
  | 8 => some LSev2
  | _ => none
theorem evs_new_drop {b : Bool} {was now : List Pair} {i : Nat} (h : i < now.length) : evs b (newF was (now.drop i)) = (bif !hasP was (Ty.ix .pair now i) then [⟨b, Ty.ix .pair now i⟩] else []) ++ evs b (newF was (now.drop (i + 1))) := by
  rw [newF_drop h]
  cases hasP was (Ty.ix .pair now i) <;> rfl
noncomputable def fs_l10Events : Fs := ⟨[], fun args H => match args, H with
  | [.vec 0, .vec 1], [(false, .vec .pair ws), (false, .vec .pair ns)] => some ((some (ws.length ≤ 1048576 ∧ ns.length ≤ 1048576)), .vec 2, [(false, .vec .pair ws), (false, .vec .pair ns), (true, .vec .event (stepEvs ws ns))])
  | _, _ => none⟩

theorem vc_l10Events (ws : List Pair) (ns : List Pair) (Q : SV → List Ent → Prop) :
    fnVC tt (look [(118, fs_l4In)]) (L_ev) Tryz.f77 [.vec 0, .vec 1] [(false, .vec .pair ws), (false, .vec .pair ns)] Q =
    (let w_ := IntKind.wrap IntKind.i64; let n_ := Int.toNat; let ip_ := Ty.ix Ty.pair; Holds (ws = ws ∧ ns = ns ∧ (0 : Int) ≤ (0 : Int) ∧ (0 : Int) ≤ (↑(List.length ws) : Int) ∧ [] ++ evs false (newF ns (List.drop (n_ (0 : Int)) ws)) = evs false (newF ns ws)) ∧ ∀ (y4 : List Pair × List Pair × Unit × Unit × List Event × Int), let y4f0_ := Prod.fst y4; let y4s1_ := Prod.snd y4; let y4f1_ := Prod.fst (Prod.snd y4); let y4s4_ := Prod.snd (Prod.snd (Prod.snd (Prod.snd y4))); let y4f4_ := Prod.fst (Prod.snd (Prod.snd (Prod.snd (Prod.snd y4)))); let y4s5_ := Prod.snd (Prod.snd (Prod.snd (Prod.snd (Prod.snd y4)))); let A6_ := (↑(List.length y4f0_) : Int); let A5_ := (Prod.snd y4s4_ + (1 : Int)); Holds (Prod.fst y4 = ws ∧ y4f1_ = ns ∧ (0 : Int) ≤ y4s5_ ∧ y4s5_ ≤ (↑(List.length ws) : Int) ∧ y4f4_ ++ evs false (newF ns (List.drop (n_ y4s5_) ws)) = evs false (newF ns ws)) → ifB (decide (Prod.snd y4s4_ < A6_)) (((0 : Int) ≤ y4s5_ ∧ y4s5_ < A6_) ∧ List.length y4f1_ ≤ (1048576 : Nat) ∧ ifB (!hasP y4f1_ (ip_ y4f0_ (n_ y4s5_))) (((0 : Int) ≤ y4s5_ ∧ y4s5_ < A6_) ∧ (List.length y4f4_ + List.length [Event.mk false (ip_ y4f0_ (n_ y4s5_))]) * (24 : Nat) ≤ room ∧ Holds (Prod.fst y4 = ws ∧ y4f1_ = ns ∧ (0 : Int) ≤ w_ A5_ ∧ w_ A5_ ≤ (↑(List.length ws) : Int) ∧ y4f4_ ++ [Event.mk false (ip_ y4f0_ (n_ y4s5_))] ++ evs false (newF ns (List.drop (n_ (w_ A5_)) ws)) = evs false (newF ns ws)) ∧ n_ (A6_ - w_ A5_) < n_ (A6_ - y4s5_)) (Holds (Prod.fst y4 = ws ∧ y4f1_ = ns ∧ (0 : Int) ≤ w_ A5_ ∧ w_ A5_ ≤ (↑(List.length ws) : Int) ∧ y4f4_ ++ evs false (newF ns (List.drop (n_ (w_ A5_)) ws)) = evs false (newF ns ws)) ∧ n_ (A6_ - w_ A5_) < n_ (A6_ - y4s5_))) (Holds (Prod.fst y4 = y4f0_ ∧ y4f1_ = y4f1_ ∧ (0 : Int) ≤ (0 : Int) ∧ (0 : Int) ≤ (↑(List.length y4f1_) : Int) ∧ y4f4_ ++ evs true (newF y4f0_ (List.drop (n_ (0 : Int)) y4f1_)) = stepEvs y4f0_ y4f1_) ∧ ∀ (y1 : List Pair × List Pair × Unit × Unit × List Event × Int), let y1f0_ := Prod.fst y1; let y1s1_ := Prod.snd y1; let y1f1_ := Prod.fst (Prod.snd y1); let y1s4_ := Prod.snd (Prod.snd (Prod.snd (Prod.snd y1))); let y1f4_ := Prod.fst (Prod.snd (Prod.snd (Prod.snd (Prod.snd y1)))); let y1s5_ := Prod.snd (Prod.snd (Prod.snd (Prod.snd (Prod.snd y1)))); let A3_ := (↑(List.length y1f1_) : Int); let A2_ := (Prod.snd y1s4_ + (1 : Int)); Holds (Prod.fst y1 = y4f0_ ∧ y1f1_ = y4f1_ ∧ (0 : Int) ≤ y1s5_ ∧ y1s5_ ≤ (↑(List.length y4f1_) : Int) ∧ y1f4_ ++ evs true (newF y4f0_ (List.drop (n_ y1s5_) y4f1_)) = stepEvs y4f0_ y4f1_) → ifB (decide (Prod.snd y1s4_ < A3_)) (((0 : Int) ≤ y1s5_ ∧ y1s5_ < A3_) ∧ List.length y1f0_ ≤ (1048576 : Nat) ∧ ifB (!hasP y1f0_ (ip_ y1f1_ (n_ y1s5_))) (((0 : Int) ≤ y1s5_ ∧ y1s5_ < A3_) ∧ (List.length y1f4_ + List.length [Event.mk true (ip_ y1f1_ (n_ y1s5_))]) * (24 : Nat) ≤ room ∧ Holds (Prod.fst y1 = y4f0_ ∧ y1f1_ = y4f1_ ∧ (0 : Int) ≤ w_ A2_ ∧ w_ A2_ ≤ (↑(List.length y4f1_) : Int) ∧ y1f4_ ++ [Event.mk true (ip_ y1f1_ (n_ y1s5_))] ++ evs true (newF y4f0_ (List.drop (n_ (w_ A2_)) y4f1_)) = stepEvs y4f0_ y4f1_) ∧ n_ (A3_ - w_ A2_) < n_ (A3_ - y1s5_)) (Holds (Prod.fst y1 = y4f0_ ∧ y1f1_ = y4f1_ ∧ (0 : Int) ≤ w_ A2_ ∧ w_ A2_ ≤ (↑(List.length y4f1_) : Int) ∧ y1f4_ ++ evs true (newF y4f0_ (List.drop (n_ (w_ A2_)) y4f1_)) = stepEvs y4f0_ y4f1_) ∧ n_ (A3_ - w_ A2_) < n_ (A3_ - y1s5_))) (Q (SV.vec (2 : Nat)) [(false, Blk.vec Ty.pair y1f0_), (false, Blk.vec Ty.pair y1f1_), (true, Blk.vec Ty.event y1f4_)]))) := by kernel_rfl

theorem ok_l10Events : FsOk Tryz.prog 77 fs_l10Events := fsOk_of tt_ok (tabFs_cons ok_l4In tabFs_nil) mixed Tryz.func77 (by kernel_rfl) (by kernel_rfl) (by
    intro args LL p r HH h hp
    unfold fs_l10Events at h
    dsimp only at h
    split at h
    case h_2 => cases h
    rename_i ws ns
    simp only [Option.some.injEq, Prod.mk.injEq] at h
    obtain ⟨rfl, rfl, rfl⟩ := h
    refine ⟨by simp [Form, stays], (L_ev), ?_⟩
    rw [vc_l10Events]
    try dsimp only
    obtain ⟨hb, hb2⟩ := hp _ rfl
    refine ⟨⟨(by trivial), (by trivial), by omega, by omega, (by trivial)⟩, ?_⟩
    rintro ⟨ws', ns', u, v, out, i⟩ ⟨h⟩
    dsimp only at h ⊢
    obtain ⟨rfl, rfl, i0, i1, h5⟩ := h
    have n1 := length_newF ns' ws'
    have n2 := length_newF ws' ns'
    have hs := congrArg List.length h5
    rw [List.length_append, length_evs, length_evs] at hs
    refine ifB_of (fun c => ?_) (fun c => ?_)
    · have c := of_decide_eq_true c
      have e1 : (i + 1).toNat = i.toNat + 1 := by omega
      have w : IntKind.i64.wrap (i + 1) = i + 1 := wrap_small (by omega) (by omega)
      rw [evs_new_drop (show i.toNat < ws'.length by omega)] at h5
      rw [w, e1]
      refine ⟨⟨i0, c⟩, by omega, ifB_of (fun d => ⟨⟨i0, c⟩, by simp only [room, List.length_singleton]; omega, ⟨(by trivial), (by trivial), by omega, by omega, ?_⟩, by omega⟩) (fun d => ⟨⟨(by trivial), (by trivial), by omega, by omega, ?_⟩, by omega⟩)⟩
      · have d : (!hasP ns' (Ty.ix .pair ws' i.toNat)) = true := d
        rw [d] at h5
        rw [← h5, List.append_assoc]
        rfl
      · have d : (!hasP ns' (Ty.ix .pair ws' i.toNat)) = false := d
        rw [d] at h5
        exact h5
    · have c := of_decide_eq_false c
      rw [drop_end (by omega)] at h5
      have h5 : out = evs false (newF ns' ws') := by simpa [evs, newF] using h5
      refine ⟨⟨(by trivial), (by trivial), by omega, by omega, ?_⟩, ?_⟩
      · rw [h5]
        rfl
      clear c h5 hs i0 i1
      rintro ⟨ws2, ns2, u2, v2, out2, i⟩ ⟨h⟩
      dsimp only at h ⊢
      obtain ⟨rfl, rfl, i0, i1, h5⟩ := h
      have hs := congrArg List.length h5
      unfold stepEvs at hs
      rw [List.length_append, List.length_append, length_evs, length_evs, length_evs] at hs
      refine ifB_of (fun c => ?_) (fun c => ?_)
      · have c := of_decide_eq_true c
        have e1 : (i + 1).toNat = i.toNat + 1 := by omega
        have w : IntKind.i64.wrap (i + 1) = i + 1 := wrap_small (by omega) (by omega)
        rw [evs_new_drop (show i.toNat < ns2.length by omega)] at h5
        rw [w, e1]
        refine ⟨⟨i0, c⟩, by omega, ifB_of (fun d => ⟨⟨i0, c⟩, by simp only [room, List.length_singleton]; omega, ⟨(by trivial), (by trivial), by omega, by omega, ?_⟩, by omega⟩) (fun d => ⟨⟨(by trivial), (by trivial), by omega, by omega, ?_⟩, by omega⟩)⟩
        · have d : (!hasP ws2 (Ty.ix .pair ns2 i.toNat)) = true := d
          rw [d] at h5
          rw [← h5, List.append_assoc]
          rfl
        · have d : (!hasP ws2 (Ty.ix .pair ns2 i.toNat)) = false := d
          rw [d] at h5
          exact h5
      · have c := of_decide_eq_false c
        rw [drop_end (by omega)] at h5
        have h5 : out2 = stepEvs ws2 ns2 := by simpa [evs, newF] using h5
        rw [h5]
        exact ⟨(by trivial), (by trivial)⟩)

theorem worldOk_t {t p : Int} {xs : List Body} {ps : List Pair} (h : worldOk t p xs ps = true) : 0 ≤ t ∧ t ≤ 100000 ∧ 0 ≤ p ∧ p ≤ 2560 := by
  unfold worldOk at h
  simp only [Bool.and_eq_true, isIn, decide_eq_true_eq] at h
  omega
noncomputable def fs_specWorldStep : Fs := ⟨[], fun args H => match args, H with
  | [.agg [.int .i64 t, .int .i64 p, .vec 0, .vec 1]], [(false, .vec .body xs), (false, .vec .pair ps)] => some ((some (xs.length ≤ 1048576 ∧ ps.length ≤ 1048576)), .tup [.agg [.int .i64 (stepTick (worldOk t p xs ps) t), .int .i64 (orI (worldOk t p xs ps) p), .vec 2, .vec 3], .vec 4], [(false, .vec .body xs), (false, .vec .pair ps), (true, .vec .body (stepBodies (worldOk t p xs ps) t p xs)), (true, .vec .pair (stepPs (worldOk t p xs ps) t p xs ps)), (true, .vec .event (stepEs (worldOk t p xs ps) t p xs ps))])
  | _, _ => none⟩

theorem vc_specWorldStep (t : Int) (p : Int) (xs : List Body) (ps : List Pair) (Q : SV → List Ent → Prop) :
    fnVC tt (look [(35, fs_specWorldOk), (75, fs_specCopyW), (63, fs_l9Step), (76, fs_l9Pairs), (77, fs_l10Events)]) L0 Tryz.f33 [.agg [.int .i64 t, .int .i64 p, .vec 0, .vec 1]] [(false, .vec .body xs), (false, .vec .pair ps)] Q =
    ((List.length xs ≤ (1048576 : Nat) ∧ List.length ps ≤ (1048576 : Nat)) ∧ ifB (!worldOk t p xs ps) (Q (SV.tup [SV.agg [SV.int IntKind.i64 (0 : Int), SV.int IntKind.i64 (0 : Int), SV.vec (2 : Nat), SV.vec (3 : Nat)], SV.vec (4 : Nat)]) [(false, Blk.vec Ty.body xs), (false, Blk.vec Ty.pair ps), (true, Blk.vec Ty.body []), (true, Blk.vec Ty.pair []), (true, Blk.vec Ty.event [])]) (ifB (decide (t ≥ (100000 : Int))) ((List.length xs ≤ (1048576 : Nat) ∧ List.length ps ≤ (1048576 : Nat)) ∧ Q (SV.tup [SV.agg [SV.int IntKind.i64 t, SV.int IntKind.i64 p, SV.vec (2 : Nat), SV.vec (3 : Nat)], SV.vec (4 : Nat)]) [(false, Blk.vec Ty.body xs), (false, Blk.vec Ty.pair ps), (true, Blk.vec Ty.body xs), (true, Blk.vec Ty.pair ps), (true, Blk.vec Ty.event [])]) ((bodiesOk xs = true ∧ (0 : Int) ≤ p ∧ p ≤ (2560 : Int)) ∧ bodiesOk (stepF xs p) = true ∧ (List.length ps ≤ (1048576 : Nat) ∧ List.length (pairsC (stepF xs p) (contactsF (stepF xs p))) ≤ (1048576 : Nat)) ∧ Q (SV.tup [SV.agg [SV.int IntKind.i64 (IntKind.wrap IntKind.i64 (t + (1 : Int))), SV.int IntKind.i64 p, SV.vec (2 : Nat), SV.vec (3 : Nat)], SV.vec (4 : Nat)]) [(false, Blk.vec Ty.body xs), (false, Blk.vec Ty.pair ps), (true, Blk.vec Ty.body (stepF xs p)), (true, Blk.vec Ty.pair (pairsC (stepF xs p) (contactsF (stepF xs p)))), (true, Blk.vec Ty.event (stepEvs ps (pairsC (stepF xs p) (contactsF (stepF xs p)))))]))) := by kernel_rfl

theorem ok_specWorldStep : FsOk Tryz.prog 33 fs_specWorldStep := fsOk_of tt_ok (tabFs_cons ok_specWorldOk (tabFs_cons ok_specCopyW (tabFs_cons ok_l9Step (tabFs_cons ok_l9Pairs (tabFs_cons ok_l10Events tabFs_nil))))) mixed Tryz.func33 (by kernel_rfl) (by kernel_rfl) (by
    intro args LL p r HH h hp
    unfold fs_specWorldStep at h
    dsimp only at h
    split at h
    case h_2 => cases h
    rename_i t p xs ps
    simp only [Option.some.injEq, Prod.mk.injEq] at h
    obtain ⟨rfl, rfl, rfl⟩ := h
    refine ⟨by simp [Form, stays], L0, ?_⟩
    rw [vc_specWorldStep]
    try dsimp only
    obtain ⟨hb, hb2⟩ := hp _ rfl
    refine ⟨⟨hb, hb2⟩, ifB_of (fun c => ?_) (fun c => ifB_of (fun c2 => ⟨⟨hb, hb2⟩, ?_⟩) (fun c2 => ?_))⟩
    · simp [stepTick, stepBodies, stepPs, stepEs, orI, not_true c]
    · have ht := worldOk_t (not_false c)
      have c2 := of_decide_eq_true c2
      have e : t = 100000 := by omega
      subst e
      simp [stepTick, stepBodies, stepPs, stepEs, orI, not_false c]
    · have hok := not_false c
      have ht := worldOk_t hok
      have hB := worldOk_bodies hok
      have c2 := of_decide_eq_false c2
      have e : (t == 100000) = false := beq_eq_false_iff_ne.2 (by omega)
      have hS := stepOf_ok hB ht.2.2.1 ht.2.2.2
      have hO := ok_stepF hB ht.2.2.1 ht.2.2.2
      have hP : pairsC (stepF xs p) (contactsF (stepF xs p)) = stepPairs (stepF xs p) := by simp [stepPairs, contactsOf, hO]
      have hsp := length_stepPairs (stepF xs p)
      rw [hP]
      simp only [stepTick, stepBodies, stepPs, stepEs, orI, hok, e, cond_true, cond_false, hS, W]
      exact ⟨⟨hB, ht.2.2.1, ht.2.2.2⟩, hO, ⟨hb2, by omega⟩, (by trivial), (by trivial)⟩)

theorem bodies_lt {xs : List Body} (h : bodiesOk xs = true) : ∀ {b a : Nat}, a < b → b < xs.length → (Ty.ix .body xs a).Id < (Ty.ix .body xs b).Id
  | b + 1, a, hab, hb => by
    have h3 := (bodiesOk_iff.1 h).2.2 b hb
    by_cases e : a = b
    · subst e
      exact h3
    · exact Int.lt_trans (bodies_lt h (b := b) (a := a) (by omega) (by omega)) h3
theorem hasB_id {xs : List Body} {id : Int} (h : hasB xs id = true) : atB xs id < xs.length ∧ (Ty.ix .body xs (atB xs id)).Id = id := by
  simp only [hasB, Bool.and_eq_true, decide_eq_true_eq, beq_iff_eq] at h
  exact h
theorem pairAt_of {t p : Int} {xs : List Body} {ps : List Pair} (h : worldOk t p xs ps = true) {i : Nat} (hi : i < ps.length) : hasB xs (Ty.ix .pair ps i).A = true ∧ hasB xs (Ty.ix .pair ps i).B = true ∧ (Ty.ix .pair ps i).A < (Ty.ix .pair ps i).B ∧
    (0 < i → (Ty.ix .pair ps (i - 1)).A < (Ty.ix .pair ps i).A ∨ (Ty.ix .pair ps (i - 1)).A = (Ty.ix .pair ps i).A ∧ (Ty.ix .pair ps (i - 1)).B < (Ty.ix .pair ps i).B) := by
  unfold worldOk at h
  simp only [Bool.and_eq_true, allTo_iff] at h
  have h2 := h.2 i hi
  simp only [pairAt, ahead, Bool.and_eq_true, Bool.or_eq_true, decide_eq_true_eq, beq_iff_eq] at h2
  refine ⟨h2.1.1.1, h2.1.1.2, h2.1.2, fun h0 => ?_⟩
  rcases h2.2 with q | q
  · omega
  · exact q
end
end Go.Proofs.YtnahfbjdicjdpaaGreat.Sym

namespace Go.Proofs.YtnahfbjdicjdpaaGreat.Sym
open Go
set_option linter.unusedVariables false
set_option linter.unusedSimpArgs false
set_option maxRecDepth 100000

theorem shapeD_ok {s : Shape} (h : shapeD s) : shapeOk s = true := by
  obtain ⟨h1, h2, h3⟩ := h
  unfold shapeOk
  rcases h3 with ⟨k, e⟩ | ⟨k, e1, e2⟩
  · rw [if_pos k]
    simp only [isIn, Bool.and_eq_true, decide_eq_true_eq, beq_iff_eq]
    omega
  · rw [if_neg (by omega), if_pos k]
    simp only [isIn, Bool.and_eq_true, decide_eq_true_eq]
    omega
theorem bodyD_ok {id : Int} {b : Body} (h0 : 0 ≤ id) (h1 : id ≤ 999999999) (h : bodyD id b) : bodyOk b = true := by
  obtain ⟨q1, q2, q3, ⟨q4, q5⟩, q6, q7, q8, q9, q10, q11, q12, q13, q14, q15⟩ := h
  simp only [placeP] at q3
  refine bok_iff.2 ⟨by omega, shapeD_ok q2, by omega, by omega, by omega, by omega, by omega, by omega, fun e => ⟨(q5 e).1, (q5 e).2, q14 e⟩, fun e => ?_⟩
  by_cases c : b.Quiet = 8
  · exact .inr (q15 c)
  · exact .inl (by omega)
theorem bok_at {b : Body} {p : Vec} (h : bodyOk b = true) (hp : -2560000 ≤ p.X ∧ p.X ≤ 2560000 ∧ -2560000 ≤ p.Y ∧ p.Y ≤ 2560000) : bodyOk { b with At := p } = true := by
  rw [bok_iff] at h ⊢
  obtain ⟨h1, h2, h3, h4, h5, h6, h7, h8, h9, h10⟩ := h
  exact ⟨h1, h2, hp, h4, h5, h6, h7, h8, h9, h10⟩
theorem ix_snoc {xs : List Body} {x : Body} {e : Nat} (h : e < xs.length) : Ty.ix .body (xs ++ [x]) e = Ty.ix .body xs e := by
  simp only [Ty.ix, List.getD_eq_getElem?_getD]
  rw [List.getElem?_append_left h]
theorem ix_last {xs : List Body} {x : Body} : Ty.ix .body (xs ++ [x]) xs.length = x := by
  simp [Ty.ix, List.getD]
def idsLtB (m : Int) (xs : List Body) : Prop := ∀ e, e < xs.length → (Ty.ix .body xs e).Id < m
theorem ok_snoc {xs : List Body} {x : Body} (h : bodiesOk xs = true) (hi : idsLtB x.Id xs) (hx : bodyOk x = true) (hl : xs.length < 12) : bodiesOk (xs ++ [x]) = true := by
  obtain ⟨h1, h2, h3⟩ := bodiesOk_iff.1 h
  have len : (xs ++ [x]).length = xs.length + 1 := by simp
  refine bodiesOk_iff.2 ⟨by omega, fun k hk => ?_, fun k hk => ?_⟩
  · by_cases e : k < xs.length
    · rw [ix_snoc e]
      exact h2 k e
    · rw [show k = xs.length by omega, ix_last]
      exact hx
  · by_cases e : k + 1 < xs.length
    · rw [ix_snoc e, ix_snoc (show k < xs.length by omega)]
      exact h3 k e
    · have e2 : k + 1 = xs.length := by omega
      rw [e2, ix_last, ix_snoc (by omega)]
      exact hi k (by omega)
theorem ids_snoc {xs : List Body} {x : Body} {m n : Int} (hi : idsLtB m xs) (hm : m ≤ n) (hx : x.Id < n) : idsLtB n (xs ++ [x]) := by
  intro e he
  have len : (xs ++ [x]).length = xs.length + 1 := by simp
  by_cases c : e < xs.length
  · rw [ix_snoc c]
    have := hi e c
    omega
  · rw [show e = xs.length by omega, ix_last]
    exact hx
noncomputable section
def bd (b : List Int) (p id : Int) : Body := (g_l11Body b p id).1.1
def cn (b : List Int) (p id : Int) : Int := (((g_l11Body b p id).2 % 16 : Nat) : Int)
theorem cn_le (b : List Int) (p id : Int) : 0 ≤ cn b p id ∧ cn b p id ≤ 15 := by
  unfold cn
  omega
def nearP (b : List Int) (p : Int) (v : Vec) : Vec := ⟨withinS (W (W (v.X + W (pk b p 256 * 4)) - 512)) 2560000, withinS (W (W (v.Y + W (pk b (p + 1) 256 * 4)) - 512)) 2560000⟩
theorem nearP_le (b : List Int) (p : Int) (v : Vec) : -2560000 ≤ (nearP b p v).X ∧ (nearP b p v).X ≤ 2560000 ∧ -2560000 ≤ (nearP b p v).Y ∧ (nearP b p v).Y ≤ 2560000 := ⟨(withinS_to _).1, (withinS_to _).2, (withinS_to _).1, (withinS_to _).2⟩
def dStep (b : List Int) (p id : Int) (xs : List Body) : Int × Int × List Body :=
  let q := p + cn b p id
  bif decide ((xs.length : Int) > 0) then
    bif decide (pk b q 3 > 0) then
      (q + 1 + 1 + 1 + 1 + 1, W (W (id + 1) + pk b (q + 1 + 1 + 1 + 1) 3), xs ++ [{ bd b p id with At := nearP b (q + 1 + 1) (Ty.ix .body xs (pk b (q + 1) xs.length).toNat).At }])
    else (q + 1 + 1, W (W (id + 1) + pk b (q + 1) 3), xs ++ [bd b p id])
  else (q + 1, W (W (id + 1) + pk b q 3), xs ++ [bd b p id])
def dGo (b : List Int) : Nat → Int → Int → List Body → Int × List Body
  | 0, p, _, xs => (p, xs)
  | k + 1, p, id, xs => dGo b k (dStep b p id xs).1 (dStep b p id xs).2.1 (dStep b p id xs).2.2
def dEnd (b : List Int) (s : Int × List Body) : Int × List Body :=
  bif pk b s.1 4 == 0 then (s.1 + 1 + 1, stepF s.2 (Ty.ix .int ([0, 32] : List Int) (pk b (s.1 + 1) 2).toNat)) else (s.1 + 1, s.2)
def dDraw (b : List Int) (p : Int) : Int × List Body :=
  dEnd b (dGo b (bif pk b (p + 1 + 1) 20 == 0 then 12 else (pk b (p + 1) 7).toNat) (p + 1 + 1 + 1) (pk b p 3) [])
theorem dStep_spec {b : List Int} {p id : Int} {xs : List Body} (i0 : 0 ≤ id) (i1 : id ≤ 40) (h : bodiesOk xs = true) (hi : idsLtB id xs) (hl : xs.length < 12) :
    p ≤ (dStep b p id xs).1 ∧ (dStep b p id xs).1 ≤ p + 20 ∧ id < (dStep b p id xs).2.1 ∧ (dStep b p id xs).2.1 ≤ id + 3 ∧ bodiesOk (dStep b p id xs).2.2 = true ∧ idsLtB (dStep b p id xs).2.1 (dStep b p id xs).2.2 ∧ (dStep b p id xs).2.2.length = xs.length + 1 := by
  have hc := cn_le b p id
  have hid : (bd b p id).Id = id := (g_l11Body b p id).1.2.1
  have hbd : bodyOk (bd b p id) = true := bodyD_ok i0 (by omega) (g_l11Body b p id).1.2
  have w1 : W (id + 1) = id + 1 := W_small (by omega) (by omega)
  have hpk : ∀ q, W (W (id + 1) + pk b q 3) = id + 1 + pk b q 3 := fun q => by
    have := pk_lt b q (n := 3) (by omega)
    rw [w1]
    exact W_small (by omega) (by omega)
  have fin : ∀ {x : Body} (q : Int), x.Id = id → bodyOk x = true → bodiesOk (xs ++ [x]) = true ∧ idsLtB (W (W (id + 1) + pk b q 3)) (xs ++ [x]) ∧ (xs ++ [x]).length = xs.length + 1 := fun {x} q h1 h2 => by
    have := pk_lt b q (n := 3) (by omega)
    refine ⟨ok_snoc h (by rw [h1]; exact hi) h2 hl, ?_, by simp⟩
    rw [hpk q]
    exact ids_snoc hi (by omega) (by omega)
  unfold dStep
  dsimp only
  cases decide ((xs.length : Int) > 0) with
  | false =>
    simp only [cond_false]
    have hk := pk_lt b (p + cn b p id) (n := 3) (by omega)
    have := fin (p + cn b p id) hid hbd
    exact ⟨by omega, by omega, by rw [hpk]; omega, by rw [hpk]; omega, this.1, this.2.1, this.2.2⟩
  | true =>
    simp only [cond_true]
    cases decide (pk b (p + cn b p id) 3 > 0) with
    | false =>
      simp only [cond_false]
      have hk := pk_lt b (p + cn b p id + 1) (n := 3) (by omega)
      have := fin (p + cn b p id + 1) hid hbd
      exact ⟨by omega, by omega, by rw [hpk]; omega, by rw [hpk]; omega, this.1, this.2.1, this.2.2⟩
    | true =>
      simp only [cond_true]
      have hk := pk_lt b (p + cn b p id + 1 + 1 + 1 + 1) (n := 3) (by omega)
      have := fin (x := { bd b p id with At := nearP b (p + cn b p id + 1 + 1) (Ty.ix .body xs (pk b (p + cn b p id + 1) xs.length).toNat).At }) (p + cn b p id + 1 + 1 + 1 + 1) hid (bok_at hbd (nearP_le _ _ _))
      exact ⟨by omega, by omega, by rw [hpk]; omega, by rw [hpk]; omega, this.1, this.2.1, this.2.2⟩
theorem dGo_next {b : List Int} {p id n n0 topP topI q id' : Int} {xs ys : List Body} {R : Int × List Body} (e : dStep b p id xs = (q, id', ys)) (h1 : 0 < n) (h2 : n ≤ n0) (h12 : n0 ≤ 12) (p0 : 0 ≤ p) (hp : p + 20 * n ≤ topP) (i0 : 0 ≤ id) (hi : id + 3 * n ≤ topI) (ti : topI ≤ 40)
    (ok : bodiesOk xs = true) (ids : idsLtB id xs) (hl : (xs.length : Int) + n = n0) (h7 : dGo b n.toNat p id xs = R) :
    (b = b ∧ 0 ≤ IntKind.i64.wrap (n - 1) ∧ IntKind.i64.wrap (n - 1) ≤ n0 ∧ 0 ≤ q ∧ q + 20 * IntKind.i64.wrap (n - 1) ≤ topP ∧ 0 ≤ id' ∧ id' + 3 * IntKind.i64.wrap (n - 1) ≤ topI ∧ bodiesOk ys = true ∧ idsLtB id' ys ∧ (ys.length : Int) + IntKind.i64.wrap (n - 1) = n0 ∧ dGo b (IntKind.i64.wrap (n - 1)).toNat q id' ys = R) ∧
    (IntKind.i64.wrap (n - 1)).toNat < n.toNat := by
  obtain ⟨s1, s2, s3, s4, s5, s6, s7⟩ := dStep_spec (b := b) (p := p) i0 (by omega) ok ids (by omega)
  rw [e] at s1 s2 s3 s4 s5 s6 s7
  dsimp only at s1 s2 s3 s4 s5 s6 s7
  have w : IntKind.i64.wrap (n - 1) = n - 1 := wrap_small (by omega) (by omega)
  rw [w]
  refine ⟨⟨rfl, by omega, by omega, by omega, by omega, by omega, by omega, s5, s6, by omega, ?_⟩, by omega⟩
  rw [← h7, show n.toNat = (n - 1).toNat + 1 by omega]
  simp only [dGo, e]
theorem dGo_spec {b : List Int} : ∀ {k : Nat} {p id : Int} {xs : List Body}, 0 ≤ id → id + 3 * k ≤ 40 → bodiesOk xs = true → idsLtB id xs → xs.length + k ≤ 12 → p ≤ (dGo b k p id xs).1 ∧ (dGo b k p id xs).1 ≤ p + 20 * k ∧ bodiesOk (dGo b k p id xs).2 = true
  | 0, p, id, xs, _, _, h, _, _ => ⟨by simp only [dGo]; omega, by simp only [dGo]; omega, h⟩
  | k + 1, p, id, xs, i0, i1, h, hi, hl => by
    obtain ⟨s1, s2, s3, s4, s5, s6, s7⟩ := dStep_spec (b := b) (p := p) i0 (by omega) h hi (by omega)
    obtain ⟨r1, r2, r3⟩ := dGo_spec (b := b) (k := k) (p := (dStep b p id xs).1) (id := (dStep b p id xs).2.1) (xs := (dStep b p id xs).2.2) (by omega) (by omega) s5 s6 (by omega)
    simp only [dGo]
    exact ⟨by omega, by omega, r3⟩
theorem ids_nil (m : Int) : idsLtB m [] := fun e h => by simp at h
def pullI (i : Nat) : Int := if i = 0 then 0 else if i = 1 then 32 else 0
theorem ixPull (i : Nat) : @Eq Int (Ty.ix .int ([0, 32] : List Int) i) (pullI i) := ix2 ..
theorem pullI_le (i : Nat) : 0 ≤ pullI i ∧ pullI i ≤ 2560 := by
  unfold pullI
  (repeat' split) <;> omega
theorem ix032 (i : Nat) : @LE.le Int _ 0 (Ty.ix .int ([0, 32] : List Int) i) ∧ @LE.le Int _ (Ty.ix .int ([0, 32] : List Int) i) 2560 := by
  rw [ixPull]
  exact pullI_le i
theorem dEnd_spec {b : List Int} {s : Int × List Body} (h : bodiesOk s.2 = true) : s.1 < (dEnd b s).1 ∧ (dEnd b s).1 ≤ s.1 + 2 ∧ bodiesOk (dEnd b s).2 = true := by
  unfold dEnd
  cases pk b s.1 4 == 0 with
  | false => exact ⟨by simp only [cond_false]; omega, by simp only [cond_false]; omega, h⟩
  | true => exact ⟨by simp only [cond_true]; omega, by simp only [cond_true]; omega, ok_stepF h (ix032 _).1 (ix032 _).2⟩
theorem bodiesOk_nil : bodiesOk [] = true := rfl
theorem dDraw_spec {b : List Int} {p : Int} : p ≤ (dDraw b p).1 ∧ (dDraw b p).1 ≤ p + 400 ∧ bodiesOk (dDraw b p).2 = true := by
  have k1 := pk_lt b (p + 1) (n := 7) (by omega)
  have k2 := pk_lt b p (n := 3) (by omega)
  have hk : (bif pk b (p + 1 + 1) 20 == 0 then 12 else (pk b (p + 1) 7).toNat) ≤ 12 := by
    cases pk b (p + 1 + 1) 20 == 0 <;> simp only [cond_true, cond_false] <;> omega
  unfold dDraw
  generalize (bif pk b (p + 1 + 1) 20 == 0 then 12 else (pk b (p + 1) 7).toNat) = k at *
  obtain ⟨r1, r2, r3⟩ := dGo_spec (b := b) (k := k) (p := p + 1 + 1 + 1) (id := pk b p 3) (xs := []) (by omega) (by omega) bodiesOk_nil (ids_nil _) (by simpa using hk)
  obtain ⟨e1, e2, e3⟩ := dEnd_spec (b := b) r3
  exact ⟨by omega, by omega, e3⟩
def LSdGo  : LS where
  S := List Int × Int × Unit × List Body × Int × Int
  live := [(0, [none]), (3, [some .body]), (4, [none]), (5, [none])]
  shape := fun s => ([.ptr 1 0 0, .vec 2, .int .i64 s.2.2.2.2.1, .int .i64 s.2.2.2.2.2], [(false, .vec .byte s.1), (true, .box [.vec 0, .int .i64 s.2.1]), (true, .vec .body s.2.2.2.1)])
  get := fun v h => match v, h with
    | [.ptr 1 0 0, .vec 2, .int .i64 id, .int .i64 n], [(false, .vec .byte b), (true, .box [.vec 0, .int .i64 p]), (true, .vec .body xs)] => some (b, p, (), xs, id, n)
    | _, _ => none
  inv := fun s0 s => Holds (s.1 = s0.1 ∧ 0 ≤ s.2.2.2.2.2 ∧ s.2.2.2.2.2 ≤ s0.2.2.2.2.2 ∧ 0 ≤ s.2.1 ∧ s.2.1 + 20 * s.2.2.2.2.2 ≤ s0.2.1 + 20 * s0.2.2.2.2.2 ∧ 0 ≤ s.2.2.2.2.1 ∧ s.2.2.2.2.1 + 3 * s.2.2.2.2.2 ≤ s0.2.2.2.2.1 + 3 * s0.2.2.2.2.2 ∧ bodiesOk s.2.2.2.1 = true ∧ idsLtB s.2.2.2.2.1 s.2.2.2.1 ∧ s.2.2.2.1.length + s.2.2.2.2.2 = s0.2.2.2.2.2 ∧ dGo s.1 s.2.2.2.2.2.toNat s.2.1 s.2.2.2.2.1 s.2.2.2.1 = dGo s0.1 s0.2.2.2.2.2.toNat s0.2.1 s0.2.2.2.2.1 s0.2.2.2.1)
  mu := fun s => s.2.2.2.2.2.toNat
  ok := by
    intro v h s hg
    try dsimp only at hg
    split at hg <;> cases hg
    rfl

def L_l11Bodies : Loops := fun n => match n with
  | 6 => some LSdGo
  | _ => none
noncomputable def fs_l11Bodies : Fs := ⟨[], fun args H => match args, H with
  | [.ptr 1 0 0], [(false, .vec .byte b), (true, .box [.vec 0, .int .i64 p])] => some ((some (0 ≤ p ∧ p + 400 ≤ 1000000000000 ∧ BytesOk b)), .vec 2, [(false, .vec .byte b), (true, .box [.vec 0, .int .i64 (dDraw b p).1]), (true, .vec .body (dDraw b p).2)])
  | _, _ => none⟩

theorem vc_l11Bodies (b : List Int) (p : Int) (Q : SV → List Ent → Prop) :
    fnVC tt (look [(69, fs_rdPick), (51, fs_rdOne), (124, fs_l11Body), (127, fs_specWithin), (63, fs_l9Step)]) (L_l11Bodies) Tryz.f88 [.ptr 1 0 0] [(false, .vec .byte b), (true, .box [.vec 0, .int .i64 p])] Q =
    (let w_ := IntKind.wrap IntKind.i64; let s_ := SV.int IntKind.i64; let n_ := Int.toNat; let ii_ := Ty.ix Ty.int; let A36_ := (p + (1 : Int) + (1 : Int) + (1 : Int)); let A35_ := (g_rdPick b p (3 : Int) % (3 : Int)); let A34_ := (g_rdPick b (p + (1 : Int)) (7 : Int) % (7 : Int)); ((0 : Int) ≤ p ∧ p + (1 : Int) ≤ (1000000000000 : Int) ∧ BytesOk b ∧ (1 : Int) ≤ (3 : Int)) ∧ ((0 : Int) ≤ p + (1 : Int) ∧ p + (1 : Int) + (1 : Int) ≤ (1000000000000 : Int) ∧ BytesOk b ∧ (1 : Int) ≤ (7 : Int)) ∧ ((0 : Int) ≤ p + (1 : Int) + (1 : Int) ∧ p + (1 : Int) + (1 : Int) + (1 : Int) ≤ (1000000000000 : Int) ∧ BytesOk b ∧ (1 : Int) ≤ (20 : Int)) ∧ ifB (g_rdPick b (p + (1 : Int) + (1 : Int)) (20 : Int) % (20 : Int) == (0 : Int)) (Holds (b = b ∧ (0 : Int) ≤ (12 : Int) ∧ (12 : Int) ≤ (12 : Int) ∧ (0 : Int) ≤ p + (1 : Int) + (1 : Int) + (1 : Int) ∧ p + (1 : Int) + (1 : Int) + (1 : Int) + (20 : Int) * (12 : Int) ≤ p + (1 : Int) + (1 : Int) + (1 : Int) + (20 : Int) * (12 : Int) ∧ (0 : Int) ≤ g_rdPick b p (3 : Int) % (3 : Int) ∧ g_rdPick b p (3 : Int) % (3 : Int) + (3 : Int) * (12 : Int) ≤ g_rdPick b p (3 : Int) % (3 : Int) + (3 : Int) * (12 : Int) ∧ bodiesOk [] = true ∧ idsLtB A35_ [] ∧ (0 : Int) + (12 : Int) = (12 : Int) ∧ dGo b (n_ (12 : Int)) A36_ A35_ [] = dGo b (n_ (12 : Int)) A36_ A35_ []) ∧ ∀ (y18 : List Int × Int × Unit × List Body × Int × Int), let y18f0_ := Prod.fst y18; let y18s1_ := Prod.snd y18; let y18f1_ := Prod.fst (Prod.snd y18); let y18s3_ := Prod.snd (Prod.snd (Prod.snd y18)); let y18f3_ := Prod.fst (Prod.snd (Prod.snd (Prod.snd y18))); let y18s4_ := Prod.snd (Prod.snd (Prod.snd (Prod.snd y18))); let y18f4_ := Prod.fst (Prod.snd (Prod.snd (Prod.snd (Prod.snd y18)))); let y18s5_ := Prod.snd (Prod.snd (Prod.snd (Prod.snd (Prod.snd y18)))); let A33_ := A35_; let A32_ := A36_; let A28_ := (↑(List.length y18f3_) : Int); let A25_ := (n_ (g_rdPick y18f0_ (Prod.fst y18s1_ + (1 : Int)) (↑(List.length [(0 : Int), (32 : Int)]) : Int) % (↑(List.length [(0 : Int), (32 : Int)]) : Int))); let A23_ := (Prod.snd y18s4_ - (1 : Int)); let A31_ := (w_ A23_); let A21_ := (Prod.fst (g_l11Body y18f0_ y18f1_ y18f4_)); let A29_ := (Prod.fst y18s3_ ++ [Subtype.val A21_]); let A20_ := (↑(Prod.snd (g_l11Body y18f0_ y18f1_ y18f4_) % (16 : Nat)) : Int); let A30_ := (Prod.fst y18s1_ + A20_ + (1 : Int)); let A27_ := (w_ (Prod.fst y18s4_ + (1 : Int)) + g_rdPick y18f0_ (Prod.fst y18s1_ + A20_) (3 : Int) % (3 : Int)); let A26_ := (w_ (Prod.fst y18s4_ + (1 : Int)) + g_rdPick y18f0_ A30_ (3 : Int) % (3 : Int)); let A24_ := (w_ (Prod.fst y18s4_ + (1 : Int)) + g_rdPick y18f0_ (Prod.fst y18s1_ + A20_ + (1 : Int) + (1 : Int) + (1 : Int) + (1 : Int)) (3 : Int) % (3 : Int)); let A22_ := (Vec.mk (withinS (w_ (w_ (Vec.X (Body.At (Ty.ix Ty.body y18f3_ (n_ (g_rdPick y18f0_ A30_ A28_ % A28_)))) + w_ (g_rdPick y18f0_ (Prod.fst y18s1_ + A20_ + (1 : Int) + (1 : Int)) (256 : Int) % (256 : Int) * (4 : Int))) - (512 : Int))) (2560000 : Int)) (withinS (w_ (w_ (Vec.Y (Body.At (Ty.ix Ty.body y18f3_ (n_ (g_rdPick y18f0_ A30_ A28_ % A28_)))) + w_ (g_rdPick y18f0_ (Prod.fst y18s1_ + A20_ + (1 : Int) + (1 : Int) + (1 : Int)) (256 : Int) % (256 : Int) * (4 : Int))) - (512 : Int))) (2560000 : Int))); let A19_ := (Prod.fst y18s3_ ++ [Body.mk (Body.Id (Subtype.val A21_)) (Body.Shape (Subtype.val A21_)) A22_ (Body.Drive (Subtype.val A21_)) (Body.Mass (Subtype.val A21_)) (Body.Bounce (Subtype.val A21_)) (Body.Rub (Subtype.val A21_)) (Body.Quiet (Subtype.val A21_))]); Holds (Prod.fst y18 = b ∧ (0 : Int) ≤ y18s5_ ∧ y18s5_ ≤ (12 : Int) ∧ (0 : Int) ≤ y18f1_ ∧ y18f1_ + (20 : Int) * y18s5_ ≤ p + (1 : Int) + (1 : Int) + (1 : Int) + (20 : Int) * (12 : Int) ∧ (0 : Int) ≤ y18f4_ ∧ y18f4_ + (3 : Int) * y18s5_ ≤ g_rdPick b p (3 : Int) % (3 : Int) + (3 : Int) * (12 : Int) ∧ bodiesOk y18f3_ = true ∧ idsLtB y18f4_ y18f3_ ∧ A28_ + y18s5_ = (12 : Int) ∧ dGo y18f0_ (n_ y18s5_) y18f1_ y18f4_ y18f3_ = dGo b (n_ (12 : Int)) A32_ A33_ []) → ifB (decide (Prod.snd y18s4_ > (0 : Int))) (((0 : Int) ≤ y18f1_ ∧ y18f1_ + (15 : Int) ≤ (1000000000000 : Int) ∧ BytesOk y18f0_) ∧ ifB (decide (A28_ > (0 : Int))) (((0 : Int) ≤ y18f1_ + A20_ ∧ y18f1_ + A20_ + (1 : Int) ≤ (1000000000000 : Int) ∧ BytesOk y18f0_ ∧ (1 : Int) ≤ (3 : Int)) ∧ ifB (decide (g_rdPick y18f0_ (Prod.fst y18s1_ + A20_) (3 : Int) % (3 : Int) > (0 : Int))) (((0 : Int) ≤ y18f1_ + A20_ + (1 : Int) ∧ y18f1_ + A20_ + (1 : Int) + (1 : Int) ≤ (1000000000000 : Int) ∧ BytesOk y18f0_ ∧ (1 : Int) ≤ A28_) ∧ ((0 : Int) ≤ g_rdPick y18f0_ A30_ A28_ % A28_ ∧ g_rdPick y18f0_ A30_ A28_ % A28_ < A28_) ∧ ((0 : Int) ≤ y18f1_ + A20_ + (1 : Int) + (1 : Int) ∧ y18f1_ + A20_ + (1 : Int) + (1 : Int) + (1 : Int) ≤ (1000000000000 : Int) ∧ BytesOk y18f0_ ∧ (1 : Int) ≤ (256 : Int)) ∧ ((0 : Int) ≤ y18f1_ + A20_ + (1 : Int) + (1 : Int) + (1 : Int) ∧ y18f1_ + A20_ + (1 : Int) + (1 : Int) + (1 : Int) + (1 : Int) ≤ (1000000000000 : Int) ∧ BytesOk y18f0_ ∧ (1 : Int) ≤ (256 : Int)) ∧ (List.length y18f3_ + List.length [Body.mk (Body.Id (Subtype.val A21_)) (Body.Shape (Subtype.val A21_)) A22_ (Body.Drive (Subtype.val A21_)) (Body.Mass (Subtype.val A21_)) (Body.Bounce (Subtype.val A21_)) (Body.Rub (Subtype.val A21_)) (Body.Quiet (Subtype.val A21_))]) * (96 : Nat) ≤ room ∧ ((0 : Int) ≤ y18f1_ + A20_ + (1 : Int) + (1 : Int) + (1 : Int) + (1 : Int) ∧ y18f1_ + A20_ + (1 : Int) + (1 : Int) + (1 : Int) + (1 : Int) + (1 : Int) ≤ (1000000000000 : Int) ∧ BytesOk y18f0_ ∧ (1 : Int) ≤ (3 : Int)) ∧ Holds (Prod.fst y18 = b ∧ (0 : Int) ≤ w_ A23_ ∧ w_ A23_ ≤ (12 : Int) ∧ (0 : Int) ≤ y18f1_ + A20_ + (1 : Int) + (1 : Int) + (1 : Int) + (1 : Int) + (1 : Int) ∧ y18f1_ + A20_ + (1 : Int) + (1 : Int) + (1 : Int) + (1 : Int) + (1 : Int) + (20 : Int) * w_ A23_ ≤ p + (1 : Int) + (1 : Int) + (1 : Int) + (20 : Int) * (12 : Int) ∧ (0 : Int) ≤ w_ A24_ ∧ w_ A24_ + (3 : Int) * w_ A23_ ≤ g_rdPick b p (3 : Int) % (3 : Int) + (3 : Int) * (12 : Int) ∧ bodiesOk A19_ = true ∧ idsLtB (w_ A24_) A19_ ∧ (↑(List.length A19_) : Int) + w_ A23_ = (12 : Int) ∧ dGo y18f0_ (n_ A31_) (Prod.fst y18s1_ + A20_ + (1 : Int) + (1 : Int) + (1 : Int) + (1 : Int) + (1 : Int)) (w_ A24_) A19_ = dGo b (n_ (12 : Int)) A32_ A33_ []) ∧ n_ A31_ < n_ y18s5_) ((List.length y18f3_ + List.length [Subtype.val A21_]) * (96 : Nat) ≤ room ∧ ((0 : Int) ≤ y18f1_ + A20_ + (1 : Int) ∧ y18f1_ + A20_ + (1 : Int) + (1 : Int) ≤ (1000000000000 : Int) ∧ BytesOk y18f0_ ∧ (1 : Int) ≤ (3 : Int)) ∧ Holds (Prod.fst y18 = b ∧ (0 : Int) ≤ w_ A23_ ∧ w_ A23_ ≤ (12 : Int) ∧ (0 : Int) ≤ y18f1_ + A20_ + (1 : Int) + (1 : Int) ∧ y18f1_ + A20_ + (1 : Int) + (1 : Int) + (20 : Int) * w_ A23_ ≤ p + (1 : Int) + (1 : Int) + (1 : Int) + (20 : Int) * (12 : Int) ∧ (0 : Int) ≤ w_ A26_ ∧ w_ A26_ + (3 : Int) * w_ A23_ ≤ g_rdPick b p (3 : Int) % (3 : Int) + (3 : Int) * (12 : Int) ∧ bodiesOk A29_ = true ∧ idsLtB (w_ A26_) A29_ ∧ (↑(List.length A29_) : Int) + w_ A23_ = (12 : Int) ∧ dGo y18f0_ (n_ A31_) (Prod.fst y18s1_ + A20_ + (1 : Int) + (1 : Int)) (w_ A26_) A29_ = dGo b (n_ (12 : Int)) A32_ A33_ []) ∧ n_ A31_ < n_ y18s5_)) ((List.length y18f3_ + List.length [Subtype.val A21_]) * (96 : Nat) ≤ room ∧ ((0 : Int) ≤ y18f1_ + A20_ ∧ y18f1_ + A20_ + (1 : Int) ≤ (1000000000000 : Int) ∧ BytesOk y18f0_ ∧ (1 : Int) ≤ (3 : Int)) ∧ Holds (Prod.fst y18 = b ∧ (0 : Int) ≤ w_ A23_ ∧ w_ A23_ ≤ (12 : Int) ∧ (0 : Int) ≤ y18f1_ + A20_ + (1 : Int) ∧ y18f1_ + A20_ + (1 : Int) + (20 : Int) * w_ A23_ ≤ p + (1 : Int) + (1 : Int) + (1 : Int) + (20 : Int) * (12 : Int) ∧ (0 : Int) ≤ w_ A27_ ∧ w_ A27_ + (3 : Int) * w_ A23_ ≤ g_rdPick b p (3 : Int) % (3 : Int) + (3 : Int) * (12 : Int) ∧ bodiesOk A29_ = true ∧ idsLtB (w_ A27_) A29_ ∧ (↑(List.length A29_) : Int) + w_ A23_ = (12 : Int) ∧ dGo y18f0_ (n_ A31_) A30_ (w_ A27_) A29_ = dGo b (n_ (12 : Int)) A32_ A33_ []) ∧ n_ A31_ < n_ y18s5_)) (((0 : Int) ≤ y18f1_ ∧ y18f1_ + (1 : Int) ≤ (1000000000000 : Int) ∧ BytesOk y18f0_ ∧ (1 : Int) ≤ (4 : Int)) ∧ ifB (g_rdPick y18f0_ y18f1_ (4 : Int) % (4 : Int) == (0 : Int)) (((0 : Int) ≤ y18f1_ + (1 : Int) ∧ y18f1_ + (1 : Int) + (1 : Int) ≤ (1000000000000 : Int) ∧ BytesOk y18f0_ ∧ (1 : Nat) ≤ List.length [(0 : Int), (32 : Int)]) ∧ (bodiesOk y18f3_ = true ∧ (0 : Int) ≤ ii_ [(0 : Int), (32 : Int)] A25_ ∧ ii_ [(0 : Int), (32 : Int)] A25_ ≤ (2560 : Int)) ∧ ((0 : Nat) + List.length (stepF y18f3_ (ii_ [(0 : Int), (32 : Int)] A25_))) * (96 : Nat) ≤ room ∧ Q (SV.vec (2 : Nat)) [(false, Blk.vec Ty.byte y18f0_), (true, Blk.box [SV.vec (0 : Nat), s_ (Prod.fst y18s1_ + (1 : Int) + (1 : Int))]), (true, Blk.vec Ty.body ([] ++ stepF y18f3_ (ii_ [(0 : Int), (32 : Int)] A25_)))]) (Q (SV.vec (2 : Nat)) [(false, Blk.vec Ty.byte y18f0_), (true, Blk.box [SV.vec (0 : Nat), s_ (Prod.fst y18s1_ + (1 : Int))]), (true, Blk.vec Ty.body y18f3_)]))) (Holds (b = b ∧ (0 : Int) ≤ g_rdPick b (p + (1 : Int)) (7 : Int) % (7 : Int) ∧ g_rdPick b (p + (1 : Int)) (7 : Int) % (7 : Int) ≤ g_rdPick b (p + (1 : Int)) (7 : Int) % (7 : Int) ∧ (0 : Int) ≤ p + (1 : Int) + (1 : Int) + (1 : Int) ∧ p + (1 : Int) + (1 : Int) + (1 : Int) + (20 : Int) * A34_ ≤ p + (1 : Int) + (1 : Int) + (1 : Int) + (20 : Int) * A34_ ∧ (0 : Int) ≤ g_rdPick b p (3 : Int) % (3 : Int) ∧ g_rdPick b p (3 : Int) % (3 : Int) + (3 : Int) * A34_ ≤ g_rdPick b p (3 : Int) % (3 : Int) + (3 : Int) * A34_ ∧ bodiesOk [] = true ∧ idsLtB A35_ [] ∧ (0 : Int) + g_rdPick b (p + (1 : Int)) (7 : Int) % (7 : Int) = g_rdPick b (p + (1 : Int)) (7 : Int) % (7 : Int) ∧ dGo b (n_ A34_) A36_ A35_ [] = dGo b (n_ A34_) A36_ A35_ []) ∧ ∀ (y1 : List Int × Int × Unit × List Body × Int × Int), let y1f0_ := Prod.fst y1; let y1s1_ := Prod.snd y1; let y1f1_ := Prod.fst (Prod.snd y1); let y1s3_ := Prod.snd (Prod.snd (Prod.snd y1)); let y1f3_ := Prod.fst (Prod.snd (Prod.snd (Prod.snd y1))); let y1s4_ := Prod.snd (Prod.snd (Prod.snd (Prod.snd y1))); let y1f4_ := Prod.fst (Prod.snd (Prod.snd (Prod.snd (Prod.snd y1)))); let y1s5_ := Prod.snd (Prod.snd (Prod.snd (Prod.snd (Prod.snd y1)))); let A17_ := A35_; let A16_ := A36_; let A12_ := (↑(List.length y1f3_) : Int); let A9_ := (n_ (g_rdPick y1f0_ (Prod.fst y1s1_ + (1 : Int)) (↑(List.length [(0 : Int), (32 : Int)]) : Int) % (↑(List.length [(0 : Int), (32 : Int)]) : Int))); let A8_ := (Prod.snd y1s4_ - (1 : Int)); let A15_ := (w_ A8_); let A6_ := A34_; let A4_ := (Prod.fst (g_l11Body y1f0_ y1f1_ y1f4_)); let A13_ := (Prod.fst y1s3_ ++ [Subtype.val A4_]); let A3_ := (↑(Prod.snd (g_l11Body y1f0_ y1f1_ y1f4_) % (16 : Nat)) : Int); let A14_ := (Prod.fst y1s1_ + A3_ + (1 : Int)); let A11_ := (w_ (Prod.fst y1s4_ + (1 : Int)) + g_rdPick y1f0_ (Prod.fst y1s1_ + A3_) (3 : Int) % (3 : Int)); let A10_ := (w_ (Prod.fst y1s4_ + (1 : Int)) + g_rdPick y1f0_ A14_ (3 : Int) % (3 : Int)); let A7_ := (w_ (Prod.fst y1s4_ + (1 : Int)) + g_rdPick y1f0_ (Prod.fst y1s1_ + A3_ + (1 : Int) + (1 : Int) + (1 : Int) + (1 : Int)) (3 : Int) % (3 : Int)); let A5_ := (Vec.mk (withinS (w_ (w_ (Vec.X (Body.At (Ty.ix Ty.body y1f3_ (n_ (g_rdPick y1f0_ A14_ A12_ % A12_)))) + w_ (g_rdPick y1f0_ (Prod.fst y1s1_ + A3_ + (1 : Int) + (1 : Int)) (256 : Int) % (256 : Int) * (4 : Int))) - (512 : Int))) (2560000 : Int)) (withinS (w_ (w_ (Vec.Y (Body.At (Ty.ix Ty.body y1f3_ (n_ (g_rdPick y1f0_ A14_ A12_ % A12_)))) + w_ (g_rdPick y1f0_ (Prod.fst y1s1_ + A3_ + (1 : Int) + (1 : Int) + (1 : Int)) (256 : Int) % (256 : Int) * (4 : Int))) - (512 : Int))) (2560000 : Int))); let A2_ := (Prod.fst y1s3_ ++ [Body.mk (Body.Id (Subtype.val A4_)) (Body.Shape (Subtype.val A4_)) A5_ (Body.Drive (Subtype.val A4_)) (Body.Mass (Subtype.val A4_)) (Body.Bounce (Subtype.val A4_)) (Body.Rub (Subtype.val A4_)) (Body.Quiet (Subtype.val A4_))]); Holds (Prod.fst y1 = b ∧ (0 : Int) ≤ y1s5_ ∧ y1s5_ ≤ g_rdPick b (p + (1 : Int)) (7 : Int) % (7 : Int) ∧ (0 : Int) ≤ y1f1_ ∧ y1f1_ + (20 : Int) * y1s5_ ≤ p + (1 : Int) + (1 : Int) + (1 : Int) + (20 : Int) * A6_ ∧ (0 : Int) ≤ y1f4_ ∧ y1f4_ + (3 : Int) * y1s5_ ≤ g_rdPick b p (3 : Int) % (3 : Int) + (3 : Int) * A6_ ∧ bodiesOk y1f3_ = true ∧ idsLtB y1f4_ y1f3_ ∧ A12_ + y1s5_ = g_rdPick b (p + (1 : Int)) (7 : Int) % (7 : Int) ∧ dGo y1f0_ (n_ y1s5_) y1f1_ y1f4_ y1f3_ = dGo b (n_ A6_) A16_ A17_ []) → ifB (decide (Prod.snd y1s4_ > (0 : Int))) (((0 : Int) ≤ y1f1_ ∧ y1f1_ + (15 : Int) ≤ (1000000000000 : Int) ∧ BytesOk y1f0_) ∧ ifB (decide (A12_ > (0 : Int))) (((0 : Int) ≤ y1f1_ + A3_ ∧ y1f1_ + A3_ + (1 : Int) ≤ (1000000000000 : Int) ∧ BytesOk y1f0_ ∧ (1 : Int) ≤ (3 : Int)) ∧ ifB (decide (g_rdPick y1f0_ (Prod.fst y1s1_ + A3_) (3 : Int) % (3 : Int) > (0 : Int))) (((0 : Int) ≤ y1f1_ + A3_ + (1 : Int) ∧ y1f1_ + A3_ + (1 : Int) + (1 : Int) ≤ (1000000000000 : Int) ∧ BytesOk y1f0_ ∧ (1 : Int) ≤ A12_) ∧ ((0 : Int) ≤ g_rdPick y1f0_ A14_ A12_ % A12_ ∧ g_rdPick y1f0_ A14_ A12_ % A12_ < A12_) ∧ ((0 : Int) ≤ y1f1_ + A3_ + (1 : Int) + (1 : Int) ∧ y1f1_ + A3_ + (1 : Int) + (1 : Int) + (1 : Int) ≤ (1000000000000 : Int) ∧ BytesOk y1f0_ ∧ (1 : Int) ≤ (256 : Int)) ∧ ((0 : Int) ≤ y1f1_ + A3_ + (1 : Int) + (1 : Int) + (1 : Int) ∧ y1f1_ + A3_ + (1 : Int) + (1 : Int) + (1 : Int) + (1 : Int) ≤ (1000000000000 : Int) ∧ BytesOk y1f0_ ∧ (1 : Int) ≤ (256 : Int)) ∧ (List.length y1f3_ + List.length [Body.mk (Body.Id (Subtype.val A4_)) (Body.Shape (Subtype.val A4_)) A5_ (Body.Drive (Subtype.val A4_)) (Body.Mass (Subtype.val A4_)) (Body.Bounce (Subtype.val A4_)) (Body.Rub (Subtype.val A4_)) (Body.Quiet (Subtype.val A4_))]) * (96 : Nat) ≤ room ∧ ((0 : Int) ≤ y1f1_ + A3_ + (1 : Int) + (1 : Int) + (1 : Int) + (1 : Int) ∧ y1f1_ + A3_ + (1 : Int) + (1 : Int) + (1 : Int) + (1 : Int) + (1 : Int) ≤ (1000000000000 : Int) ∧ BytesOk y1f0_ ∧ (1 : Int) ≤ (3 : Int)) ∧ Holds (Prod.fst y1 = b ∧ (0 : Int) ≤ w_ A8_ ∧ w_ A8_ ≤ g_rdPick b (p + (1 : Int)) (7 : Int) % (7 : Int) ∧ (0 : Int) ≤ y1f1_ + A3_ + (1 : Int) + (1 : Int) + (1 : Int) + (1 : Int) + (1 : Int) ∧ y1f1_ + A3_ + (1 : Int) + (1 : Int) + (1 : Int) + (1 : Int) + (1 : Int) + (20 : Int) * w_ A8_ ≤ p + (1 : Int) + (1 : Int) + (1 : Int) + (20 : Int) * A6_ ∧ (0 : Int) ≤ w_ A7_ ∧ w_ A7_ + (3 : Int) * w_ A8_ ≤ g_rdPick b p (3 : Int) % (3 : Int) + (3 : Int) * A6_ ∧ bodiesOk A2_ = true ∧ idsLtB (w_ A7_) A2_ ∧ (↑(List.length A2_) : Int) + w_ A8_ = g_rdPick b (p + (1 : Int)) (7 : Int) % (7 : Int) ∧ dGo y1f0_ (n_ A15_) (Prod.fst y1s1_ + A3_ + (1 : Int) + (1 : Int) + (1 : Int) + (1 : Int) + (1 : Int)) (w_ A7_) A2_ = dGo b (n_ A6_) A16_ A17_ []) ∧ n_ A15_ < n_ y1s5_) ((List.length y1f3_ + List.length [Subtype.val A4_]) * (96 : Nat) ≤ room ∧ ((0 : Int) ≤ y1f1_ + A3_ + (1 : Int) ∧ y1f1_ + A3_ + (1 : Int) + (1 : Int) ≤ (1000000000000 : Int) ∧ BytesOk y1f0_ ∧ (1 : Int) ≤ (3 : Int)) ∧ Holds (Prod.fst y1 = b ∧ (0 : Int) ≤ w_ A8_ ∧ w_ A8_ ≤ g_rdPick b (p + (1 : Int)) (7 : Int) % (7 : Int) ∧ (0 : Int) ≤ y1f1_ + A3_ + (1 : Int) + (1 : Int) ∧ y1f1_ + A3_ + (1 : Int) + (1 : Int) + (20 : Int) * w_ A8_ ≤ p + (1 : Int) + (1 : Int) + (1 : Int) + (20 : Int) * A6_ ∧ (0 : Int) ≤ w_ A10_ ∧ w_ A10_ + (3 : Int) * w_ A8_ ≤ g_rdPick b p (3 : Int) % (3 : Int) + (3 : Int) * A6_ ∧ bodiesOk A13_ = true ∧ idsLtB (w_ A10_) A13_ ∧ (↑(List.length A13_) : Int) + w_ A8_ = g_rdPick b (p + (1 : Int)) (7 : Int) % (7 : Int) ∧ dGo y1f0_ (n_ A15_) (Prod.fst y1s1_ + A3_ + (1 : Int) + (1 : Int)) (w_ A10_) A13_ = dGo b (n_ A6_) A16_ A17_ []) ∧ n_ A15_ < n_ y1s5_)) ((List.length y1f3_ + List.length [Subtype.val A4_]) * (96 : Nat) ≤ room ∧ ((0 : Int) ≤ y1f1_ + A3_ ∧ y1f1_ + A3_ + (1 : Int) ≤ (1000000000000 : Int) ∧ BytesOk y1f0_ ∧ (1 : Int) ≤ (3 : Int)) ∧ Holds (Prod.fst y1 = b ∧ (0 : Int) ≤ w_ A8_ ∧ w_ A8_ ≤ g_rdPick b (p + (1 : Int)) (7 : Int) % (7 : Int) ∧ (0 : Int) ≤ y1f1_ + A3_ + (1 : Int) ∧ y1f1_ + A3_ + (1 : Int) + (20 : Int) * w_ A8_ ≤ p + (1 : Int) + (1 : Int) + (1 : Int) + (20 : Int) * A6_ ∧ (0 : Int) ≤ w_ A11_ ∧ w_ A11_ + (3 : Int) * w_ A8_ ≤ g_rdPick b p (3 : Int) % (3 : Int) + (3 : Int) * A6_ ∧ bodiesOk A13_ = true ∧ idsLtB (w_ A11_) A13_ ∧ (↑(List.length A13_) : Int) + w_ A8_ = g_rdPick b (p + (1 : Int)) (7 : Int) % (7 : Int) ∧ dGo y1f0_ (n_ A15_) A14_ (w_ A11_) A13_ = dGo b (n_ A6_) A16_ A17_ []) ∧ n_ A15_ < n_ y1s5_)) (((0 : Int) ≤ y1f1_ ∧ y1f1_ + (1 : Int) ≤ (1000000000000 : Int) ∧ BytesOk y1f0_ ∧ (1 : Int) ≤ (4 : Int)) ∧ ifB (g_rdPick y1f0_ y1f1_ (4 : Int) % (4 : Int) == (0 : Int)) (((0 : Int) ≤ y1f1_ + (1 : Int) ∧ y1f1_ + (1 : Int) + (1 : Int) ≤ (1000000000000 : Int) ∧ BytesOk y1f0_ ∧ (1 : Nat) ≤ List.length [(0 : Int), (32 : Int)]) ∧ (bodiesOk y1f3_ = true ∧ (0 : Int) ≤ ii_ [(0 : Int), (32 : Int)] A9_ ∧ ii_ [(0 : Int), (32 : Int)] A9_ ≤ (2560 : Int)) ∧ ((0 : Nat) + List.length (stepF y1f3_ (ii_ [(0 : Int), (32 : Int)] A9_))) * (96 : Nat) ≤ room ∧ Q (SV.vec (2 : Nat)) [(false, Blk.vec Ty.byte y1f0_), (true, Blk.box [SV.vec (0 : Nat), s_ (Prod.fst y1s1_ + (1 : Int) + (1 : Int))]), (true, Blk.vec Ty.body ([] ++ stepF y1f3_ (ii_ [(0 : Int), (32 : Int)] A9_)))]) (Q (SV.vec (2 : Nat)) [(false, Blk.vec Ty.byte y1f0_), (true, Blk.box [SV.vec (0 : Nat), s_ (Prod.fst y1s1_ + (1 : Int))]), (true, Blk.vec Ty.body y1f3_)])))) := by kernel_rfl

theorem ok_l11Bodies : FsOk Tryz.prog 88 fs_l11Bodies := fsOk_of tt_ok (tabFs_cons ok_rdPick (tabFs_cons ok_rdOne (tabFs_cons ok_l11Body (tabFs_cons ok_specWithin (tabFs_cons ok_l9Step tabFs_nil))))) mixed Tryz.func88 (by kernel_rfl) (by kernel_rfl) (by
    intro args LL p r HH h hp
    unfold fs_l11Bodies at h
    dsimp only at h
    split at h
    case h_2 => cases h
    rename_i b p
    simp only [Option.some.injEq, Prod.mk.injEq] at h
    obtain ⟨rfl, rfl, rfl⟩ := h
    refine ⟨by simp [Form, stays], (L_l11Bodies), ?_⟩
    rw [vc_l11Bodies]
    try dsimp only
    obtain ⟨hp0, hp1, hby⟩ := hp _ rfl
    have k1 := pk_lt b (p + 1) (n := 7) (by omega)
    have k2 := pk_lt b p (n := 3) (by omega)
    simp only [pk] at k1 k2
    refine ⟨⟨hp0, by omega, hby, by omega⟩, ⟨by omega, by omega, hby, by omega⟩, ⟨by omega, by omega, hby, by omega⟩, ifB_of (fun c => ⟨⟨(by trivial), by omega, by omega, by omega, by omega, k2.1, by omega, (by trivial), ids_nil _, by omega, (by trivial)⟩, ?_⟩) (fun c => ⟨⟨(by trivial), k1.1, by omega, by omega, by omega, k2.1, by omega, (by trivial), ids_nil _, by omega, (by trivial)⟩, ?_⟩)⟩
    case' refine_1 =>
      have hd : dDraw b p = dEnd b (dGo b (12 : Int).toNat (p + 1 + 1 + 1) (g_rdPick b p 3 % 3) []) := by
        unfold dDraw
        rw [show (pk b (p + 1 + 1) 20 == 0) = true from c]
        rfl
      obtain ⟨n0, e0, n12⟩ : ∃ n0 : Int, n0 = 12 ∧ n0 ≤ 12 := ⟨12, rfl, by omega⟩
      rw [hd, ← e0]
      clear e0
    case' refine_2 =>
      have hd : dDraw b p = dEnd b (dGo b (g_rdPick b (p + 1) 7 % 7).toNat (p + 1 + 1 + 1) (g_rdPick b p 3 % 3) []) := by
        unfold dDraw
        rw [show (pk b (p + 1 + 1) 20 == 0) = false from c]
        rfl
      have n12 : g_rdPick b (p + 1) 7 % 7 ≤ 12 := by omega
      rw [hd]
      generalize g_rdPick b (p + 1) 7 % 7 = n0 at *
    all_goals
      clear hd c
      generalize g_rdPick b p 3 % 3 = id0 at *
      rintro ⟨b', p', u, xs, id, n⟩ ⟨h⟩
      dsimp only at h ⊢
      obtain ⟨rfl, i1, i2, i3, i4, i5, i6, i7, i8, i9, i10⟩ := h
      refine ifB_of (fun c => ?_) (fun c => ?_)
      · have c := of_decide_eq_true c
        refine ⟨⟨i3, by omega, hby⟩, ifB_of (fun c1 => ⟨⟨by omega, by omega, hby, by omega⟩, ifB_of (fun c2 => ?_) (fun c2 => ?_)⟩) (fun c1 => ?_)⟩
        · have hl : 0 < (xs.length : Int) := of_decide_eq_true c1
          have hx := pk_lt b' (p' + cn b' p' id + 1) (n := xs.length) (by omega)
          have e := dGo_next (b := b') (p := p') (id := id) (topP := p + 1 + 1 + 1 + 20 * n0) (topI := id0 + 3 * n0) (show dStep b' p' id xs = (p' + cn b' p' id + 1 + 1 + 1 + 1 + 1, W (W (id + 1) + pk b' (p' + cn b' p' id + 1 + 1 + 1 + 1) 3), xs ++ [{ bd b' p' id with At := nearP b' (p' + cn b' p' id + 1 + 1) (Ty.ix .body xs (pk b' (p' + cn b' p' id + 1) xs.length).toNat).At }]) by unfold dStep; dsimp only; rw [c1, show decide (pk b' (p' + cn b' p' id) 3 > 0) = true from c2]; rfl) c i2 n12 i3 i4 i5 i6 (by omega) i7 i8 i9 i10
          exact ⟨⟨by omega, by omega, hby, by omega⟩, hx, ⟨by omega, by omega, hby, by omega⟩, ⟨by omega, by omega, hby, by omega⟩, by simp only [room, List.length_singleton]; omega, ⟨by omega, by omega, hby, by omega⟩, ⟨e.1⟩, e.2⟩
        · have e := dGo_next (b := b') (p := p') (id := id) (topP := p + 1 + 1 + 1 + 20 * n0) (topI := id0 + 3 * n0) (show dStep b' p' id xs = (p' + cn b' p' id + 1 + 1, W (W (id + 1) + pk b' (p' + cn b' p' id + 1) 3), xs ++ [bd b' p' id]) by unfold dStep; dsimp only; rw [c1, show decide (pk b' (p' + cn b' p' id) 3 > 0) = false from c2]; rfl) c i2 n12 i3 i4 i5 i6 (by omega) i7 i8 i9 i10
          exact ⟨by simp only [room, List.length_singleton]; omega, ⟨by omega, by omega, hby, by omega⟩, ⟨e.1⟩, e.2⟩
        · have e := dGo_next (b := b') (p := p') (id := id) (topP := p + 1 + 1 + 1 + 20 * n0) (topI := id0 + 3 * n0) (show dStep b' p' id xs = (p' + cn b' p' id + 1, W (W (id + 1) + pk b' (p' + cn b' p' id) 3), xs ++ [bd b' p' id]) by unfold dStep; dsimp only; rw [c1]; rfl) c i2 n12 i3 i4 i5 i6 (by omega) i7 i8 i9 i10
          exact ⟨by simp only [room, List.length_singleton]; omega, ⟨by omega, by omega, hby, by omega⟩, ⟨e.1⟩, e.2⟩
      · have c := of_decide_eq_false c
        have hn : n.toNat = 0 := by omega
        rw [hn] at i10
        have i10 : (p', xs) = _ := i10
        rw [← i10]
        have hle := bodiesOk_len i7
        refine ⟨⟨i3, by omega, hby, by omega⟩, ifB_of (fun c1 => ?_) (fun c1 => ?_)⟩
        · have hlf := length_stepF xs (Ty.ix .int ([0, 32] : List Int) (g_rdPick b' (p' + 1) 2 % 2).toNat)
          refine ⟨⟨by omega, by omega, hby, by simp⟩, ⟨i7, (ix032 _).1, (ix032 _).2⟩, by simp only [room, length_stepF]; omega, ?_⟩
          have hd : dEnd b' (p', xs) = (p' + 1 + 1, stepF xs (Ty.ix .int ([0, 32] : List Int) (g_rdPick b' (p' + 1) 2 % 2).toNat)) := by
            unfold dEnd
            rw [show (pk b' (p', xs).1 4 == 0) = true from c1]
            rfl
          rw [hd]
          exact ⟨(by trivial), (by trivial)⟩
        · have hd : dEnd b' (p', xs) = (p' + 1, xs) := by
            unfold dEnd
            rw [show (pk b' (p', xs).1 4 == 0) = false from c1]
            rfl
          rw [hd]
          exact ⟨(by trivial), (by trivial)⟩)

def bodiesP (xs : List Body) : Prop := xs.length ≤ 13
instance : Nonempty {x : List Body // bodiesP x} := ⟨⟨[], by simp [bodiesP]⟩⟩
noncomputable def g_l11AnyBodies (b : List Int) (p : Int) : ({x : List Body // bodiesP x}) × Nat := someAns tt (look [(69, fs_rdPick), (88, fs_l11Bodies), (87, fs_l11AnyBody)]) Tryz.f50 [.ptr 1 0 0] [(false, .vec .byte b), (true, .box [.vec 0, .int .i64 p])] (fun x : ({x : List Body // bodiesP x}) × Nat => (.vec 2 : SV)) (fun x : ({x : List Body // bodiesP x}) × Nat => ([(false, .vec .byte b), (true, .box [.vec 0, .int .i64 (p + ((x.2 % 451 : Nat) : Int))]), (true, .vec .body (x.1.1))] : List Ent))
noncomputable def fs_l11AnyBodies : Fs := ⟨[], fun args H => match args, H with
  | [.ptr 1 0 0], [(false, .vec .byte b), (true, .box [.vec 0, .int .i64 p])] => some ((some (0 ≤ p ∧ p + 450 ≤ 1000000000000 ∧ BytesOk b)), .vec 2, [(false, .vec .byte b), (true, .box [.vec 0, .int .i64 (p + (((g_l11AnyBodies b p).2 % 451 : Nat) : Int))]), (true, .vec .body ((g_l11AnyBodies b p).1.1))])
  | _, _ => none⟩

theorem vc_l11AnyBodies (b : List Int) (p : Int) (Q : SV → List Ent → Prop) :
    fnVC tt (look [(69, fs_rdPick), (88, fs_l11Bodies), (87, fs_l11AnyBody)]) L0 Tryz.f50 [.ptr 1 0 0] [(false, .vec .byte b), (true, .box [.vec 0, .int .i64 p])] Q =
    (((0 : Int) ≤ p ∧ p + (400 : Int) ≤ (1000000000000 : Int) ∧ BytesOk b) ∧ ifB ((↑(List.length (Prod.snd (dDraw b p))) : Int) == (0 : Int)) (Q (SV.vec (2 : Nat)) [(false, Blk.vec Ty.byte b), (true, Blk.box [SV.vec (0 : Nat), SV.int IntKind.i64 (Prod.fst (dDraw b p))]), (true, Blk.vec Ty.body (Prod.snd (dDraw b p)))]) (((0 : Int) ≤ Prod.fst (dDraw b p) ∧ Prod.fst (dDraw b p) + (1 : Int) ≤ (1000000000000 : Int) ∧ BytesOk b ∧ (1 : Int) ≤ (↑(List.length (Prod.snd (dDraw b p))) : Int)) ∧ ((0 : Int) ≤ Prod.fst (dDraw b p) + (1 : Int) ∧ Prod.fst (dDraw b p) + (1 : Int) + (1 : Int) ≤ (1000000000000 : Int) ∧ BytesOk b ∧ (1 : Int) ≤ (20 : Int)) ∧ ifB (g_rdPick b (Prod.fst (dDraw b p) + (1 : Int)) (20 : Int) % (20 : Int) == (0 : Int)) (((0 : Int) ≤ Prod.fst (dDraw b p) + (1 : Int) + (1 : Int) ∧ Prod.fst (dDraw b p) + (1 : Int) + (1 : Int) + (24 : Int) ≤ (1000000000000 : Int) ∧ BytesOk b) ∧ ((0 : Int) ≤ g_rdPick b (Prod.fst (dDraw b p)) (↑(List.length (Prod.snd (dDraw b p))) : Int) % (↑(List.length (Prod.snd (dDraw b p))) : Int) ∧ g_rdPick b (Prod.fst (dDraw b p)) (↑(List.length (Prod.snd (dDraw b p))) : Int) % (↑(List.length (Prod.snd (dDraw b p))) : Int) < (↑(List.length (Prod.snd (dDraw b p))) : Int)) ∧ Q (SV.vec (2 : Nat)) [(false, Blk.vec Ty.byte b), (true, Blk.box [SV.vec (0 : Nat), SV.int IntKind.i64 (Prod.fst (dDraw b p) + (1 : Int) + (1 : Int) + (↑(Prod.snd (g_l11AnyBody b (Prod.fst (dDraw b p) + (1 : Int) + (1 : Int))) % (25 : Nat)) : Int))]), (true, Blk.vec Ty.body (List.set (Prod.snd (dDraw b p)) (Int.toNat (g_rdPick b (Prod.fst (dDraw b p)) (↑(List.length (Prod.snd (dDraw b p))) : Int) % (↑(List.length (Prod.snd (dDraw b p))) : Int))) (Prod.fst (g_l11AnyBody b (Prod.fst (dDraw b p) + (1 : Int) + (1 : Int))))))]) (ifB (g_rdPick b (Prod.fst (dDraw b p) + (1 : Int)) (20 : Int) % (20 : Int) == (1 : Int)) (((0 : Int) ≤ (0 : Int) ∧ (0 : Int) < (↑(List.length (Prod.snd (dDraw b p))) : Int)) ∧ (List.length (Prod.snd (dDraw b p)) + List.length [Ty.ix Ty.body (Prod.snd (dDraw b p)) (Int.toNat (0 : Int))]) * (96 : Nat) ≤ room ∧ Q (SV.vec (2 : Nat)) [(false, Blk.vec Ty.byte b), (true, Blk.box [SV.vec (0 : Nat), SV.int IntKind.i64 (Prod.fst (dDraw b p) + (1 : Int) + (1 : Int))]), (true, Blk.vec Ty.body (Prod.snd (dDraw b p) ++ [Ty.ix Ty.body (Prod.snd (dDraw b p)) (Int.toNat (0 : Int))]))]) (Q (SV.vec (2 : Nat)) [(false, Blk.vec Ty.byte b), (true, Blk.box [SV.vec (0 : Nat), SV.int IntKind.i64 (Prod.fst (dDraw b p) + (1 : Int) + (1 : Int))]), (true, Blk.vec Ty.body (Prod.snd (dDraw b p)))])))) := by kernel_rfl

theorem ok_l11AnyBodies : FsOk Tryz.prog 50 fs_l11AnyBodies := fsOk_of tt_ok (tabFs_cons ok_rdPick (tabFs_cons ok_l11Bodies (tabFs_cons ok_l11AnyBody tabFs_nil))) mixed Tryz.func50 (by kernel_rfl) (by kernel_rfl) (by
    intro args LL p0 r HH h hp
    unfold fs_l11AnyBodies at h
    dsimp only at h
    split at h
    case h_2 => cases h
    rename_i b p
    simp only [Option.some.injEq, Prod.mk.injEq] at h
    obtain ⟨rfl, rfl, rfl⟩ := h
    refine ⟨by simp [Form, stays], L0, ?_⟩
    obtain ⟨hp0, hp1, hby⟩ := hp _ rfl
    refine someAns_ok (R := (fun x : ({x : List Body // bodiesP x}) × Nat => (.vec 2 : SV))) (HH := (fun x : ({x : List Body // bodiesP x}) × Nat => ([(false, .vec .byte b), (true, .box [.vec 0, .int .i64 (p + ((x.2 % 451 : Nat) : Int))]), (true, .vec .body (x.1.1))] : List Ent))) (by kernel_rfl) ?_
    have fin : ∀ (z : List Body) (p' : Int), bodiesP z → p ≤ p' → p' ≤ p + 450 → ∃ x : ({x : List Body // bodiesP x}) × Nat, ((.vec 2 : SV) : SV) = (fun x : ({x : List Body // bodiesP x}) × Nat => (.vec 2 : SV)) x ∧ (([(false, .vec .byte b), (true, .box [.vec 0, .int .i64 p']), (true, .vec .body (z))] : List Ent) : List Ent) = (fun x : ({x : List Body // bodiesP x}) × Nat => ([(false, .vec .byte b), (true, .box [.vec 0, .int .i64 (p + ((x.2 % 451 : Nat) : Int))]), (true, .vec .body (x.1.1))] : List Ent)) x := fun z p' hpred h1 h2 => ⟨(⟨z, hpred⟩, (p' - p).toNat), rfl, by
      have : p + (((p' - p).toNat % 451 : Nat) : Int) = p' := by omega
      dsimp only
      rw [this]⟩
    rw [vc_l11AnyBodies]
    try dsimp only
    try dsimp only at fin
    obtain ⟨d1, d2, d3⟩ := dDraw_spec (b := b) (p := p)
    have dl := bodiesOk_len d3
    generalize dDraw b p = d at *
    obtain ⟨q, xs⟩ := d
    dsimp only at d1 d2 d3 dl ⊢
    refine ⟨⟨hp0, by omega, hby⟩, ifB_of (fun c => ?_) (fun c => ?_)⟩
    · exact fin _ _ (by simp only [bodiesP]; omega) (by omega) (by omega)
    · have hl : 0 < (xs.length : Int) := by
        have : ¬ (xs.length : Int) = 0 := by simpa using c
        omega
      have hk := pk_lt b q (n := xs.length) (by omega)
      simp only [pk] at hk
      refine ⟨⟨by omega, by omega, hby, by omega⟩, ⟨by omega, by omega, hby, by omega⟩, ifB_of (fun _ => ⟨⟨by omega, by omega, hby⟩, hk, fin _ _ (by simp only [bodiesP, List.length_set]; omega) (by omega) (by omega)⟩) (fun _ => ifB_of (fun _ => ?_) (fun _ => ?_))⟩
      · exact ⟨⟨by omega, hl⟩, by simp only [room, List.length_cons, List.length_nil]; omega, fin _ _ (by simp only [bodiesP, List.length_append, List.length_cons, List.length_nil]; omega) (by omega) (by omega)⟩
      · exact fin _ _ (by simp only [bodiesP]; omega) (by omega) (by omega))

def pushD (z : List Body × List Contact) : Prop := z.1.length ≤ 13 ∧ z.2.length ≤ 145
instance : Nonempty {x : List Body × List Contact // pushD x} := ⟨⟨([], []), by simp [pushD]⟩⟩
/-- So many steps of a world. -/
def wGo : Nat → Int × Int × List Body × List Pair → Int × Int × List Body × List Pair
  | 0, w => w
  | n + 1, w => wGo n (stepTick (worldOk w.1 w.2.1 w.2.2.1 w.2.2.2) w.1, orI (worldOk w.1 w.2.1 w.2.2.1 w.2.2.2) w.2.1, stepBodies (worldOk w.1 w.2.1 w.2.2.1 w.2.2.2) w.1 w.2.1 w.2.2.1, stepPs (worldOk w.1 w.2.1 w.2.2.1 w.2.2.2) w.1 w.2.1 w.2.2.1 w.2.2.2)
def wDraw (b : List Int) (p : Int) : Int × (Int × Int × List Body × List Pair) :=
  ((dDraw b (p + 1)).1 + 1, wGo (pk b (dDraw b (p + 1)).1 4).toNat (0, pullOf (Ty.ix .int ([0, 32, 32, 8, 2560] : List Int) (pk b p 5).toNat), (dDraw b (p + 1)).2, []))
def worldD (z : Int × Int × List Body × List Pair) : Prop := z.2.2.1.length ≤ 13 ∧ z.2.2.2.length ≤ 145
instance : Nonempty {x : Int × Int × List Body × List Pair // worldD x} := ⟨⟨(0, 0, [], []), by simp [worldD]⟩⟩
theorem stepBodies12 (ok : Bool) (t p : Int) {xs : List Body} (h : xs.length ≤ 12) : (stepBodies ok t p xs).length ≤ 12 := by
  unfold stepBodies
  have := length_stepOf xs p
  cases ok <;> cases t == 100000 <;> simp only [cond_true, cond_false, List.length_nil] <;> omega
theorem stepPs144 (ok : Bool) (t p : Int) (xs : List Body) {ps : List Pair} (h : ps.length ≤ 144) : (stepPs ok t p xs ps).length ≤ 144 := by
  unfold stepPs
  have := length_stepPairs (stepOf xs p)
  cases ok <;> cases t == 100000 <;> simp only [cond_true, cond_false, List.length_nil] <;> omega
theorem wGo_len : ∀ (n : Nat) {w : Int × Int × List Body × List Pair}, w.2.2.1.length ≤ 12 → w.2.2.2.length ≤ 144 → (wGo n w).2.2.1.length ≤ 12 ∧ (wGo n w).2.2.2.length ≤ 144
  | 0, _, h1, h2 => ⟨h1, h2⟩
  | n + 1, w, h1, h2 => wGo_len n (stepBodies12 _ _ _ h1) (stepPs144 _ _ _ _ h2)
theorem wDraw_spec {b : List Int} {p : Int} : p < (wDraw b p).1 ∧ (wDraw b p).1 ≤ p + 402 ∧ (wDraw b p).2.2.2.1.length ≤ 12 ∧ (wDraw b p).2.2.2.2.length ≤ 144 := by
  obtain ⟨d1, d2, d3⟩ := dDraw_spec (b := b) (p := p + 1)
  have := wGo_len (pk b (dDraw b (p + 1)).1 4).toNat (w := (0, pullOf (Ty.ix .int ([0, 32, 32, 8, 2560] : List Int) (pk b p 5).toNat), (dDraw b (p + 1)).2, [])) (bodiesOk_len d3) (by simp)
  unfold wDraw
  exact ⟨by dsimp only; omega, by dsimp only; omega, this.1, this.2⟩
def LSwGo  : LS where
  S := List Int × Int × (Int × Int) × (Int × Int × List Body × List Pair) × Int
  live := [(2, [none]), (3, [none]), (4, [none])]
  shape := fun s => ([.ptr 2 0 0, .ptr 5 0 0, .int .i64 s.2.2.2.2], [(false, .vec .byte s.1), (true, .box [.vec 0, .int .i64 s.2.1]), (true, .box [.int .i64 s.2.2.1.1, .int .i64 s.2.2.1.2, .nilsl, .nilsl]), (true, .vec .body s.2.2.2.1.2.2.1), (true, .vec .pair s.2.2.2.1.2.2.2), (true, .box [.int .i64 s.2.2.2.1.1, .int .i64 s.2.2.2.1.2.1, .vec 3, .vec 4])])
  get := fun v h => match v, h with
    | [.ptr 2 0 0, .ptr 5 0 0, .int .i64 n], [(false, .vec .byte b), (true, .box [.vec 0, .int .i64 p]), (true, .box [.int .i64 r_0, .int .i64 r_1, .nilsl, .nilsl]), (true, .vec .body v_2), (true, .vec .pair v_3), (true, .box [.int .i64 v_0, .int .i64 v_1, .vec 3, .vec 4])] => some (b, p, (r_0, r_1), (v_0, v_1, v_2, v_3), n)
    | _, _ => none
  inv := fun s0 s => Holds (s.1 = s0.1 ∧ s.2.1 = s0.2.1 ∧ s.2.2.1 = s0.2.2.1 ∧ 0 ≤ s.2.2.2.2 ∧ s.2.2.2.2 ≤ 3 ∧ s.2.2.2.1.2.2.1.length ≤ 12 ∧ s.2.2.2.1.2.2.2.length ≤ 144 ∧ wGo s.2.2.2.2.toNat s.2.2.2.1 = wGo s0.2.2.2.2.toNat s0.2.2.2.1)
  mu := fun s => s.2.2.2.2.toNat
  ok := by
    intro v h s hg
    try dsimp only at hg
    split at hg <;> cases hg
    rfl

def L_l11World : Loops := fun n => match n with
  | 4 => some LSwGo
  | _ => none
noncomputable def fs_l11World : Fs := ⟨[], fun args H => match args, H with
  | [.ptr 1 0 0], [(false, .vec .byte b), (true, .box [.vec 0, .int .i64 p])] => some ((some (0 ≤ p ∧ p + 402 ≤ 1000000000000 ∧ BytesOk b)), .agg [.int .i64 (wDraw b p).2.1, .int .i64 (wDraw b p).2.2.1, .vec 2, .vec 3], [(false, .vec .byte b), (true, .box [.vec 0, .int .i64 (wDraw b p).1]), (true, .vec .body (wDraw b p).2.2.2.1), (true, .vec .pair (wDraw b p).2.2.2.2)])
  | _, _ => none⟩

theorem vc_l11World (b : List Int) (p : Int) (Q : SV → List Ent → Prop) :
    fnVC tt (look [(69, fs_rdPick), (51, fs_rdOne), (141, fs_specWorldNew), (88, fs_l11Bodies), (33, fs_specWorldStep)]) (L_l11World) Tryz.f115 [.ptr 1 0 0] [(false, .vec .byte b), (true, .box [.vec 0, .int .i64 p])] Q =
    (let w_ := IntKind.wrap IntKind.i64; let A7_ := (dDraw b (p + (1 : Int))); let A8_ := (Int.toNat (g_rdPick b (Prod.fst A7_) (4 : Int) % (4 : Int))); let A6_ := ((0 : Int), pullOf (Ty.ix Ty.int [(0 : Int), (32 : Int), (32 : Int), (8 : Int), (2560 : Int)] (Int.toNat (g_rdPick b p (↑(List.length [(0 : Int), (32 : Int), (32 : Int), (8 : Int), (2560 : Int)]) : Int) % (↑(List.length [(0 : Int), (32 : Int), (32 : Int), (8 : Int), (2560 : Int)]) : Int)))), Prod.snd A7_, []); ((0 : Int) ≤ p ∧ p + (1 : Int) ≤ (1000000000000 : Int) ∧ BytesOk b ∧ (1 : Nat) ≤ List.length [(0 : Int), (32 : Int), (32 : Int), (8 : Int), (2560 : Int)]) ∧ ((0 : Int) ≤ p + (1 : Int) ∧ p + (1 : Int) + (400 : Int) ≤ (1000000000000 : Int) ∧ BytesOk b) ∧ ((0 : Int) ≤ Prod.fst A7_ ∧ Prod.fst A7_ + (1 : Int) ≤ (1000000000000 : Int) ∧ BytesOk b ∧ (1 : Int) ≤ (4 : Int)) ∧ Holds (b = b ∧ Prod.fst A7_ + (1 : Int) = Prod.fst A7_ + (1 : Int) ∧ ((0 : Int), (0 : Int)) = ((0 : Int), (0 : Int)) ∧ (0 : Int) ≤ g_rdPick b (Prod.fst A7_) (4 : Int) % (4 : Int) ∧ g_rdPick b (Prod.fst A7_) (4 : Int) % (4 : Int) ≤ (3 : Int) ∧ List.length (Prod.snd A7_) ≤ (12 : Nat) ∧ (0 : Nat) ≤ (144 : Nat) ∧ wGo A8_ A6_ = wGo A8_ A6_) ∧ ∀ (y1 : List Int × Int × (Int × Int) × (Int × Int × List Body × List Pair) × Int), let y1f0_ := Prod.fst y1; let y1s1_ := Prod.snd y1; let y1f1_ := Prod.fst (Prod.snd y1); let y1f2_ := Prod.fst (Prod.snd (Prod.snd y1)); let y1s3_ := Prod.snd (Prod.snd (Prod.snd y1)); let y1f3_ := Prod.fst (Prod.snd (Prod.snd (Prod.snd y1))); let y1s4_ := Prod.snd (Prod.snd (Prod.snd (Prod.snd y1))); let A5_ := (Prod.fst (Prod.snd y1f3_)); let A4_ := (Prod.snd (Prod.snd y1f3_)); let A3_ := A6_; let A2_ := (worldOk (Prod.fst y1f3_) A5_ (Prod.fst A4_) (Prod.snd A4_)); Holds (Prod.fst y1 = b ∧ y1f1_ = Prod.fst A7_ + (1 : Int) ∧ y1f2_ = ((0 : Int), (0 : Int)) ∧ (0 : Int) ≤ y1s4_ ∧ y1s4_ ≤ (3 : Int) ∧ List.length (Prod.fst A4_) ≤ (12 : Nat) ∧ List.length (Prod.snd A4_) ≤ (144 : Nat) ∧ wGo (Int.toNat y1s4_) y1f3_ = wGo A8_ A3_) → ifB (decide (Prod.snd y1s3_ > (0 : Int))) ((List.length (Prod.fst A4_) ≤ (1048576 : Nat) ∧ List.length (Prod.snd A4_) ≤ (1048576 : Nat)) ∧ Holds (Prod.fst y1 = b ∧ y1f1_ = Prod.fst A7_ + (1 : Int) ∧ y1f2_ = ((0 : Int), (0 : Int)) ∧ (0 : Int) ≤ w_ (Prod.snd y1s3_ - (1 : Int)) ∧ w_ (Prod.snd y1s3_ - (1 : Int)) ≤ (3 : Int) ∧ List.length (stepBodies A2_ (Prod.fst y1f3_) A5_ (Prod.fst A4_)) ≤ (12 : Nat) ∧ List.length (stepPs A2_ (Prod.fst y1f3_) A5_ (Prod.fst A4_) (Prod.snd A4_)) ≤ (144 : Nat) ∧ wGo (Int.toNat (w_ (Prod.snd y1s3_ - (1 : Int)))) (stepTick A2_ (Prod.fst y1f3_), orI A2_ A5_, stepBodies A2_ (Prod.fst y1f3_) A5_ (Prod.fst A4_), stepPs A2_ (Prod.fst y1f3_) A5_ (Prod.fst A4_) (Prod.snd A4_)) = wGo A8_ A3_) ∧ Int.toNat (w_ (Prod.snd y1s3_ - (1 : Int))) < Int.toNat y1s4_) (Q (SV.agg [SV.int IntKind.i64 (Prod.fst y1f3_), SV.int IntKind.i64 A5_, SV.vec (2 : Nat), SV.vec (3 : Nat)]) [(false, Blk.vec Ty.byte y1f0_), (true, Blk.box [SV.vec (0 : Nat), SV.int IntKind.i64 y1f1_]), (true, Blk.vec Ty.body (Prod.fst A4_)), (true, Blk.vec Ty.pair (Prod.snd A4_))])) := by kernel_rfl

theorem ok_l11World : FsOk Tryz.prog 115 fs_l11World := fsOk_of tt_ok (tabFs_cons ok_rdPick (tabFs_cons ok_rdOne (tabFs_cons ok_specWorldNew (tabFs_cons ok_l11Bodies (tabFs_cons ok_specWorldStep tabFs_nil))))) mixed Tryz.func115 (by kernel_rfl) (by kernel_rfl) (by
    intro args LL p r HH h hp
    unfold fs_l11World at h
    dsimp only at h
    split at h
    case h_2 => cases h
    rename_i b p
    simp only [Option.some.injEq, Prod.mk.injEq] at h
    obtain ⟨rfl, rfl, rfl⟩ := h
    refine ⟨by simp [Form, stays], (L_l11World), ?_⟩
    rw [vc_l11World]
    try dsimp only
    obtain ⟨hp0, hp1, hby⟩ := hp _ rfl
    obtain ⟨d1, d2, d3⟩ := dDraw_spec (b := b) (p := p + 1)
    have hl := bodiesOk_len d3
    have hk := pk_lt b (dDraw b (p + 1)).1 (n := 4) (by omega)
    simp only [pk] at hk
    refine ⟨⟨hp0, by omega, hby, by simp⟩, ⟨by omega, by omega, hby⟩, ⟨by omega, by omega, hby, by omega⟩, ⟨(by trivial), (by trivial), (by trivial), hk.1, by omega, hl, by omega, (by trivial)⟩, ?_⟩
    rintro ⟨b', p', r, ⟨t, q, xs, ps⟩, n⟩ ⟨h⟩
    dsimp only at h ⊢
    obtain ⟨rfl, rfl, rfl, n0, n1, l1, l2, hw⟩ := h
    refine ifB_of (fun c => ?_) (fun c => ?_)
    · have c := of_decide_eq_true c
      have w : IntKind.i64.wrap (n - 1) = n - 1 := wrap_small (by omega) (by omega)
      rw [w]
      refine ⟨⟨by omega, by omega⟩, ⟨(by trivial), (by trivial), (by trivial), by omega, by omega, stepBodies12 _ _ _ l1, stepPs144 _ _ _ _ l2, ?_⟩, by omega⟩
      rw [← hw, show n.toNat = (n - 1).toNat + 1 by omega]
      rfl
    · have c := of_decide_eq_false c
      rw [show n.toNat = 0 by omega] at hw
      have hw : (wDraw b' p).2 = (t, q, xs, ps) := hw.symm
      rw [hw]
      exact ⟨rfl, rfl⟩)

noncomputable def g_l11AnyWorld (b : List Int) (p : Int) : ({x : Int × Int × List Body × List Pair // worldD x}) × Nat := someAns tt (look [(69, fs_rdPick), (51, fs_rdOne), (115, fs_l11World), (75, fs_specCopyW), (50, fs_l11AnyBodies)]) Tryz.f72 [.ptr 1 0 0] [(false, .vec .byte b), (true, .box [.vec 0, .int .i64 p])] (fun x : ({x : Int × Int × List Body × List Pair // worldD x}) × Nat => (.agg [.int .i64 (x.1.1).1, .int .i64 (x.1.1).2.1, .vec 2, .vec 3] : SV)) (fun x : ({x : Int × Int × List Body × List Pair // worldD x}) × Nat => ([(false, .vec .byte b), (true, .box [.vec 0, .int .i64 (p + ((x.2 % 1001 : Nat) : Int))]), (true, .vec .body ((x.1.1).2.2.1)), (true, .vec .pair ((x.1.1).2.2.2))] : List Ent))
noncomputable def fs_l11AnyWorld : Fs := ⟨[], fun args H => match args, H with
  | [.ptr 1 0 0], [(false, .vec .byte b), (true, .box [.vec 0, .int .i64 p])] => some ((some (0 ≤ p ∧ p + 1000 ≤ 1000000000000 ∧ BytesOk b)), .agg [.int .i64 ((g_l11AnyWorld b p).1.1).1, .int .i64 ((g_l11AnyWorld b p).1.1).2.1, .vec 2, .vec 3], [(false, .vec .byte b), (true, .box [.vec 0, .int .i64 (p + (((g_l11AnyWorld b p).2 % 1001 : Nat) : Int))]), (true, .vec .body (((g_l11AnyWorld b p).1.1).2.2.1)), (true, .vec .pair (((g_l11AnyWorld b p).1.1).2.2.2))])
  | _, _ => none⟩

theorem vc_l11AnyWorld (b : List Int) (p : Int) (Q : SV → List Ent → Prop) :
    fnVC tt (look [(69, fs_rdPick), (51, fs_rdOne), (115, fs_l11World), (75, fs_specCopyW), (50, fs_l11AnyBodies)]) L0 Tryz.f72 [.ptr 1 0 0] [(false, .vec .byte b), (true, .box [.vec 0, .int .i64 p])] Q =
    (let s_ := SV.int IntKind.i64; let vb_ := Blk.vec Ty.body; let vp_ := Blk.vec Ty.pair; let vy_ := Blk.vec Ty.byte; let A2_ := (Prod.fst (wDraw b p) + (1 : Int)); let A1_ := (Prod.snd (Prod.snd (Prod.snd (wDraw b p)))); ((0 : Int) ≤ p ∧ p + (402 : Int) ≤ (1000000000000 : Int) ∧ BytesOk b) ∧ (List.length (Prod.fst A1_) ≤ (1048576 : Nat) ∧ List.length (Prod.snd A1_) ≤ (1048576 : Nat)) ∧ ((0 : Int) ≤ Prod.fst (wDraw b p) ∧ Prod.fst (wDraw b p) + (1 : Int) ≤ (1000000000000 : Int) ∧ BytesOk b ∧ (1 : Int) ≤ (24 : Int)) ∧ ifB (g_rdPick b (Prod.fst (wDraw b p)) (24 : Int) % (24 : Int) == (0 : Int)) (((0 : Int) ≤ Prod.fst (wDraw b p) + (1 : Int) ∧ Prod.fst (wDraw b p) + (1 : Int) + (1 : Int) ≤ (1000000000000 : Int) ∧ BytesOk b ∧ (1 : Nat) ≤ List.length [(-1 : Int), (100000 : Int), (100001 : Int)]) ∧ Q (SV.agg [s_ (Ty.ix Ty.int [(-1 : Int), (100000 : Int), (100001 : Int)] (Int.toNat (g_rdPick b A2_ (↑(List.length [(-1 : Int), (100000 : Int), (100001 : Int)]) : Int) % (↑(List.length [(-1 : Int), (100000 : Int), (100001 : Int)]) : Int)))), s_ (Prod.fst (Prod.snd (Prod.snd (wDraw b p)))), SV.vec (2 : Nat), SV.vec (3 : Nat)]) [(false, vy_ b), (true, Blk.box [SV.vec (0 : Nat), s_ (Prod.fst (wDraw b p) + (1 : Int) + (1 : Int))]), (true, vb_ (Prod.fst A1_)), (true, vp_ (Prod.snd A1_))]) (ifB (g_rdPick b (Prod.fst (wDraw b p)) (24 : Int) % (24 : Int) == (1 : Int)) (((0 : Int) ≤ Prod.fst (wDraw b p) + (1 : Int) ∧ Prod.fst (wDraw b p) + (1 : Int) + (1 : Int) ≤ (1000000000000 : Int) ∧ BytesOk b ∧ (1 : Nat) ≤ List.length [(-1 : Int), (2561 : Int)]) ∧ Q (SV.agg [s_ (Prod.fst (Prod.snd (wDraw b p))), s_ (Ty.ix Ty.int [(-1 : Int), (2561 : Int)] (Int.toNat (g_rdPick b A2_ (↑(List.length [(-1 : Int), (2561 : Int)]) : Int) % (↑(List.length [(-1 : Int), (2561 : Int)]) : Int)))), SV.vec (2 : Nat), SV.vec (3 : Nat)]) [(false, vy_ b), (true, Blk.box [SV.vec (0 : Nat), s_ (Prod.fst (wDraw b p) + (1 : Int) + (1 : Int))]), (true, vb_ (Prod.fst A1_)), (true, vp_ (Prod.snd A1_))]) (ifB (g_rdPick b (Prod.fst (wDraw b p)) (24 : Int) % (24 : Int) == (2 : Int)) (((0 : Int) ≤ Prod.fst (wDraw b p) + (1 : Int) ∧ Prod.fst (wDraw b p) + (1 : Int) + (450 : Int) ≤ (1000000000000 : Int) ∧ BytesOk b) ∧ Q (SV.agg [s_ (Prod.fst (Prod.snd (wDraw b p))), s_ (Prod.fst (Prod.snd (Prod.snd (wDraw b p)))), SV.vec (2 : Nat), SV.vec (3 : Nat)]) [(false, vy_ b), (true, Blk.box [SV.vec (0 : Nat), s_ (Prod.fst (wDraw b p) + (1 : Int) + (↑(Prod.snd (g_l11AnyBodies b A2_) % (451 : Nat)) : Int))]), (true, vb_ (Subtype.val (Prod.fst (g_l11AnyBodies b A2_)))), (true, vp_ (Prod.snd A1_))]) (ifB (g_rdPick b (Prod.fst (wDraw b p)) (24 : Int) % (24 : Int) == (3 : Int)) (((0 : Int) ≤ Prod.fst (wDraw b p) + (1 : Int) ∧ Prod.fst (wDraw b p) + (1 : Int) + (1 : Int) ≤ (1000000000000 : Int) ∧ BytesOk b ∧ (1 : Int) ≤ (5 : Int)) ∧ ((0 : Int) ≤ Prod.fst (wDraw b p) + (1 : Int) + (1 : Int) ∧ Prod.fst (wDraw b p) + (1 : Int) + (1 : Int) + (1 : Int) ≤ (1000000000000 : Int) ∧ BytesOk b ∧ (1 : Int) ≤ (9 : Int)) ∧ (List.length (Prod.snd A1_) + List.length [Pair.mk (g_rdPick b A2_ (5 : Int) % (5 : Int)) (g_rdPick b (Prod.fst (wDraw b p) + (1 : Int) + (1 : Int)) (9 : Int) % (9 : Int))]) * (16 : Nat) ≤ room ∧ Q (SV.agg [s_ (Prod.fst (Prod.snd (wDraw b p))), s_ (Prod.fst (Prod.snd (Prod.snd (wDraw b p)))), SV.vec (2 : Nat), SV.vec (3 : Nat)]) [(false, vy_ b), (true, Blk.box [SV.vec (0 : Nat), s_ (Prod.fst (wDraw b p) + (1 : Int) + (1 : Int) + (1 : Int))]), (true, vb_ (Prod.fst A1_)), (true, vp_ (Prod.snd A1_ ++ [Pair.mk (g_rdPick b A2_ (5 : Int) % (5 : Int)) (g_rdPick b (Prod.fst (wDraw b p) + (1 : Int) + (1 : Int)) (9 : Int) % (9 : Int))]))]) (Q (SV.agg [s_ (Prod.fst (Prod.snd (wDraw b p))), s_ (Prod.fst (Prod.snd (Prod.snd (wDraw b p)))), SV.vec (2 : Nat), SV.vec (3 : Nat)]) [(false, vy_ b), (true, Blk.box [SV.vec (0 : Nat), s_ A2_]), (true, vb_ (Prod.fst A1_)), (true, vp_ (Prod.snd A1_))]))))) := by kernel_rfl

theorem ok_l11AnyWorld : FsOk Tryz.prog 72 fs_l11AnyWorld := fsOk_of tt_ok (tabFs_cons ok_rdPick (tabFs_cons ok_rdOne (tabFs_cons ok_l11World (tabFs_cons ok_specCopyW (tabFs_cons ok_l11AnyBodies tabFs_nil))))) mixed Tryz.func72 (by kernel_rfl) (by kernel_rfl) (by
    intro args LL p0 r HH h hp
    unfold fs_l11AnyWorld at h
    dsimp only at h
    split at h
    case h_2 => cases h
    rename_i b p
    simp only [Option.some.injEq, Prod.mk.injEq] at h
    obtain ⟨rfl, rfl, rfl⟩ := h
    refine ⟨by simp [Form, stays], L0, ?_⟩
    obtain ⟨hp0, hp1, hby⟩ := hp _ rfl
    refine someAns_ok (R := (fun x : ({x : Int × Int × List Body × List Pair // worldD x}) × Nat => (.agg [.int .i64 (x.1.1).1, .int .i64 (x.1.1).2.1, .vec 2, .vec 3] : SV))) (HH := (fun x : ({x : Int × Int × List Body × List Pair // worldD x}) × Nat => ([(false, .vec .byte b), (true, .box [.vec 0, .int .i64 (p + ((x.2 % 1001 : Nat) : Int))]), (true, .vec .body ((x.1.1).2.2.1)), (true, .vec .pair ((x.1.1).2.2.2))] : List Ent))) (by kernel_rfl) ?_
    have fin : ∀ (zT : Int) (zP : Int) (zB : List Body) (zQ : List Pair) (p' : Int), worldD (zT, zP, zB, zQ) → p ≤ p' → p' ≤ p + 1000 → ∃ x : ({x : Int × Int × List Body × List Pair // worldD x}) × Nat, ((.agg [.int .i64 ((zT, zP, zB, zQ)).1, .int .i64 ((zT, zP, zB, zQ)).2.1, .vec 2, .vec 3] : SV) : SV) = (fun x : ({x : Int × Int × List Body × List Pair // worldD x}) × Nat => (.agg [.int .i64 (x.1.1).1, .int .i64 (x.1.1).2.1, .vec 2, .vec 3] : SV)) x ∧ (([(false, .vec .byte b), (true, .box [.vec 0, .int .i64 p']), (true, .vec .body (((zT, zP, zB, zQ)).2.2.1)), (true, .vec .pair (((zT, zP, zB, zQ)).2.2.2))] : List Ent) : List Ent) = (fun x : ({x : Int × Int × List Body × List Pair // worldD x}) × Nat => ([(false, .vec .byte b), (true, .box [.vec 0, .int .i64 (p + ((x.2 % 1001 : Nat) : Int))]), (true, .vec .body ((x.1.1).2.2.1)), (true, .vec .pair ((x.1.1).2.2.2))] : List Ent)) x := fun zT zP zB zQ p' hpred h1 h2 => ⟨(⟨(zT, zP, zB, zQ), hpred⟩, (p' - p).toNat), rfl, by
      have : p + (((p' - p).toNat % 1001 : Nat) : Int) = p' := by omega
      dsimp only
      rw [this]⟩
    rw [vc_l11AnyWorld]
    try dsimp only
    try dsimp only at fin
    obtain ⟨d1, d2, d3, d4⟩ := wDraw_spec (b := b) (p := p)
    have h1 := fun q => (g_l11AnyBodies b q).1.2
    simp only [bodiesP] at h1
    generalize wDraw b p = w at *
    repeat' (first | refine ifB_of (fun _ => ?_) (fun _ => ?_) | refine pre_of ?_ (fun _ => ?_))
    all_goals first
      | omega
      | exact hby
      | exact Nat.le_add_left _ _
      | (refine fin _ _ _ _ _ ?_ ?_ ?_ <;> first | omega | (simp only [worldD, List.length_append, List.length_cons, List.length_nil]; first | omega | (refine ⟨h1 _, ?_⟩; omega)))
      | (simp only [room, List.length_cons, List.length_nil]; omega))

end
end Go.Proofs.YtnahfbjdicjdpaaGreat.Sym

namespace Go.Proofs.YtnahfbjdicjdpaaGreat.Sym
open Go
set_option linter.unusedVariables false
set_option linter.unusedSimpArgs false
set_option maxRecDepth 100000
noncomputable section

abbrev Wd := Int × Int × List Body × List Pair
noncomputable def g_l11Id (b : List Int) (p : Int) (wT : Int) (wP : Int) (wB : List Body) (wQ : List Pair) : (Int) × Nat := someAns tt (look [(69, fs_rdPick)]) Tryz.f81 [.ptr 1 0 0, .agg [.int .i64 wT, .int .i64 wP, .vec 2, .vec 3]] [(false, .vec .byte b), (true, .box [.vec 0, .int .i64 p]), (false, .vec .body wB), (false, .vec .pair wQ)] (fun x : (Int) × Nat => (.int .i64 (x.1) : SV)) (fun x : (Int) × Nat => ([(false, .vec .byte b), (true, .box [.vec 0, .int .i64 (p + ((x.2 % 3 : Nat) : Int))]), (false, .vec .body wB), (false, .vec .pair wQ)] : List Ent))
noncomputable def fs_l11Id : Fs := ⟨[], fun args H => match args, H with
  | [.ptr 1 0 0, .agg [.int .i64 wT, .int .i64 wP, .vec 2, .vec 3]], [(false, .vec .byte b), (true, .box [.vec 0, .int .i64 p]), (false, .vec .body wB), (false, .vec .pair wQ)] => some ((some (0 ≤ p ∧ p + 2 ≤ 1000000000000 ∧ BytesOk b ∧ wB.length ≤ 1048576)), .int .i64 ((g_l11Id b p wT wP wB wQ).1), [(false, .vec .byte b), (true, .box [.vec 0, .int .i64 (p + (((g_l11Id b p wT wP wB wQ).2 % 3 : Nat) : Int))]), (false, .vec .body wB), (false, .vec .pair wQ)])
  | _, _ => none⟩

theorem vc_l11Id (b : List Int) (p : Int) (wT : Int) (wP : Int) (wB : List Body) (wQ : List Pair) (Q : SV → List Ent → Prop) :
    fnVC tt (look [(69, fs_rdPick)]) L0 Tryz.f81 [.ptr 1 0 0, .agg [.int .i64 wT, .int .i64 wP, .vec 2, .vec 3]] [(false, .vec .byte b), (true, .box [.vec 0, .int .i64 p]), (false, .vec .body wB), (false, .vec .pair wQ)] Q =
    (ifB ((↑(List.length wB) : Int) == (0 : Int)) (((0 : Int) ≤ p ∧ p + (1 : Int) ≤ (1000000000000 : Int) ∧ BytesOk b ∧ (1 : Int) ≤ (60 : Int)) ∧ Q (SV.int IntKind.i64 (IntKind.wrap IntKind.i64 (g_rdPick b p (60 : Int) % (60 : Int) - (1 : Int)))) [(false, Blk.vec Ty.byte b), (true, Blk.box [SV.vec (0 : Nat), SV.int IntKind.i64 (p + (1 : Int))]), (false, Blk.vec Ty.body wB), (false, Blk.vec Ty.pair wQ)]) (((0 : Int) ≤ p ∧ p + (1 : Int) ≤ (1000000000000 : Int) ∧ BytesOk b ∧ (1 : Int) ≤ (8 : Int)) ∧ ifB (g_rdPick b p (8 : Int) % (8 : Int) == (0 : Int)) (((0 : Int) ≤ p + (1 : Int) ∧ p + (1 : Int) + (1 : Int) ≤ (1000000000000 : Int) ∧ BytesOk b ∧ (1 : Int) ≤ (60 : Int)) ∧ Q (SV.int IntKind.i64 (IntKind.wrap IntKind.i64 (g_rdPick b (p + (1 : Int)) (60 : Int) % (60 : Int) - (1 : Int)))) [(false, Blk.vec Ty.byte b), (true, Blk.box [SV.vec (0 : Nat), SV.int IntKind.i64 (p + (1 : Int) + (1 : Int))]), (false, Blk.vec Ty.body wB), (false, Blk.vec Ty.pair wQ)]) (((0 : Int) ≤ p + (1 : Int) ∧ p + (1 : Int) + (1 : Int) ≤ (1000000000000 : Int) ∧ BytesOk b ∧ (1 : Int) ≤ (↑(List.length wB) : Int)) ∧ ((0 : Int) ≤ g_rdPick b (p + (1 : Int)) (↑(List.length wB) : Int) % (↑(List.length wB) : Int) ∧ g_rdPick b (p + (1 : Int)) (↑(List.length wB) : Int) % (↑(List.length wB) : Int) < (↑(List.length wB) : Int)) ∧ Q (SV.int IntKind.i64 (Body.Id (Ty.ix Ty.body wB (Int.toNat (g_rdPick b (p + (1 : Int)) (↑(List.length wB) : Int) % (↑(List.length wB) : Int)))))) [(false, Blk.vec Ty.byte b), (true, Blk.box [SV.vec (0 : Nat), SV.int IntKind.i64 (p + (1 : Int) + (1 : Int))]), (false, Blk.vec Ty.body wB), (false, Blk.vec Ty.pair wQ)]))) := by kernel_rfl

theorem ok_l11Id : FsOk Tryz.prog 81 fs_l11Id := fsOk_of tt_ok (tabFs_cons ok_rdPick tabFs_nil) mixed Tryz.func81 (by kernel_rfl) (by kernel_rfl) (by
    intro args LL p0 r HH h hp
    unfold fs_l11Id at h
    dsimp only at h
    split at h
    case h_2 => cases h
    rename_i wT wP b p wB wQ
    simp only [Option.some.injEq, Prod.mk.injEq] at h
    obtain ⟨rfl, rfl, rfl⟩ := h
    refine ⟨by simp [Form, stays], L0, ?_⟩
    obtain ⟨hp0, hp1, hby, hpp⟩ := hp _ rfl
    refine someAns_ok (R := (fun x : (Int) × Nat => (.int .i64 (x.1) : SV))) (HH := (fun x : (Int) × Nat => ([(false, .vec .byte b), (true, .box [.vec 0, .int .i64 (p + ((x.2 % 3 : Nat) : Int))]), (false, .vec .body wB), (false, .vec .pair wQ)] : List Ent))) (by kernel_rfl) ?_
    have fin : ∀ (z : Int) (p' : Int), p ≤ p' → p' ≤ p + 2 → ∃ x : (Int) × Nat, ((.int .i64 (z) : SV) : SV) = (fun x : (Int) × Nat => (.int .i64 (x.1) : SV)) x ∧ (([(false, .vec .byte b), (true, .box [.vec 0, .int .i64 p']), (false, .vec .body wB), (false, .vec .pair wQ)] : List Ent) : List Ent) = (fun x : (Int) × Nat => ([(false, .vec .byte b), (true, .box [.vec 0, .int .i64 (p + ((x.2 % 3 : Nat) : Int))]), (false, .vec .body wB), (false, .vec .pair wQ)] : List Ent)) x := fun z p' h1 h2 => ⟨(z, (p' - p).toNat), rfl, by
      have : p + (((p' - p).toNat % 3 : Nat) : Int) = p' := by omega
      dsimp only
      rw [this]⟩
    rw [vc_l11Id]
    try dsimp only
    try dsimp only at fin
    repeat' (first | refine ifB_of (fun _ => ?_) (fun _ => ?_) | refine pre_of ?_ (fun _ => ?_))
    all_goals first
      | omega
      | exact hby
      | (refine fin _ _ ?_ ?_ <;> omega)
      | (have := beq_eq_false_iff_ne.1 ‹((wB.length : Int) == 0) = false›; omega)
      | exact Int.emod_nonneg _ (by have := beq_eq_false_iff_ne.1 ‹((wB.length : Int) == 0) = false›; omega)
      | exact Int.emod_lt_of_pos _ (by have := beq_eq_false_iff_ne.1 ‹((wB.length : Int) == 0) = false›; omega))

end
end Go.Proofs.YtnahfbjdicjdpaaGreat.Sym

namespace Go.Proofs.YtnahfbjdicjdpaaGreat.Sym
open Go
set_option linter.unusedVariables false
set_option linter.unusedSimpArgs false
set_option maxRecDepth 100000
noncomputable section
def drawStepP (z : List Body × Int) : Prop := z.1.length ≤ 13
instance : Nonempty {x : List Body × Int // drawStepP x} := ⟨⟨([], 0), by simp [drawStepP]⟩⟩
def drawStepsP (z : List Body × Int × Int) : Prop := z.1.length ≤ 13 ∧ 0 ≤ z.2.1 ∧ z.2.1 ≤ 2560
instance : Nonempty {x : List Body × Int × Int // drawStepsP x} := ⟨⟨([], 0, 0), by simp [drawStepsP]⟩⟩
def goneD (z : Wd × Int) : Prop := worldD z.1
instance : Nonempty {x : Wd × Int // goneD x} := ⟨⟨((0, 0, [], []), 0), by simp [goneD, worldD]⟩⟩
noncomputable def g_DrawWorldGone (b : List Int) : {x : (Int × Int × List Body × List Pair) × Int // goneD x} := someAns tt (look [(49, fs_l1Open), (72, fs_l11AnyWorld), (81, fs_l11Id)]) Tryz.f39 [.vec 0] [(false, .vec .byte b)] (fun x : {x : (Int × Int × List Body × List Pair) × Int // goneD x} => (.tup [.agg [.int .i64 ((x.1).1).1, .int .i64 ((x.1).1).2.1, .vec 1, .vec 2], .int .i64 ((x.1).2)] : SV)) (fun x : {x : (Int × Int × List Body × List Pair) × Int // goneD x} => ([(false, .vec .byte b), (true, .vec .body (((x.1).1).2.2.1)), (true, .vec .pair (((x.1).1).2.2.2))] : List Ent))
noncomputable def fs_DrawWorldGone : Fs := ⟨[], fun args H => match args, H with
  | [.vec 0], [(false, .vec .byte b)] => some ((some (BytesOk b)), .tup [.agg [.int .i64 (((g_DrawWorldGone b).1).1).1, .int .i64 (((g_DrawWorldGone b).1).1).2.1, .vec 1, .vec 2], .int .i64 (((g_DrawWorldGone b).1).2)], [(false, .vec .byte b), (true, .vec .body ((((g_DrawWorldGone b).1).1).2.2.1)), (true, .vec .pair ((((g_DrawWorldGone b).1).1).2.2.2))])
  | _, _ => none⟩

theorem vc_DrawWorldGone (b : List Int) (Q : SV → List Ent → Prop) :
    fnVC tt (look [(49, fs_l1Open), (72, fs_l11AnyWorld), (81, fs_l11Id)]) L0 Tryz.f39 [.vec 0] [(false, .vec .byte b)] Q =
    (((0 : Int) ≤ (0 : Int) ∧ (0 : Int) + (1000 : Int) ≤ (1000000000000 : Int) ∧ BytesOk (List.take (min (List.length b) (2000 : Nat)) (List.drop (0 : Nat) b))) ∧ ((0 : Int) ≤ (0 : Int) + (↑(Prod.snd (g_l11AnyWorld (List.take (min (List.length b) (2000 : Nat)) (List.drop (0 : Nat) b)) (0 : Int)) % (1001 : Nat)) : Int) ∧ (0 : Int) + (↑(Prod.snd (g_l11AnyWorld (List.take (min (List.length b) (2000 : Nat)) (List.drop (0 : Nat) b)) (0 : Int)) % (1001 : Nat)) : Int) + (2 : Int) ≤ (1000000000000 : Int) ∧ BytesOk (List.take (min (List.length b) (2000 : Nat)) (List.drop (0 : Nat) b)) ∧ List.length (Prod.fst (Prod.snd (Prod.snd (Subtype.val (Prod.fst (g_l11AnyWorld (List.take (min (List.length b) (2000 : Nat)) (List.drop (0 : Nat) b)) (0 : Int))))))) ≤ (1048576 : Nat)) ∧ Q (SV.tup [SV.agg [SV.int IntKind.i64 (Prod.fst (Subtype.val (Prod.fst (g_l11AnyWorld (List.take (min (List.length b) (2000 : Nat)) (List.drop (0 : Nat) b)) (0 : Int))))), SV.int IntKind.i64 (Prod.fst (Prod.snd (Subtype.val (Prod.fst (g_l11AnyWorld (List.take (min (List.length b) (2000 : Nat)) (List.drop (0 : Nat) b)) (0 : Int)))))), SV.vec (1 : Nat), SV.vec (2 : Nat)], SV.int IntKind.i64 (Prod.fst (g_l11Id (List.take (min (List.length b) (2000 : Nat)) (List.drop (0 : Nat) b)) ((0 : Int) + (↑(Prod.snd (g_l11AnyWorld (List.take (min (List.length b) (2000 : Nat)) (List.drop (0 : Nat) b)) (0 : Int)) % (1001 : Nat)) : Int)) (Prod.fst (Subtype.val (Prod.fst (g_l11AnyWorld (List.take (min (List.length b) (2000 : Nat)) (List.drop (0 : Nat) b)) (0 : Int))))) (Prod.fst (Prod.snd (Subtype.val (Prod.fst (g_l11AnyWorld (List.take (min (List.length b) (2000 : Nat)) (List.drop (0 : Nat) b)) (0 : Int)))))) (Prod.fst (Prod.snd (Prod.snd (Subtype.val (Prod.fst (g_l11AnyWorld (List.take (min (List.length b) (2000 : Nat)) (List.drop (0 : Nat) b)) (0 : Int))))))) (Prod.snd (Prod.snd (Prod.snd (Subtype.val (Prod.fst (g_l11AnyWorld (List.take (min (List.length b) (2000 : Nat)) (List.drop (0 : Nat) b)) (0 : Int)))))))))]) [(false, Blk.vec Ty.byte b), (true, Blk.vec Ty.body (Prod.fst (Prod.snd (Prod.snd (Subtype.val (Prod.fst (g_l11AnyWorld (List.take (min (List.length b) (2000 : Nat)) (List.drop (0 : Nat) b)) (0 : Int)))))))), (true, Blk.vec Ty.pair (Prod.snd (Prod.snd (Prod.snd (Subtype.val (Prod.fst (g_l11AnyWorld (List.take (min (List.length b) (2000 : Nat)) (List.drop (0 : Nat) b)) (0 : Int))))))))]) := by kernel_rfl

theorem ok_DrawWorldGone : FsOk Tryz.prog 39 fs_DrawWorldGone := fsOk_of tt_ok (tabFs_cons ok_l1Open (tabFs_cons ok_l11AnyWorld (tabFs_cons ok_l11Id tabFs_nil))) mixed Tryz.func39 (by kernel_rfl) (by kernel_rfl) (by
    intro args LL p0 r HH h hp
    unfold fs_DrawWorldGone at h
    dsimp only at h
    split at h
    case h_2 => cases h
    rename_i b
    simp only [Option.some.injEq, Prod.mk.injEq] at h
    obtain ⟨rfl, rfl, rfl⟩ := h
    refine ⟨by simp [Form, stays], L0, ?_⟩
    have hby := hp _ rfl
    refine someAns_ok (R := (fun x : {x : (Int × Int × List Body × List Pair) × Int // goneD x} => (.tup [.agg [.int .i64 ((x.1).1).1, .int .i64 ((x.1).1).2.1, .vec 1, .vec 2], .int .i64 ((x.1).2)] : SV))) (HH := (fun x : {x : (Int × Int × List Body × List Pair) × Int // goneD x} => ([(false, .vec .byte b), (true, .vec .body (((x.1).1).2.2.1)), (true, .vec .pair (((x.1).1).2.2.2))] : List Ent))) (by kernel_rfl) ?_
    have fin : ∀ (z0T : Int) (z0P : Int) (z0B : List Body) (z0Q : List Pair) (z1 : Int), goneD ((z0T, z0P, z0B, z0Q), z1) → ∃ x : {x : (Int × Int × List Body × List Pair) × Int // goneD x}, ((.tup [.agg [.int .i64 ((((z0T, z0P, z0B, z0Q), z1)).1).1, .int .i64 ((((z0T, z0P, z0B, z0Q), z1)).1).2.1, .vec 1, .vec 2], .int .i64 ((((z0T, z0P, z0B, z0Q), z1)).2)] : SV) : SV) = (fun x : {x : (Int × Int × List Body × List Pair) × Int // goneD x} => (.tup [.agg [.int .i64 ((x.1).1).1, .int .i64 ((x.1).1).2.1, .vec 1, .vec 2], .int .i64 ((x.1).2)] : SV)) x ∧ (([(false, .vec .byte b), (true, .vec .body (((((z0T, z0P, z0B, z0Q), z1)).1).2.2.1)), (true, .vec .pair (((((z0T, z0P, z0B, z0Q), z1)).1).2.2.2))] : List Ent) : List Ent) = (fun x : {x : (Int × Int × List Body × List Pair) × Int // goneD x} => ([(false, .vec .byte b), (true, .vec .body (((x.1).1).2.2.1)), (true, .vec .pair (((x.1).1).2.2.2))] : List Ent)) x := fun z0T z0P z0B z0Q z1 hpred => ⟨⟨((z0T, z0P, z0B, z0Q), z1), hpred⟩, rfl, rfl⟩
    rw [vc_DrawWorldGone]
    try dsimp only
    try dsimp only at fin
    have hc := hby.part 0 (min b.length 2000)
    generalize List.take (min b.length 2000) (List.drop 0 b) = c at *
    have hw := (g_l11AnyWorld c 0).1.2
    simp only [worldD] at hw
    repeat' (first | refine ifB_of (fun _ => ?_) (fun _ => ?_) | refine pre_of ?_ (fun _ => ?_))
    all_goals first
      | omega
      | exact hc
      | exact Nat.le_add_left _ _
      | (refine fin _ _ _ _ _ ?_; exact hw))

def putD (z : Wd × Body) : Prop := worldD z.1
instance : Nonempty {x : Wd × Body // putD x} := ⟨⟨((0, 0, [], []), ⟨0, ⟨0, 0, 0⟩, ⟨0, 0⟩, ⟨0, 0⟩, 0, 0, 0, 0⟩), by simp [putD, worldD]⟩⟩
noncomputable def g_DrawWorldPut (b : List Int) : {x : (Int × Int × List Body × List Pair) × Body // putD x} := someAns tt (look [(49, fs_l1Open), (72, fs_l11AnyWorld), (87, fs_l11AnyBody), (69, fs_rdPick)]) Tryz.f44 [.vec 0] [(false, .vec .byte b)] (fun x : {x : (Int × Int × List Body × List Pair) × Body // putD x} => (.tup [.agg [.int .i64 ((x.1).1).1, .int .i64 ((x.1).1).2.1, .vec 1, .vec 2], .agg [.int .i64 ((x.1).2).Id, .int .i64 ((x.1).2).Shape.Kind, .int .i64 ((x.1).2).Shape.Wide, .int .i64 ((x.1).2).Shape.High, .int .i64 ((x.1).2).At.X, .int .i64 ((x.1).2).At.Y, .int .i64 ((x.1).2).Drive.X, .int .i64 ((x.1).2).Drive.Y, .int .i64 ((x.1).2).Mass, .int .i64 ((x.1).2).Bounce, .int .i64 ((x.1).2).Rub, .int .i64 ((x.1).2).Quiet]] : SV)) (fun x : {x : (Int × Int × List Body × List Pair) × Body // putD x} => ([(false, .vec .byte b), (true, .vec .body (((x.1).1).2.2.1)), (true, .vec .pair (((x.1).1).2.2.2))] : List Ent))
noncomputable def fs_DrawWorldPut : Fs := ⟨[], fun args H => match args, H with
  | [.vec 0], [(false, .vec .byte b)] => some ((some (BytesOk b)), .tup [.agg [.int .i64 (((g_DrawWorldPut b).1).1).1, .int .i64 (((g_DrawWorldPut b).1).1).2.1, .vec 1, .vec 2], .agg [.int .i64 (((g_DrawWorldPut b).1).2).Id, .int .i64 (((g_DrawWorldPut b).1).2).Shape.Kind, .int .i64 (((g_DrawWorldPut b).1).2).Shape.Wide, .int .i64 (((g_DrawWorldPut b).1).2).Shape.High, .int .i64 (((g_DrawWorldPut b).1).2).At.X, .int .i64 (((g_DrawWorldPut b).1).2).At.Y, .int .i64 (((g_DrawWorldPut b).1).2).Drive.X, .int .i64 (((g_DrawWorldPut b).1).2).Drive.Y, .int .i64 (((g_DrawWorldPut b).1).2).Mass, .int .i64 (((g_DrawWorldPut b).1).2).Bounce, .int .i64 (((g_DrawWorldPut b).1).2).Rub, .int .i64 (((g_DrawWorldPut b).1).2).Quiet]], [(false, .vec .byte b), (true, .vec .body ((((g_DrawWorldPut b).1).1).2.2.1)), (true, .vec .pair ((((g_DrawWorldPut b).1).1).2.2.2))])
  | _, _ => none⟩

theorem vc_DrawWorldPut (b : List Int) (Q : SV → List Ent → Prop) :
    fnVC tt (look [(49, fs_l1Open), (72, fs_l11AnyWorld), (87, fs_l11AnyBody), (69, fs_rdPick)]) L0 Tryz.f44 [.vec 0] [(false, .vec .byte b)] Q =
    (let s_ := SV.int IntKind.i64; let A2_ := (List.take (min (List.length b) (2000 : Nat)) (List.drop (0 : Nat) b)); let A4_ := (Subtype.val (Prod.fst (g_l11AnyWorld A2_ (0 : Int)))); let A3_ := (↑(Prod.snd (g_l11AnyWorld A2_ (0 : Int)) % (1001 : Nat)) : Int); let A1_ := (g_l11AnyBody A2_ ((0 : Int) + A3_)); ((0 : Int) ≤ (0 : Int) ∧ (0 : Int) + (1000 : Int) ≤ (1000000000000 : Int) ∧ BytesOk A2_) ∧ ((0 : Int) ≤ (0 : Int) + A3_ ∧ (0 : Int) + A3_ + (24 : Int) ≤ (1000000000000 : Int) ∧ BytesOk A2_) ∧ ((0 : Int) ≤ (0 : Int) + A3_ + (↑(Prod.snd A1_ % (25 : Nat)) : Int) ∧ (0 : Int) + A3_ + (↑(Prod.snd A1_ % (25 : Nat)) : Int) + (1 : Int) ≤ (1000000000000 : Int) ∧ BytesOk A2_ ∧ (1 : Int) ≤ (2 : Int)) ∧ ifB (g_rdPick A2_ ((0 : Int) + A3_ + (↑(Prod.snd A1_ % (25 : Nat)) : Int)) (2 : Int) % (2 : Int) == (0 : Int)) (((0 : Int) ≤ (0 : Int) + A3_ + (↑(Prod.snd A1_ % (25 : Nat)) : Int) + (1 : Int) ∧ (0 : Int) + A3_ + (↑(Prod.snd A1_ % (25 : Nat)) : Int) + (1 : Int) + (1 : Int) ≤ (1000000000000 : Int) ∧ BytesOk A2_ ∧ (1 : Int) ≤ (9 : Int)) ∧ Q (SV.tup [SV.agg [s_ (Prod.fst A4_), s_ (Prod.fst (Prod.snd A4_)), SV.vec (1 : Nat), SV.vec (2 : Nat)], SV.agg [s_ (IntKind.wrap IntKind.i64 ((30 : Int) + g_rdPick A2_ ((0 : Int) + A3_ + (↑(Prod.snd A1_ % (25 : Nat)) : Int) + (1 : Int)) (9 : Int) % (9 : Int))), s_ (Shape.Kind (Body.Shape (Prod.fst A1_))), s_ (Shape.Wide (Body.Shape (Prod.fst A1_))), s_ (Shape.High (Body.Shape (Prod.fst A1_))), s_ (Vec.X (Body.At (Prod.fst A1_))), s_ (Vec.Y (Body.At (Prod.fst A1_))), s_ (Vec.X (Body.Drive (Prod.fst A1_))), s_ (Vec.Y (Body.Drive (Prod.fst A1_))), s_ (Body.Mass (Prod.fst A1_)), s_ (Body.Bounce (Prod.fst A1_)), s_ (Body.Rub (Prod.fst A1_)), s_ (Body.Quiet (Prod.fst A1_))]]) [(false, Blk.vec Ty.byte b), (true, Blk.vec Ty.body (Prod.fst (Prod.snd (Prod.snd A4_)))), (true, Blk.vec Ty.pair (Prod.snd (Prod.snd (Prod.snd A4_))))]) (Q (SV.tup [SV.agg [s_ (Prod.fst A4_), s_ (Prod.fst (Prod.snd A4_)), SV.vec (1 : Nat), SV.vec (2 : Nat)], SV.agg [s_ (Body.Id (Prod.fst A1_)), s_ (Shape.Kind (Body.Shape (Prod.fst A1_))), s_ (Shape.Wide (Body.Shape (Prod.fst A1_))), s_ (Shape.High (Body.Shape (Prod.fst A1_))), s_ (Vec.X (Body.At (Prod.fst A1_))), s_ (Vec.Y (Body.At (Prod.fst A1_))), s_ (Vec.X (Body.Drive (Prod.fst A1_))), s_ (Vec.Y (Body.Drive (Prod.fst A1_))), s_ (Body.Mass (Prod.fst A1_)), s_ (Body.Bounce (Prod.fst A1_)), s_ (Body.Rub (Prod.fst A1_)), s_ (Body.Quiet (Prod.fst A1_))]]) [(false, Blk.vec Ty.byte b), (true, Blk.vec Ty.body (Prod.fst (Prod.snd (Prod.snd A4_)))), (true, Blk.vec Ty.pair (Prod.snd (Prod.snd (Prod.snd A4_))))])) := by kernel_rfl

theorem ok_DrawWorldPut : FsOk Tryz.prog 44 fs_DrawWorldPut := fsOk_of tt_ok (tabFs_cons ok_l1Open (tabFs_cons ok_l11AnyWorld (tabFs_cons ok_l11AnyBody (tabFs_cons ok_rdPick tabFs_nil)))) mixed Tryz.func44 (by kernel_rfl) (by kernel_rfl) (by
    intro args LL p0 r HH h hp
    unfold fs_DrawWorldPut at h
    dsimp only at h
    split at h
    case h_2 => cases h
    rename_i b
    simp only [Option.some.injEq, Prod.mk.injEq] at h
    obtain ⟨rfl, rfl, rfl⟩ := h
    refine ⟨by simp [Form, stays], L0, ?_⟩
    have hby := hp _ rfl
    refine someAns_ok (R := (fun x : {x : (Int × Int × List Body × List Pair) × Body // putD x} => (.tup [.agg [.int .i64 ((x.1).1).1, .int .i64 ((x.1).1).2.1, .vec 1, .vec 2], .agg [.int .i64 ((x.1).2).Id, .int .i64 ((x.1).2).Shape.Kind, .int .i64 ((x.1).2).Shape.Wide, .int .i64 ((x.1).2).Shape.High, .int .i64 ((x.1).2).At.X, .int .i64 ((x.1).2).At.Y, .int .i64 ((x.1).2).Drive.X, .int .i64 ((x.1).2).Drive.Y, .int .i64 ((x.1).2).Mass, .int .i64 ((x.1).2).Bounce, .int .i64 ((x.1).2).Rub, .int .i64 ((x.1).2).Quiet]] : SV))) (HH := (fun x : {x : (Int × Int × List Body × List Pair) × Body // putD x} => ([(false, .vec .byte b), (true, .vec .body (((x.1).1).2.2.1)), (true, .vec .pair (((x.1).1).2.2.2))] : List Ent))) (by kernel_rfl) ?_
    have fin : ∀ (z0T : Int) (z0P : Int) (z0B : List Body) (z0Q : List Pair) (z1I : Int) (z1K : Int) (z1W : Int) (z1H : Int) (z1X : Int) (z1Y : Int) (z1U : Int) (z1V : Int) (z1M : Int) (z1B : Int) (z1R : Int) (z1Q : Int), putD ((z0T, z0P, z0B, z0Q), (Body.mk z1I (Shape.mk z1K z1W z1H) (Vec.mk z1X z1Y) (Vec.mk z1U z1V) z1M z1B z1R z1Q)) → ∃ x : {x : (Int × Int × List Body × List Pair) × Body // putD x}, ((.tup [.agg [.int .i64 ((((z0T, z0P, z0B, z0Q), (Body.mk z1I (Shape.mk z1K z1W z1H) (Vec.mk z1X z1Y) (Vec.mk z1U z1V) z1M z1B z1R z1Q))).1).1, .int .i64 ((((z0T, z0P, z0B, z0Q), (Body.mk z1I (Shape.mk z1K z1W z1H) (Vec.mk z1X z1Y) (Vec.mk z1U z1V) z1M z1B z1R z1Q))).1).2.1, .vec 1, .vec 2], .agg [.int .i64 ((((z0T, z0P, z0B, z0Q), (Body.mk z1I (Shape.mk z1K z1W z1H) (Vec.mk z1X z1Y) (Vec.mk z1U z1V) z1M z1B z1R z1Q))).2).Id, .int .i64 ((((z0T, z0P, z0B, z0Q), (Body.mk z1I (Shape.mk z1K z1W z1H) (Vec.mk z1X z1Y) (Vec.mk z1U z1V) z1M z1B z1R z1Q))).2).Shape.Kind, .int .i64 ((((z0T, z0P, z0B, z0Q), (Body.mk z1I (Shape.mk z1K z1W z1H) (Vec.mk z1X z1Y) (Vec.mk z1U z1V) z1M z1B z1R z1Q))).2).Shape.Wide, .int .i64 ((((z0T, z0P, z0B, z0Q), (Body.mk z1I (Shape.mk z1K z1W z1H) (Vec.mk z1X z1Y) (Vec.mk z1U z1V) z1M z1B z1R z1Q))).2).Shape.High, .int .i64 ((((z0T, z0P, z0B, z0Q), (Body.mk z1I (Shape.mk z1K z1W z1H) (Vec.mk z1X z1Y) (Vec.mk z1U z1V) z1M z1B z1R z1Q))).2).At.X, .int .i64 ((((z0T, z0P, z0B, z0Q), (Body.mk z1I (Shape.mk z1K z1W z1H) (Vec.mk z1X z1Y) (Vec.mk z1U z1V) z1M z1B z1R z1Q))).2).At.Y, .int .i64 ((((z0T, z0P, z0B, z0Q), (Body.mk z1I (Shape.mk z1K z1W z1H) (Vec.mk z1X z1Y) (Vec.mk z1U z1V) z1M z1B z1R z1Q))).2).Drive.X, .int .i64 ((((z0T, z0P, z0B, z0Q), (Body.mk z1I (Shape.mk z1K z1W z1H) (Vec.mk z1X z1Y) (Vec.mk z1U z1V) z1M z1B z1R z1Q))).2).Drive.Y, .int .i64 ((((z0T, z0P, z0B, z0Q), (Body.mk z1I (Shape.mk z1K z1W z1H) (Vec.mk z1X z1Y) (Vec.mk z1U z1V) z1M z1B z1R z1Q))).2).Mass, .int .i64 ((((z0T, z0P, z0B, z0Q), (Body.mk z1I (Shape.mk z1K z1W z1H) (Vec.mk z1X z1Y) (Vec.mk z1U z1V) z1M z1B z1R z1Q))).2).Bounce, .int .i64 ((((z0T, z0P, z0B, z0Q), (Body.mk z1I (Shape.mk z1K z1W z1H) (Vec.mk z1X z1Y) (Vec.mk z1U z1V) z1M z1B z1R z1Q))).2).Rub, .int .i64 ((((z0T, z0P, z0B, z0Q), (Body.mk z1I (Shape.mk z1K z1W z1H) (Vec.mk z1X z1Y) (Vec.mk z1U z1V) z1M z1B z1R z1Q))).2).Quiet]] : SV) : SV) = (fun x : {x : (Int × Int × List Body × List Pair) × Body // putD x} => (.tup [.agg [.int .i64 ((x.1).1).1, .int .i64 ((x.1).1).2.1, .vec 1, .vec 2], .agg [.int .i64 ((x.1).2).Id, .int .i64 ((x.1).2).Shape.Kind, .int .i64 ((x.1).2).Shape.Wide, .int .i64 ((x.1).2).Shape.High, .int .i64 ((x.1).2).At.X, .int .i64 ((x.1).2).At.Y, .int .i64 ((x.1).2).Drive.X, .int .i64 ((x.1).2).Drive.Y, .int .i64 ((x.1).2).Mass, .int .i64 ((x.1).2).Bounce, .int .i64 ((x.1).2).Rub, .int .i64 ((x.1).2).Quiet]] : SV)) x ∧ (([(false, .vec .byte b), (true, .vec .body (((((z0T, z0P, z0B, z0Q), (Body.mk z1I (Shape.mk z1K z1W z1H) (Vec.mk z1X z1Y) (Vec.mk z1U z1V) z1M z1B z1R z1Q))).1).2.2.1)), (true, .vec .pair (((((z0T, z0P, z0B, z0Q), (Body.mk z1I (Shape.mk z1K z1W z1H) (Vec.mk z1X z1Y) (Vec.mk z1U z1V) z1M z1B z1R z1Q))).1).2.2.2))] : List Ent) : List Ent) = (fun x : {x : (Int × Int × List Body × List Pair) × Body // putD x} => ([(false, .vec .byte b), (true, .vec .body (((x.1).1).2.2.1)), (true, .vec .pair (((x.1).1).2.2.2))] : List Ent)) x := fun z0T z0P z0B z0Q z1I z1K z1W z1H z1X z1Y z1U z1V z1M z1B z1R z1Q hpred => ⟨⟨((z0T, z0P, z0B, z0Q), (Body.mk z1I (Shape.mk z1K z1W z1H) (Vec.mk z1X z1Y) (Vec.mk z1U z1V) z1M z1B z1R z1Q)), hpred⟩, rfl, rfl⟩
    rw [vc_DrawWorldPut]
    try dsimp only
    try dsimp only at fin
    have hc := hby.part 0 (min b.length 2000)
    generalize List.take (min b.length 2000) (List.drop 0 b) = c at *
    have hw := (g_l11AnyWorld c 0).1.2
    simp only [worldD] at hw
    repeat' (first | refine ifB_of (fun _ => ?_) (fun _ => ?_) | refine pre_of ?_ (fun _ => ?_))
    all_goals first
      | omega
      | exact hc
      | exact Nat.le_add_left _ _
      | (refine fin _ _ _ _ _ _ _ _ _ _ _ _ _ _ _ _ ?_; exact hw))

end
end Go.Proofs.YtnahfbjdicjdpaaGreat.Sym

namespace Go.Proofs.YtnahfbjdicjdpaaGreat.Sym
open Go
set_option linter.unusedVariables false
set_option linter.unusedSimpArgs false
set_option maxRecDepth 100000

end Go.Proofs.YtnahfbjdicjdpaaGreat.Sym

namespace Go.Proofs.YtnahfbjdicjdpaaGreat.Sym
open Go
set_option linter.unusedVariables false
set_option linter.unusedSimpArgs false
set_option maxRecDepth 100000
noncomputable section

end
end Go.Proofs.YtnahfbjdicjdpaaGreat.Sym

namespace Go.Proofs.YtnahfbjdicjdpaaGreat.Sym
open Go
set_option linter.unusedVariables false
set_option linter.unusedSimpArgs false
set_option maxRecDepth 100000
noncomputable section
end
end Go.Proofs.YtnahfbjdicjdpaaGreat.Sym

namespace Go.Proofs.YtnahfbjdicjdpaaGreat.Sym
open Go
set_option linter.unusedVariables false
set_option linter.unusedSimpArgs false
set_option maxRecDepth 100000
noncomputable section

noncomputable def fs_implBodySleeps : Fs := ⟨[], fun args H => match args, H with
  | [.agg [.int .i64 bI, .int .i64 bK, .int .i64 bW, .int .i64 bH, .int .i64 bX, .int .i64 bY, .int .i64 bU, .int .i64 bV, .int .i64 bM, .int .i64 bB, .int .i64 bR, .int .i64 bQ]], [] => some (none, .bool (bodyOk (Body.mk bI (Shape.mk bK bW bH) (Vec.mk bX bY) (Vec.mk bU bV) bM bB bR bQ) && (Body.mk bI (Shape.mk bK bW bH) (Vec.mk bX bY) (Vec.mk bU bV) bM bB bR bQ).Quiet == 8), [])
  | _, _ => none⟩

theorem vc_implBodySleeps (bI : Int) (bK : Int) (bW : Int) (bH : Int) (bX : Int) (bY : Int) (bU : Int) (bV : Int) (bM : Int) (bB : Int) (bR : Int) (bQ : Int) (Q : SV → List Ent → Prop) :
    fnVC tt (look [(66, fs_implBodyOk), (54, fs_bodySleeps)]) L0 Tryz.f22 [.agg [.int .i64 bI, .int .i64 bK, .int .i64 bW, .int .i64 bH, .int .i64 bX, .int .i64 bY, .int .i64 bU, .int .i64 bV, .int .i64 bM, .int .i64 bB, .int .i64 bR, .int .i64 bQ]] [] Q =
    (ifB (bodyOk (Body.mk bI (Shape.mk bK bW bH) (Vec.mk bX bY) (Vec.mk bU bV) bM bB bR bQ)) (Q (SV.bool (bQ == (8 : Int))) []) (Q (SV.bool false) [])) := by kernel_rfl

theorem ok_implBodySleeps : FsOk Tryz.prog 22 fs_implBodySleeps := fsOk_of tt_ok (tabFs_cons ok_implBodyOk (tabFs_cons ok_bodySleeps tabFs_nil)) mixed Tryz.func22 (by kernel_rfl) (by kernel_rfl) (by
    intro args LL p r HH h hp
    unfold fs_implBodySleeps at h
    dsimp only at h
    split at h
    case h_2 => cases h
    rename_i bI bK bW bH bX bY bU bV bM bB bR bQ
    simp only [Option.some.injEq, Prod.mk.injEq] at h
    obtain ⟨rfl, rfl, rfl⟩ := h
    refine ⟨by simp [Form, stays], L0, ?_⟩
    rw [vc_implBodySleeps]
    try dsimp only
    refine ifB_of (fun c => ?_) (fun c => ?_)
    · simp only [c, Bool.true_and]
      exact ⟨(by trivial), (by trivial)⟩
    · simp only [c, Bool.false_and]
      exact ⟨(by trivial), (by trivial)⟩)

theorem len0 {xs : List Body} {pull : Int} (hl : (stepOf xs pull).length = xs.length) : xs.length ≤ 12 := by
  have := length_stepOf xs pull
  omega
end
end Go.Proofs.YtnahfbjdicjdpaaGreat.Sym

namespace Go.Proofs.YtnahfbjdicjdpaaGreat.Sym
open Go
set_option linter.unusedVariables false
set_option linter.unusedSimpArgs false
set_option maxRecDepth 100000

def smallV (d : Vec) : Prop := (-20000000 ≤ d.X ∧ d.X ≤ 20000000) ∧ (-20000000 ≤ d.Y ∧ d.Y ≤ 20000000)
def placeV (p : Vec) : Prop := -2560000 ≤ p.X ∧ p.X ≤ 2560000 ∧ -2560000 ≤ p.Y ∧ p.Y ≤ 2560000
theorem minus_place {p q : Vec} (hp : placeV p) (hq : placeV q) : minus q p = ⟨q.X - p.X, q.Y - p.Y⟩ ∧ smallV ⟨q.X - p.X, q.Y - p.Y⟩ := by
  obtain ⟨p1, p2, p3, p4⟩ := hp
  obtain ⟨q1, q2, q3, q4⟩ := hq
  unfold minus
  rw [show W (q.X - p.X) = _ from W_small (by omega) (by omega), show W (q.Y - p.Y) = _ from W_small (by omega) (by omega)]
  refine ⟨rfl, ?_⟩
  unfold smallV
  dsimp only
  omega
theorem placeOk_V {p : Vec} (h : placeV p) : placeOk p = true := by
  obtain ⟨h1, h2, h3, h4⟩ := h
  simp only [placeOk, isIn, Bool.and_eq_true, decide_eq_true_eq]
  omega
theorem touch_all {a b : Body} (ha : bodyOk a = true) (hb : bodyOk b = true) : touchB a b = touchF a.Shape a.At b.Shape b.At := by
  have h1 := bok_iff.1 ha
  have h2 := bok_iff.1 hb
  simp [touchB, touchAll, h1.2.1, h2.2.1, placeOk_V h1.2.2.1, placeOk_V h2.2.2.1]
end Go.Proofs.YtnahfbjdicjdpaaGreat.Sym

namespace Go.Proofs.YtnahfbjdicjdpaaGreat.Sym
open Go
set_option linter.unusedVariables false
set_option linter.unusedSimpArgs false
set_option maxRecDepth 100000

end Go.Proofs.YtnahfbjdicjdpaaGreat.Sym

namespace Go.Proofs.YtnahfbjdicjdpaaGreat.Sym
open Go
set_option linter.unusedVariables false
set_option linter.unusedSimpArgs false
set_option maxRecDepth 100000
noncomputable section
theorem step_pairs_of {xs : List Body} {q : Pair} (h : q ∈ stepPairs xs) : bodiesOk xs = true ∧ ∃ c, c ∈ contactsF xs ∧ q = pairC xs c := by
  cases ok : bodiesOk xs with
  | false => simp [stepPairs, contactsOf, ok, pairsC] at h
  | true =>
    simp only [stepPairs, contactsOf, ok, pairsC, cond_true] at h
    obtain ⟨c, h1, h2⟩ := List.mem_map.1 h
    exact ⟨rfl, c, h1, h2.symm⟩
theorem pw_ix {R : Pair → Pair → Prop} {ps : List Pair} (h : ps.Pairwise R) {i j : Nat} (hij : i < j) (hj : j < ps.length) : R (Ty.ix .pair ps i) (Ty.ix .pair ps j) := by
  have := List.pairwise_iff_getElem.1 h i j (by omega) hj hij
  rwa [ix_eq (T := .pair) (List.getElem?_eq_getElem (show i < ps.length by omega)), ix_eq (T := .pair) (List.getElem?_eq_getElem hj)]
theorem hasB_self {xs : List Body} (h : bodiesOk xs = true) {a : Nat} (ha : a < xs.length) : hasB xs (Ty.ix .body xs a).Id = true ∧ atB xs (Ty.ix .body xs a).Id = a := by
  have e : atB xs (Ty.ix .body xs a).Id = a := pref_eq (T := .body) (p := fun y : Body => decide (y.Id < (Ty.ix .body xs a).Id)) (Nat.le_of_lt ha) (fun e he => decide_eq_true (bodies_lt h he ha)) (fun _ => decide_eq_false (Int.lt_irrefl _))
  refine ⟨?_, e⟩
  unfold hasB
  rw [e, decide_eq_true ha, beq_self_eq_true]
  rfl
theorem ahead_trans {a b c : Pair} (h1 : ahead a b = true) (h2 : ahead b c = true) : ahead a c = true := by
  simp only [ahead, Bool.or_eq_true, Bool.and_eq_true, decide_eq_true_eq, beq_iff_eq] at *
  omega
theorem worldOk_of {t p : Int} {xs : List Body} {ps : List Pair} (ht : 0 ≤ t ∧ t ≤ 100000) (hp : 0 ≤ p ∧ p ≤ 2560) (hok : bodiesOk xs = true) (hin : ∀ q, q ∈ ps → hasB xs q.A = true ∧ hasB xs q.B = true ∧ q.A < q.B) (hs : ps.Pairwise fun a b => ahead a b = true) : worldOk t p xs ps = true := by
  unfold worldOk
  simp only [Bool.and_eq_true, allTo_iff]
  refine ⟨⟨⟨by simp [isIn, ht], by simp [isIn, hp]⟩, hok⟩, fun i hi => ?_⟩
  obtain ⟨h1, h2, h3⟩ := hin _ (ix_mem (T := .pair) hi)
  unfold pairAt
  rw [h1, h2, decide_eq_true h3]
  by_cases e : i = 0
  · rw [e]
    rfl
  · rw [show ahead (Ty.ix .pair ps (i - 1)) (Ty.ix .pair ps i) = true from pw_ix hs (by omega) hi]
    simp
theorem sorted_of {t p : Int} {xs : List Body} {ps : List Pair} (h : worldOk t p xs ps = true) : ps.Pairwise fun a b => ahead a b = true := by
  have key : ∀ (d i : Nat), i + d + 1 < ps.length → ahead (Ty.ix .pair ps i) (Ty.ix .pair ps (i + d + 1)) = true := by
    have one : ∀ i, i + 1 < ps.length → ahead (Ty.ix .pair ps i) (Ty.ix .pair ps (i + 1)) = true := by
      intro i hi
      have := (pairAt_of h hi).2.2.2 (by omega)
      rw [show i + 1 - 1 = i by omega] at this
      simpa only [ahead, Bool.or_eq_true, Bool.and_eq_true, decide_eq_true_eq, beq_iff_eq] using this
    intro d
    induction d with
    | zero => intro i hi; exact one i hi
    | succ d ih => intro i hi; exact ahead_trans (ih i (by omega)) (one _ (by omega))
  rw [List.pairwise_iff_getElem]
  intro i j hi hj hij
  have := key (j - i - 1) i (by omega)
  rw [show i + (j - i - 1) + 1 = j by omega] at this
  rwa [ix_eq (T := .pair) (List.getElem?_eq_getElem hi), ix_eq (T := .pair) (List.getElem?_eq_getElem hj)] at this
theorem in_of {t p : Int} {xs : List Body} {ps : List Pair} (h : worldOk t p xs ps = true) {q : Pair} (hq : q ∈ ps) : hasB xs q.A = true ∧ hasB xs q.B = true ∧ q.A < q.B := by
  obtain ⟨i, hi, e⟩ := List.getElem_of_mem hq
  have e : Ty.ix .pair ps i = q := ix_eq (T := .pair) (by rw [← e]; exact List.getElem?_eq_getElem hi)
  obtain ⟨h1, h2, h3, _⟩ := pairAt_of h hi
  rw [e] at h1 h2 h3
  exact ⟨h1, h2, h3⟩
end
end Go.Proofs.YtnahfbjdicjdpaaGreat.Sym

