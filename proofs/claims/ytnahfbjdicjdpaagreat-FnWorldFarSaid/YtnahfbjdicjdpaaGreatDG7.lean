/-
  What the rows of this claim stand on, part 7: the machine, the walks, the plain laws, as far as they are used.
  No condition.
-/
import Derived.Test.YtnahfbjdicjdpaaGreatDG6
namespace Go.Proofs.YtnahfbjdicjdpaaGreat.Sym
open Go
set_option linter.unusedVariables false
set_option linter.unusedSimpArgs false
set_option maxRecDepth 100000

def farN (c : Contact) : Int := W ((W (c.Hit.Deep - 64)).tdiv 4)
theorem apartOne_stay {xs : List Body} {c : Contact} (h : farN c ≤ 0) : apartOne xs c = xs := by
  unfold apartOne
  dsimp only
  exact if_pos h
theorem apartOne_00 {xs : List Body} {c : Contact} (hA : (Ty.ix .body xs c.A.toNat).Mass = 0) (hB : (Ty.ix .body xs c.B.toNat).Mass = 0) : apartOne xs c = xs := by
  unfold apartOne
  dsimp only
  rw [if_pos hA, if_pos hB]
  split <;> rfl
theorem apartOne_0b {xs : List Body} {c : Contact} (h : ¬ farN c ≤ 0) (hA : (Ty.ix .body xs c.A.toNat).Mass = 0) (hB : ¬ (Ty.ix .body xs c.B.toNat).Mass = 0) :
    apartOne xs c = xs.set c.B.toNat (moveB (Ty.ix .body xs c.B.toNat) (scaled c.Hit.Way (farN c))) := by
  unfold apartOne
  dsimp only
  rw [if_pos hA, if_neg hB, if_neg (show ¬ W ((W (c.Hit.Deep - 64)).tdiv 4) ≤ 0 from h)]
  unfold shareF
  rw [if_neg hB, if_pos hA]
  rfl
theorem apartOne_a0 {xs : List Body} {c : Contact} (h : ¬ farN c ≤ 0) (hA : ¬ (Ty.ix .body xs c.A.toNat).Mass = 0) (hB : (Ty.ix .body xs c.B.toNat).Mass = 0) :
    apartOne xs c = xs.set c.A.toNat (moveB (Ty.ix .body xs c.A.toNat) (scaled (oppV c.Hit.Way) (farN c))) := by
  unfold apartOne
  dsimp only
  rw [if_neg hA, if_pos hB, if_neg (show ¬ W ((W (c.Hit.Deep - 64)).tdiv 4) ≤ 0 from h)]
  unfold shareF
  rw [if_neg hA, if_pos hB]
  rfl
theorem apartOne_ab {xs : List Body} {c : Contact} (h : ¬ farN c ≤ 0) (hA : ¬ (Ty.ix .body xs c.A.toNat).Mass = 0) (hB : ¬ (Ty.ix .body xs c.B.toNat).Mass = 0) :
    apartOne xs c = (xs.set c.A.toNat (moveB (Ty.ix .body xs c.A.toNat) (scaled (oppV c.Hit.Way) (W ((W (farN c * (Ty.ix .body xs c.B.toNat).Mass)).tdiv (W ((Ty.ix .body xs c.A.toNat).Mass + (Ty.ix .body xs c.B.toNat).Mass))))))).set c.B.toNat
      (moveB (Ty.ix .body xs c.B.toNat) (scaled c.Hit.Way (W ((W (farN c * (Ty.ix .body xs c.A.toNat).Mass)).tdiv (W ((Ty.ix .body xs c.A.toNat).Mass + (Ty.ix .body xs c.B.toNat).Mass)))))) := by
  unfold apartOne
  dsimp only
  rw [if_neg hA, if_neg hB, if_neg (show ¬ W ((W (c.Hit.Deep - 64)).tdiv 4) ≤ 0 from h)]
  unfold shareF
  rw [if_neg hA, if_neg hB, if_neg hA, if_neg hB, Int.add_comm (Ty.ix .body xs c.B.toNat).Mass]
  rfl
noncomputable def fs_specApartOne : Fs := ⟨[true], fun args H => match args, H with
  | [.vec 0, .agg [.int .i64 cA, .int .i64 cB, .int .i64 cX, .int .i64 cY, .int .i64 cD]], [(true, .vec .body xs)] => some ((some (AllP xs ∧ ctOk xs.length ⟨cA, cB, ⟨⟨cX, cY⟩, cD⟩⟩)), .tup [], [(true, .vec .body (apartOne xs ⟨cA, cB, ⟨⟨cX, cY⟩, cD⟩⟩))])
  | _, _ => none⟩

theorem vc_specApartOne (xs : List Body) (cA : Int) (cB : Int) (cX : Int) (cY : Int) (cD : Int) (Q : SV → List Ent → Prop) :
    fnVC tt (look [(158, fs_specShare), (135, fs_specMoveB)]) L0 Tryz.f134 [.vec 0, .agg [.int .i64 cA, .int .i64 cB, .int .i64 cX, .int .i64 cY, .int .i64 cD]] [(true, .vec .body xs)] Q =
    (let w_ := IntKind.wrap IntKind.i64; let vb_ := Blk.vec Ty.body; let A5_ := (Ty.ix Ty.body xs (Int.toNat cA)); let A4_ := (w_ (Int.tdiv (w_ (cD - (64 : Int))) (4 : Int))); let A3_ := (Ty.ix Ty.body xs (Int.toNat cB)); let A2_ := (moveB A3_ (Vec.mk (w_ (Int.tdiv (w_ (cX * shareF A3_ A5_ A4_)) (256 : Int))) (w_ (Int.tdiv (w_ (cY * shareF A3_ A5_ A4_)) (256 : Int))))); let A1_ := (List.set xs (Int.toNat cA) (moveB A5_ (Vec.mk (w_ (Int.tdiv (w_ (w_ ((0 : Int) - cX) * shareF A5_ A3_ A4_)) (256 : Int))) (w_ (Int.tdiv (w_ (w_ ((0 : Int) - cY) * shareF A5_ A3_ A4_)) (256 : Int)))))); ifB (decide (w_ (Int.tdiv (w_ (cD - (64 : Int))) (4 : Int)) ≤ (0 : Int))) (Q (SV.tup []) [(true, vb_ xs)]) (((0 : Int) ≤ cA ∧ cA < (↑(List.length xs) : Int)) ∧ ((0 : Int) ≤ cB ∧ cB < (↑(List.length xs) : Int)) ∧ ((0 : Int) ≤ Body.Mass A5_ ∧ Body.Mass A5_ ≤ (1000000 : Int) ∧ (0 : Int) ≤ Body.Mass A3_ ∧ Body.Mass A3_ ≤ (1000000 : Int)) ∧ ((0 : Int) ≤ Body.Mass A3_ ∧ Body.Mass A3_ ≤ (1000000 : Int) ∧ (0 : Int) ≤ Body.Mass A5_ ∧ Body.Mass A5_ ≤ (1000000 : Int)) ∧ ifB (decide (Body.Mass A5_ > (0 : Int))) (((0 : Int) ≤ cA ∧ cA < (↑(List.length xs) : Int)) ∧ ifB (decide (Body.Mass A3_ > (0 : Int))) (((0 : Int) ≤ cB ∧ cB < (↑(List.length A1_) : Int)) ∧ Q (SV.tup []) [(true, vb_ (List.set A1_ (Int.toNat cB) A2_))]) (Q (SV.tup []) [(true, vb_ A1_)])) (ifB (decide (Body.Mass A3_ > (0 : Int))) (((0 : Int) ≤ cB ∧ cB < (↑(List.length xs) : Int)) ∧ Q (SV.tup []) [(true, vb_ (List.set xs (Int.toNat cB) A2_))]) (Q (SV.tup []) [(true, vb_ xs)])))) := by kernel_rfl

theorem ok_specApartOne : FsOk Tryz.prog 134 fs_specApartOne := fsOk_of tt_ok (tabFs_cons ok_specShare (tabFs_cons ok_specMoveB tabFs_nil)) mixed Tryz.func134 (by kernel_rfl) (by kernel_rfl) (by
    intro args LL p r HH h hp
    unfold fs_specApartOne at h
    dsimp only at h
    split at h
    case h_2 => cases h
    rename_i cA cB cX cY cD xs
    simp only [Option.some.injEq, Prod.mk.injEq] at h
    obtain ⟨rfl, rfl, rfl⟩ := h
    refine ⟨by simp [Form, stays], L0, ?_⟩
    rw [vc_specApartOne]
    try dsimp only
    obtain ⟨hA, hc⟩ := hp _ rfl
    have hne := ct_ne hc
    obtain ⟨a0, a1, b0, b1, ne⟩ := hc
    dsimp only at a0 a1 b0 b1 ne hne
    have PA := hA cA.toNat (by omega)
    have PB := hA cB.toNat (by omega)
    have mA := PA.m0
    have mB := PB.m0
    have mA1 := PA.m1
    have mB1 := PB.m1
    refine ifB_of (fun c => ?_) (fun c => ⟨⟨a0, a1⟩, ⟨b0, b1⟩, ⟨mA, by omega, mB, by omega⟩, ⟨mB, by omega, mA, by omega⟩, ifB_of (fun c2 => ⟨⟨a0, a1⟩, ifB_of (fun c3 => ⟨⟨b0, by rw [List.length_set]; exact b1⟩, ?_⟩) (fun c3 => ?_)⟩) (fun c2 => ifB_of (fun c3 => ⟨⟨b0, b1⟩, ?_⟩) (fun c3 => ?_))⟩)
    · rw [apartOne_stay (c := ⟨cA, cB, ⟨⟨cX, cY⟩, cD⟩⟩) (of_decide_eq_true c)]
      exact ⟨rfl, rfl⟩
    · have c2 := of_decide_eq_true c2
      have c3 := of_decide_eq_true c3
      unfold apartOne
      dsimp only
      rw [if_neg (of_decide_eq_false c), if_neg (show ¬ (Ty.ix .body xs cA.toNat).Mass = 0 by omega), if_neg (show ¬ (Ty.ix .body xs cB.toNat).Mass = 0 by omega)]
      exact ⟨rfl, rfl⟩
    · have c2 := of_decide_eq_true c2
      have c3 := of_decide_eq_false c3
      unfold apartOne
      dsimp only
      rw [if_neg (of_decide_eq_false c), if_neg (show ¬ (Ty.ix .body xs cA.toNat).Mass = 0 by omega), if_pos (show (Ty.ix .body xs cB.toNat).Mass = 0 by omega)]
      exact ⟨rfl, rfl⟩
    · have c2 := of_decide_eq_false c2
      have c3 := of_decide_eq_true c3
      unfold apartOne
      dsimp only
      rw [if_neg (of_decide_eq_false c), if_pos (show (Ty.ix .body xs cA.toNat).Mass = 0 by omega), if_neg (show ¬ (Ty.ix .body xs cB.toNat).Mass = 0 by omega)]
      exact ⟨rfl, rfl⟩
    · have c2 := of_decide_eq_false c2
      have c3 := of_decide_eq_false c3
      unfold apartOne
      dsimp only
      rw [if_neg (of_decide_eq_false c), if_pos (show (Ty.ix .body xs cA.toNat).Mass = 0 by omega), if_pos (show (Ty.ix .body xs cB.toNat).Mass = 0 by omega)]
      exact ⟨rfl, rfl⟩)

def LSsap  : LS where
  S := List Body × List Contact × Unit × List Body × Int
  live := [(1, [none]), (5, [some .body]), (6, [none])]
  shape := fun s => ([.vec 1, .vec 2, .int .i64 s.2.2.2.2], [(false, .vec .body s.1), (false, .vec .contact s.2.1), (true, .vec .body s.2.2.2.1)])
  get := fun v h => match v, h with
    | [.vec 1, .vec 2, .int .i64 k], [(false, .vec .body xs), (false, .vec .contact cs), (true, .vec .body ys)] => some (xs, cs, (), ys, k)
    | _, _ => none
  inv := fun s0 s => Holds (s.1 = s0.1 ∧ s.2.1 = s0.2.1 ∧ 0 ≤ s.2.2.2.2 ∧ s.2.2.2.2 ≤ s0.2.1.length ∧ Kin s0.1 s.2.2.2.1 ∧ apartF s.2.2.2.1 (s0.2.1.drop s.2.2.2.2.toNat) = apartF s0.1 s0.2.1)
  mu := fun s => ((s.2.1.length : Int) - s.2.2.2.2).toNat
  ok := by
    intro v h s hg
    try dsimp only at hg
    split at hg <;> cases hg
    rfl

def L_sap : Loops := fun n => match n with
  | 3 => some LSsap
  | _ => none
theorem apartF_drop {cs : List Contact} {k : Nat} (h : k < cs.length) (ys : List Body) : apartF ys (cs.drop k) = apartF (apartOne ys (Ty.ix .contact cs k)) (cs.drop (k + 1)) := by
  rw [drop_ix (T := .contact) h]
  rfl
noncomputable def fs_specAparts : Fs := ⟨[], fun args H => match args, H with
  | [.vec 0, .vec 1], [(false, .vec .body xs), (false, .vec .contact cs)] => some ((some (AllP xs ∧ xs.length ≤ 12 ∧ CtsOk xs.length cs)), .vec 2, [(false, .vec .body xs), (false, .vec .contact cs), (true, .vec .body (apartF xs cs))])
  | _, _ => none⟩

theorem vc_specAparts (xs : List Body) (cs : List Contact) (Q : SV → List Ent → Prop) :
    fnVC tt (look [(67, fs_specCopyB), (134, fs_specApartOne)]) (L_sap) Tryz.f103 [.vec 0, .vec 1] [(false, .vec .body xs), (false, .vec .contact cs)] Q =
    (let w_ := IntKind.wrap IntKind.i64; List.length xs ≤ (1048576 : Nat) ∧ Holds (xs = xs ∧ cs = cs ∧ (0 : Int) ≤ (0 : Int) ∧ (0 : Int) ≤ (↑(List.length cs) : Int) ∧ Kin xs xs ∧ apartF xs (List.drop (Int.toNat (0 : Int)) cs) = apartF xs cs) ∧ ∀ (y1 : List Body × List Contact × Unit × List Body × Int), let y1s1_ := Prod.snd y1; let y1f1_ := Prod.fst (Prod.snd y1); let y1s3_ := Prod.snd (Prod.snd (Prod.snd y1)); let y1f3_ := Prod.fst (Prod.snd (Prod.snd (Prod.snd y1))); let y1s4_ := Prod.snd (Prod.snd (Prod.snd (Prod.snd y1))); let A2_ := (Ty.ix Ty.contact y1f1_ (Int.toNat y1s4_)); Holds (Prod.fst y1 = xs ∧ y1f1_ = cs ∧ (0 : Int) ≤ y1s4_ ∧ y1s4_ ≤ (↑(List.length cs) : Int) ∧ Kin xs y1f3_ ∧ apartF y1f3_ (List.drop (Int.toNat y1s4_) cs) = apartF xs cs) → ifB (decide (Prod.snd y1s3_ < (↑(List.length y1f1_) : Int))) (((0 : Int) ≤ y1s4_ ∧ y1s4_ < (↑(List.length y1f1_) : Int)) ∧ ((∀ (k : Nat), k < List.length y1f3_ → POk (Ty.ix Ty.body y1f3_ k)) ∧ (0 : Int) ≤ Contact.A A2_ ∧ Contact.A A2_ < (↑(List.length y1f3_) : Int) ∧ (0 : Int) ≤ Contact.B A2_ ∧ Contact.B A2_ < (↑(List.length y1f3_) : Int) ∧ Contact.A A2_ ≠ Contact.B A2_) ∧ Holds (Prod.fst y1 = xs ∧ y1f1_ = cs ∧ (0 : Int) ≤ w_ (Prod.snd y1s3_ + (1 : Int)) ∧ w_ (Prod.snd y1s3_ + (1 : Int)) ≤ (↑(List.length cs) : Int) ∧ Kin xs (apartOne y1f3_ A2_) ∧ apartF (apartOne y1f3_ A2_) (List.drop (Int.toNat (w_ (Prod.snd y1s3_ + (1 : Int)))) cs) = apartF xs cs) ∧ Int.toNat ((↑(List.length y1f1_) : Int) - w_ (Prod.snd y1s3_ + (1 : Int))) < Int.toNat ((↑(List.length y1f1_) : Int) - y1s4_)) (Q (SV.vec (2 : Nat)) [(false, Blk.vec Ty.body (Prod.fst y1)), (false, Blk.vec Ty.contact y1f1_), (true, Blk.vec Ty.body y1f3_)])) := by kernel_rfl

theorem ok_specAparts : FsOk Tryz.prog 103 fs_specAparts := fsOk_of tt_ok (tabFs_cons ok_specCopyB (tabFs_cons ok_specApartOne tabFs_nil)) mixed Tryz.func103 (by kernel_rfl) (by kernel_rfl) (by
    intro args LL p r HH h hp
    unfold fs_specAparts at h
    dsimp only at h
    split at h
    case h_2 => cases h
    rename_i xs cs
    simp only [Option.some.injEq, Prod.mk.injEq] at h
    obtain ⟨rfl, rfl, rfl⟩ := h
    refine ⟨by simp [Form, stays], (L_sap), ?_⟩
    rw [vc_specAparts]
    try dsimp only
    obtain ⟨hA, hl, hc⟩ := hp _ rfl
    have hc0 := hc.1
    refine ⟨by omega, ⟨(by trivial), (by trivial), by omega, by omega, .refl _, (by trivial)⟩, ?_⟩
    rintro ⟨xs', cs', u, ys, k⟩ ⟨h⟩
    dsimp only at h ⊢
    obtain ⟨rfl, rfl, k0, k1, hk2, h3⟩ := h
    refine ifB_of (fun c2 => ?_) (fun c2 => ?_)
    · have c2 := of_decide_eq_true c2
      have hik : k.toNat < cs'.length := by omega
      rw [apartF_drop hik] at h3
      have e2 : (k + 1).toNat = k.toNat + 1 := by omega
      have w : IntKind.i64.wrap (k + 1) = k + 1 := wrap_small (by omega) (by omega)
      have hck := hc.2 _ hik
      rw [w, e2]
      refine ⟨⟨k0, c2⟩, ⟨allP_kin hk2 hA, hk2.1 ▸ hck⟩, ⟨(by trivial), (by trivial), by omega, by omega, ?_, h3⟩, by omega⟩
      exact hk2.trans (kin_apartOne (ct_ne hck))
    · have c2 := of_decide_eq_false c2
      rw [drop_end (by omega)] at h3
      have h3 : ys = _ := h3
      rw [h3]
      exact ⟨rfl, rfl⟩)

def LSiap (xs : List Body) : LS where
  S := List Body × List Contact × Unit × Unit × Int × Int
  live := [(0, [none]), (11, [none]), (12, [none]), (13, [none])]
  shape := fun s => ([.vec 0, .vec 1, .int .i64 s.2.2.2.2.1, .int .i64 s.2.2.2.2.2], [(true, .vec .body s.1), (false, .vec .contact s.2.1)])
  get := fun v h => match v, h with
    | [.vec 0, .vec 1, .int .i64 n, .int .i64 k], [(true, .vec .body ys), (false, .vec .contact cs)] => some (ys, cs, (), (), n, k)
    | _, _ => none
  inv := fun s0 s => Holds (s.2.1 = s0.2.1 ∧ s.2.2.2.2.1 = s0.2.1.length ∧ 0 ≤ s.2.2.2.2.2 ∧ s.2.2.2.2.2 ≤ s0.2.1.length ∧ Kin xs s.1 ∧ apartF s.1 (s0.2.1.drop s.2.2.2.2.2.toNat) = apartF xs s0.2.1)
  mu := fun s => ((s.2.1.length : Int) - s.2.2.2.2.2).toNat
  ok := by
    intro v h s hg
    try dsimp only at hg
    split at hg <;> cases hg
    rfl

def L_iap (xs : List Body) : Loops := fun n => match n with
  | 1 => some (LSiap xs)
  | _ => none
noncomputable def fs_implApartF : Fs := ⟨[true, false], fun args H => match args, H with
  | [.vec 0, .vec 1], [(true, .vec .body xs), (false, .vec .contact cs)] => some ((some (AllP xs ∧ xs.length ≤ 12 ∧ CtsOk xs.length cs)), .tup [], [(true, .vec .body (apartF xs cs)), (false, .vec .contact cs)])
  | _, _ => none⟩

theorem vc_implApartF (xs : List Body) (cs : List Contact) (Q : SV → List Ent → Prop) :
    fnVC tt (look [(64, fs_bodyFixed), (91, fs_implOpposite), (95, fs_vecScaled), (57, fs_implMoveB)]) (L_iap xs) Tryz.f59 [.vec 0, .vec 1] [(true, .vec .body xs), (false, .vec .contact cs)] Q =
    (let w_ := IntKind.wrap IntKind.i64; let n_ := Int.toNat; let ib_ := Ty.ix Ty.body; Holds (cs = cs ∧ (↑(List.length cs) : Int) = (↑(List.length cs) : Int) ∧ (0 : Int) ≤ (0 : Int) ∧ (0 : Int) ≤ (↑(List.length cs) : Int) ∧ Kin xs xs ∧ apartF xs (List.drop (n_ (0 : Int)) cs) = apartF xs cs) ∧ ∀ (y1 : List Body × List Contact × Unit × Unit × Int × Int), let y1f0_ := Prod.fst y1; let y1s1_ := Prod.snd y1; let y1f1_ := Prod.fst (Prod.snd y1); let y1s4_ := Prod.snd (Prod.snd (Prod.snd (Prod.snd y1))); let y1f4_ := Prod.fst (Prod.snd (Prod.snd (Prod.snd (Prod.snd y1)))); let y1s5_ := Prod.snd (Prod.snd (Prod.snd (Prod.snd (Prod.snd y1)))); let A12_ := ((↑(List.length y1f1_) : Int) - y1s5_); let A11_ := (↑(List.length cs) : Int); let A6_ := (Prod.snd y1s4_ + (1 : Int)); let A10_ := (List.drop (n_ (w_ A6_)) cs); let A9_ := ((↑(List.length y1f1_) : Int) - w_ A6_); let A4_ := (Ty.ix Ty.contact y1f1_ (n_ y1s5_)); let A27_ := (Hit.Way (Contact.Hit A4_)); let A15_ := (Int.tdiv (w_ (Hit.Deep (Contact.Hit A4_) - (64 : Int))) (4 : Int)); let A13_ := (ib_ y1f0_ (n_ (Contact.A A4_))); let A28_ := (Body.Mass A13_ == (0 : Int)); let A18_ := (!Body.Mass A13_ == (0 : Int)); let A8_ := (n_ (Contact.B A4_)); let A14_ := (ib_ y1f0_ A8_); let A24_ := (Body.Mass A13_ + Body.Mass A14_); let A19_ := (!Body.Mass A14_ == (0 : Int)); let A7_ := (scaled A27_ (w_ A15_)); let A16_ := (List.set y1f0_ A8_ (moveB A14_ A7_)); let A5_ := (scaled A27_ (w_ (Int.tdiv (w_ (w_ A15_ * Body.Mass A13_)) (w_ A24_)))); let A17_ := (List.set y1f0_ A8_ (moveB A14_ A5_)); let A3_ := (List.set y1f0_ (n_ (Contact.A A4_)) (moveB A13_ (scaled (Vec.mk (W ((0 : Int) - Vec.X A27_)) (W ((0 : Int) - Vec.Y A27_))) (w_ A15_)))); let A25_ := (!Body.Mass (ib_ A3_ A8_) == (0 : Int)); let A21_ := (List.set A3_ A8_ (moveB (ib_ A3_ A8_) A5_)); let A20_ := (List.set A3_ A8_ (moveB (ib_ A3_ A8_) A7_)); let A2_ := (List.set y1f0_ (n_ (Contact.A A4_)) (moveB A13_ (scaled (Vec.mk (W ((0 : Int) - Vec.X A27_)) (W ((0 : Int) - Vec.Y A27_))) (w_ (Int.tdiv (w_ (w_ A15_ * Body.Mass A14_)) (w_ A24_)))))); let A26_ := (!Body.Mass (ib_ A2_ A8_) == (0 : Int)); let A23_ := (List.set A2_ A8_ (moveB (ib_ A2_ A8_) A5_)); let A22_ := (List.set A2_ A8_ (moveB (ib_ A2_ A8_) A7_)); Holds (Prod.fst y1s1_ = cs ∧ y1f4_ = A11_ ∧ (0 : Int) ≤ y1s5_ ∧ y1s5_ ≤ A11_ ∧ Kin xs y1f0_ ∧ apartF y1f0_ (List.drop (n_ y1s5_) cs) = apartF xs cs) → ifB (decide (Prod.snd y1s4_ < y1f4_)) (((0 : Int) ≤ y1s5_ ∧ y1s5_ < (↑(List.length y1f1_) : Int)) ∧ ((0 : Int) ≤ Contact.A A4_ ∧ Contact.A A4_ < (↑(List.length y1f0_) : Int)) ∧ ((0 : Int) ≤ Contact.B A4_ ∧ Contact.B A4_ < (↑(List.length y1f0_) : Int)) ∧ ifB (decide (w_ A15_ ≤ (0 : Int))) (Holds (Prod.fst y1s1_ = cs ∧ y1f4_ = A11_ ∧ (0 : Int) ≤ w_ A6_ ∧ w_ A6_ ≤ A11_ ∧ Kin xs y1f0_ ∧ apartF y1f0_ A10_ = apartF xs cs) ∧ n_ A9_ < n_ A12_) (ifB A28_ (ifB (Body.Mass A14_ == (0 : Int)) (Holds (Prod.fst y1s1_ = cs ∧ y1f4_ = A11_ ∧ (0 : Int) ≤ w_ A6_ ∧ w_ A6_ ≤ A11_ ∧ Kin xs y1f0_ ∧ apartF y1f0_ A10_ = apartF xs cs) ∧ n_ A9_ < n_ A12_) (w_ A24_ ≠ (0 : Int) ∧ w_ A24_ ≠ (0 : Int) ∧ ifB (Body.Mass A14_ == (0 : Int)) (ifB A28_ (ifB A18_ (n_ (Contact.A A4_) < List.length y1f0_ ∧ ifB A25_ (n_ (Contact.B A4_) < List.length A3_ ∧ Holds (Prod.fst y1s1_ = cs ∧ y1f4_ = A11_ ∧ (0 : Int) ≤ w_ A6_ ∧ w_ A6_ ≤ A11_ ∧ Kin xs A20_ ∧ apartF A20_ A10_ = apartF xs cs) ∧ n_ A9_ < n_ A12_) (Holds (Prod.fst y1s1_ = cs ∧ y1f4_ = A11_ ∧ (0 : Int) ≤ w_ A6_ ∧ w_ A6_ ≤ A11_ ∧ Kin xs A3_ ∧ apartF A3_ A10_ = apartF xs cs) ∧ n_ A9_ < n_ A12_)) (ifB A19_ (n_ (Contact.B A4_) < List.length y1f0_ ∧ Holds (Prod.fst y1s1_ = cs ∧ y1f4_ = A11_ ∧ (0 : Int) ≤ w_ A6_ ∧ w_ A6_ ≤ A11_ ∧ Kin xs A16_ ∧ apartF A16_ A10_ = apartF xs cs) ∧ n_ A9_ < n_ A12_) (Holds (Prod.fst y1s1_ = cs ∧ y1f4_ = A11_ ∧ (0 : Int) ≤ w_ A6_ ∧ w_ A6_ ≤ A11_ ∧ Kin xs y1f0_ ∧ apartF y1f0_ A10_ = apartF xs cs) ∧ n_ A9_ < n_ A12_))) (ifB A18_ (n_ (Contact.A A4_) < List.length y1f0_ ∧ ifB A25_ (n_ (Contact.B A4_) < List.length A3_ ∧ Holds (Prod.fst y1s1_ = cs ∧ y1f4_ = A11_ ∧ (0 : Int) ≤ w_ A6_ ∧ w_ A6_ ≤ A11_ ∧ Kin xs A21_ ∧ apartF A21_ A10_ = apartF xs cs) ∧ n_ A9_ < n_ A12_) (Holds (Prod.fst y1s1_ = cs ∧ y1f4_ = A11_ ∧ (0 : Int) ≤ w_ A6_ ∧ w_ A6_ ≤ A11_ ∧ Kin xs A3_ ∧ apartF A3_ A10_ = apartF xs cs) ∧ n_ A9_ < n_ A12_)) (ifB A19_ (n_ (Contact.B A4_) < List.length y1f0_ ∧ Holds (Prod.fst y1s1_ = cs ∧ y1f4_ = A11_ ∧ (0 : Int) ≤ w_ A6_ ∧ w_ A6_ ≤ A11_ ∧ Kin xs A17_ ∧ apartF A17_ A10_ = apartF xs cs) ∧ n_ A9_ < n_ A12_) (Holds (Prod.fst y1s1_ = cs ∧ y1f4_ = A11_ ∧ (0 : Int) ≤ w_ A6_ ∧ w_ A6_ ≤ A11_ ∧ Kin xs y1f0_ ∧ apartF y1f0_ A10_ = apartF xs cs) ∧ n_ A9_ < n_ A12_)))) (ifB A28_ (ifB A18_ (n_ (Contact.A A4_) < List.length y1f0_ ∧ ifB A26_ (n_ (Contact.B A4_) < List.length A2_ ∧ Holds (Prod.fst y1s1_ = cs ∧ y1f4_ = A11_ ∧ (0 : Int) ≤ w_ A6_ ∧ w_ A6_ ≤ A11_ ∧ Kin xs A22_ ∧ apartF A22_ A10_ = apartF xs cs) ∧ n_ A9_ < n_ A12_) (Holds (Prod.fst y1s1_ = cs ∧ y1f4_ = A11_ ∧ (0 : Int) ≤ w_ A6_ ∧ w_ A6_ ≤ A11_ ∧ Kin xs A2_ ∧ apartF A2_ A10_ = apartF xs cs) ∧ n_ A9_ < n_ A12_)) (ifB A19_ (n_ (Contact.B A4_) < List.length y1f0_ ∧ Holds (Prod.fst y1s1_ = cs ∧ y1f4_ = A11_ ∧ (0 : Int) ≤ w_ A6_ ∧ w_ A6_ ≤ A11_ ∧ Kin xs A16_ ∧ apartF A16_ A10_ = apartF xs cs) ∧ n_ A9_ < n_ A12_) (Holds (Prod.fst y1s1_ = cs ∧ y1f4_ = A11_ ∧ (0 : Int) ≤ w_ A6_ ∧ w_ A6_ ≤ A11_ ∧ Kin xs y1f0_ ∧ apartF y1f0_ A10_ = apartF xs cs) ∧ n_ A9_ < n_ A12_))) (ifB A18_ (n_ (Contact.A A4_) < List.length y1f0_ ∧ ifB A26_ (n_ (Contact.B A4_) < List.length A2_ ∧ Holds (Prod.fst y1s1_ = cs ∧ y1f4_ = A11_ ∧ (0 : Int) ≤ w_ A6_ ∧ w_ A6_ ≤ A11_ ∧ Kin xs A23_ ∧ apartF A23_ A10_ = apartF xs cs) ∧ n_ A9_ < n_ A12_) (Holds (Prod.fst y1s1_ = cs ∧ y1f4_ = A11_ ∧ (0 : Int) ≤ w_ A6_ ∧ w_ A6_ ≤ A11_ ∧ Kin xs A2_ ∧ apartF A2_ A10_ = apartF xs cs) ∧ n_ A9_ < n_ A12_)) (ifB A19_ (n_ (Contact.B A4_) < List.length y1f0_ ∧ Holds (Prod.fst y1s1_ = cs ∧ y1f4_ = A11_ ∧ (0 : Int) ≤ w_ A6_ ∧ w_ A6_ ≤ A11_ ∧ Kin xs A17_ ∧ apartF A17_ A10_ = apartF xs cs) ∧ n_ A9_ < n_ A12_) (Holds (Prod.fst y1s1_ = cs ∧ y1f4_ = A11_ ∧ (0 : Int) ≤ w_ A6_ ∧ w_ A6_ ≤ A11_ ∧ Kin xs y1f0_ ∧ apartF y1f0_ A10_ = apartF xs cs) ∧ n_ A9_ < n_ A12_)))))) (w_ A24_ ≠ (0 : Int) ∧ w_ A24_ ≠ (0 : Int) ∧ ifB (Body.Mass A14_ == (0 : Int)) (ifB A28_ (ifB A18_ (n_ (Contact.A A4_) < List.length y1f0_ ∧ ifB A25_ (n_ (Contact.B A4_) < List.length A3_ ∧ Holds (Prod.fst y1s1_ = cs ∧ y1f4_ = A11_ ∧ (0 : Int) ≤ w_ A6_ ∧ w_ A6_ ≤ A11_ ∧ Kin xs A20_ ∧ apartF A20_ A10_ = apartF xs cs) ∧ n_ A9_ < n_ A12_) (Holds (Prod.fst y1s1_ = cs ∧ y1f4_ = A11_ ∧ (0 : Int) ≤ w_ A6_ ∧ w_ A6_ ≤ A11_ ∧ Kin xs A3_ ∧ apartF A3_ A10_ = apartF xs cs) ∧ n_ A9_ < n_ A12_)) (ifB A19_ (n_ (Contact.B A4_) < List.length y1f0_ ∧ Holds (Prod.fst y1s1_ = cs ∧ y1f4_ = A11_ ∧ (0 : Int) ≤ w_ A6_ ∧ w_ A6_ ≤ A11_ ∧ Kin xs A16_ ∧ apartF A16_ A10_ = apartF xs cs) ∧ n_ A9_ < n_ A12_) (Holds (Prod.fst y1s1_ = cs ∧ y1f4_ = A11_ ∧ (0 : Int) ≤ w_ A6_ ∧ w_ A6_ ≤ A11_ ∧ Kin xs y1f0_ ∧ apartF y1f0_ A10_ = apartF xs cs) ∧ n_ A9_ < n_ A12_))) (ifB A18_ (n_ (Contact.A A4_) < List.length y1f0_ ∧ ifB A25_ (n_ (Contact.B A4_) < List.length A3_ ∧ Holds (Prod.fst y1s1_ = cs ∧ y1f4_ = A11_ ∧ (0 : Int) ≤ w_ A6_ ∧ w_ A6_ ≤ A11_ ∧ Kin xs A21_ ∧ apartF A21_ A10_ = apartF xs cs) ∧ n_ A9_ < n_ A12_) (Holds (Prod.fst y1s1_ = cs ∧ y1f4_ = A11_ ∧ (0 : Int) ≤ w_ A6_ ∧ w_ A6_ ≤ A11_ ∧ Kin xs A3_ ∧ apartF A3_ A10_ = apartF xs cs) ∧ n_ A9_ < n_ A12_)) (ifB A19_ (n_ (Contact.B A4_) < List.length y1f0_ ∧ Holds (Prod.fst y1s1_ = cs ∧ y1f4_ = A11_ ∧ (0 : Int) ≤ w_ A6_ ∧ w_ A6_ ≤ A11_ ∧ Kin xs A17_ ∧ apartF A17_ A10_ = apartF xs cs) ∧ n_ A9_ < n_ A12_) (Holds (Prod.fst y1s1_ = cs ∧ y1f4_ = A11_ ∧ (0 : Int) ≤ w_ A6_ ∧ w_ A6_ ≤ A11_ ∧ Kin xs y1f0_ ∧ apartF y1f0_ A10_ = apartF xs cs) ∧ n_ A9_ < n_ A12_)))) (ifB A28_ (ifB A18_ (n_ (Contact.A A4_) < List.length y1f0_ ∧ ifB A26_ (n_ (Contact.B A4_) < List.length A2_ ∧ Holds (Prod.fst y1s1_ = cs ∧ y1f4_ = A11_ ∧ (0 : Int) ≤ w_ A6_ ∧ w_ A6_ ≤ A11_ ∧ Kin xs A22_ ∧ apartF A22_ A10_ = apartF xs cs) ∧ n_ A9_ < n_ A12_) (Holds (Prod.fst y1s1_ = cs ∧ y1f4_ = A11_ ∧ (0 : Int) ≤ w_ A6_ ∧ w_ A6_ ≤ A11_ ∧ Kin xs A2_ ∧ apartF A2_ A10_ = apartF xs cs) ∧ n_ A9_ < n_ A12_)) (ifB A19_ (n_ (Contact.B A4_) < List.length y1f0_ ∧ Holds (Prod.fst y1s1_ = cs ∧ y1f4_ = A11_ ∧ (0 : Int) ≤ w_ A6_ ∧ w_ A6_ ≤ A11_ ∧ Kin xs A16_ ∧ apartF A16_ A10_ = apartF xs cs) ∧ n_ A9_ < n_ A12_) (Holds (Prod.fst y1s1_ = cs ∧ y1f4_ = A11_ ∧ (0 : Int) ≤ w_ A6_ ∧ w_ A6_ ≤ A11_ ∧ Kin xs y1f0_ ∧ apartF y1f0_ A10_ = apartF xs cs) ∧ n_ A9_ < n_ A12_))) (ifB A18_ (n_ (Contact.A A4_) < List.length y1f0_ ∧ ifB A26_ (n_ (Contact.B A4_) < List.length A2_ ∧ Holds (Prod.fst y1s1_ = cs ∧ y1f4_ = A11_ ∧ (0 : Int) ≤ w_ A6_ ∧ w_ A6_ ≤ A11_ ∧ Kin xs A23_ ∧ apartF A23_ A10_ = apartF xs cs) ∧ n_ A9_ < n_ A12_) (Holds (Prod.fst y1s1_ = cs ∧ y1f4_ = A11_ ∧ (0 : Int) ≤ w_ A6_ ∧ w_ A6_ ≤ A11_ ∧ Kin xs A2_ ∧ apartF A2_ A10_ = apartF xs cs) ∧ n_ A9_ < n_ A12_)) (ifB A19_ (n_ (Contact.B A4_) < List.length y1f0_ ∧ Holds (Prod.fst y1s1_ = cs ∧ y1f4_ = A11_ ∧ (0 : Int) ≤ w_ A6_ ∧ w_ A6_ ≤ A11_ ∧ Kin xs A17_ ∧ apartF A17_ A10_ = apartF xs cs) ∧ n_ A9_ < n_ A12_) (Holds (Prod.fst y1s1_ = cs ∧ y1f4_ = A11_ ∧ (0 : Int) ≤ w_ A6_ ∧ w_ A6_ ≤ A11_ ∧ Kin xs y1f0_ ∧ apartF y1f0_ A10_ = apartF xs cs) ∧ n_ A9_ < n_ A12_))))))) (Q (SV.tup []) [(true, Blk.vec Ty.body y1f0_), (false, Blk.vec Ty.contact y1f1_)])) := by kernel_rfl

theorem ok_implApartF : FsOk Tryz.prog 59 fs_implApartF := fsOk_of tt_ok (tabFs_cons ok_bodyFixed (tabFs_cons ok_implOpposite (tabFs_cons ok_vecScaled (tabFs_cons ok_implMoveB tabFs_nil)))) mixed Tryz.func59 (by kernel_rfl) (by kernel_rfl) (by
    intro args LL p r HH h hp
    unfold fs_implApartF at h
    dsimp only at h
    split at h
    case h_2 => cases h
    rename_i xs cs
    simp only [Option.some.injEq, Prod.mk.injEq] at h
    obtain ⟨rfl, rfl, rfl⟩ := h
    refine ⟨by simp [Form, stays], (L_iap xs), ?_⟩
    rw [vc_implApartF]
    try dsimp only
    obtain ⟨hA, hl, hc⟩ := hp _ rfl
    have hc0 := hc.1
    refine ⟨⟨(by trivial), (by trivial), by omega, by omega, .refl _, (by trivial)⟩, ?_⟩
    rintro ⟨ys, cs', u, w, n, k⟩ ⟨h⟩
    dsimp only at h ⊢
    obtain ⟨rfl, rfl, k0, k1, hk2, h3⟩ := h
    refine ifB_of (fun c2 => ?_) (fun c2 => ?_)
    · have c2 := of_decide_eq_true c2
      have hik : k.toNat < cs'.length := by omega
      rw [apartF_drop hik] at h3
      have e2 : (k + 1).toNat = k.toNat + 1 := by omega
      have w : IntKind.i64.wrap (k + 1) = k + 1 := wrap_small (by omega) (by omega)
      have hck := hc.2 _ hik
      have hlen := hk2.1
      have hkin := hk2.trans (kin_apartOne (ct_ne hck))
      have hne := ct_ne hck
      have hA2 := allP_kin hk2 hA
      rw [w, e2]
      generalize Ty.contact.ix cs' k.toNat = c at *
      obtain ⟨a0, a1, b0, b1, _⟩ := hck
      have PA := hA2 c.A.toNat (by omega)
      have PB := hA2 c.B.toNat (by omega)
      have mA := PA.m0
      have mB := PB.m0
      have mA1 := PA.m1
      have mB1 := PB.m1
      have fin : ∀ {us : List Body}, apartOne ys c = us → (Holds (cs' = cs' ∧ (cs'.length : Int) = cs'.length ∧ 0 ≤ k + 1 ∧ k + 1 ≤ (cs'.length : Int) ∧ Kin xs us ∧ apartF us (cs'.drop (k.toNat + 1)) = apartF xs cs') ∧ ((cs'.length : Int) - (k + 1)).toNat < ((cs'.length : Int) - k).toNat) := by
        rintro us rfl
        exact ⟨⟨rfl, rfl, by omega, by omega, hkin, h3⟩, by omega⟩
      clear h3 hkin
      have hn : IntKind.i64.wrap ((Ty.ix .body ys c.A.toNat).Mass + (Ty.ix .body ys c.B.toNat).Mass) = (Ty.ix .body ys c.A.toNat).Mass + (Ty.ix .body ys c.B.toNat).Mass := wrap_small (by omega) (by omega)
      have hbx : ∀ v : Body, Ty.ix .body (ys.set c.A.toNat v) c.B.toNat = Ty.ix .body ys c.B.toNat := fun v => ix_set_ne (T := .body) hne
      refine ⟨⟨k0, c2⟩, ⟨a0, by omega⟩, ⟨b0, by omega⟩, ifB_of (fun d => fin (apartOne_stay (of_decide_eq_true d))) (fun d => ?_)⟩
      have d : ¬ farN c ≤ 0 := of_decide_eq_false d
      cases qA : (Ty.ix .body ys c.A.toNat).Mass == 0 with
      | true =>
        have zA := eq_of_beq qA
        cases qB : (Ty.ix .body ys c.B.toNat).Mass == 0 with
        | true =>
          have zB := eq_of_beq qB
          exact fin (apartOne_00 zA zB)
        | false =>
          have zB := beq_eq_false_iff_ne.1 qB
          exact ⟨by omega, by omega, by omega, fin (apartOne_0b d zA zB)⟩
      | false =>
        have zA := beq_eq_false_iff_ne.1 qA
        cases qB : (Ty.ix .body ys c.B.toNat).Mass == 0 with
        | true =>
          have zB := eq_of_beq qB
          refine ⟨by omega, by omega, by omega, ifB_of (fun q => ?_) (fun q => fin (apartOne_a0 d zA zB))⟩
          rw [hbx, qB] at q
          cases q
        | false =>
          have zB := beq_eq_false_iff_ne.1 qB
          refine ⟨by omega, by omega, by omega, ifB_of (fun q => ?_) (fun q => ?_)⟩
          · refine ⟨by rw [List.length_set]; omega, ?_⟩
            rw [hbx]
            exact fin (apartOne_ab d zA zB)
          · rw [hbx, qB] at q
            cases q
    · have c2 := of_decide_eq_false c2
      rw [drop_end (by omega)] at h3
      have h3 : ys = _ := h3
      rw [h3]
      exact ⟨rfl, rfl⟩)

end Go.Proofs.YtnahfbjdicjdpaaGreat.Sym

namespace Go.Proofs.YtnahfbjdicjdpaaGreat.Sym
open Go
set_option linter.unusedVariables false
set_option linter.unusedSimpArgs false
set_option maxRecDepth 100000
noncomputable section

def mapX (f : Nat → Body → Body) (xs : List Body) : List Body := gen (fun i => f i (Ty.ix .body xs i)) xs.length
@[simp] theorem length_mapX (f : Nat → Body → Body) (xs : List Body) : (mapX f xs).length = xs.length := by simp [mapX]
def wakeS (gs : List Int) (ws : List Bool) (i : Nat) (b : Body) : Body := bif b.Quiet == 8 && Ty.ix .bool ws (gi gs i).toNat then { b with Quiet := 0 } else b
def pullS (pull : Int) (_ : Nat) (b : Body) : Body := bif moves b then { b with Drive := ⟨b.Drive.X, max (W (b.Drive.Y - W (pull * b.Mass))) (-20000000)⟩ } else b
def liveF (xs : List Body) (cs : List Contact) : List Contact := cs.filter fun c => moves (Ty.ix .body xs c.A.toNat) || moves (Ty.ix .body xs c.B.toNat)
def goS (_ : Nat) (b : Body) : Body := bif moves b then moveB b (speed b) else b
def quietS (was : List Body) (i : Nat) (b : Body) : Body := bif moves b then { b with Quiet := bif isIn (speed b).X (-8) 8 && isIn (speed b).Y (-8) 8 then min (W ((Ty.ix .body was i).Quiet + 1)) 7 else 0 } else b
/-- A step of bodies that are well. -/
def stepF (xs : List Body) (pull : Int) : List Body :=
  let woken := mapX (wakeS (groupsX xs) (awkF xs xs.length)) xs
  let pulled := mapX (pullS pull) woken
  let live := liveF pulled (contactsF xs)
  settleF (groupsX xs) 0 (awkF xs xs.length) (mapX (quietS woken) (apartF (mapX goS (pushAllF pulled live)) live))
def stepOf (xs : List Body) (pull : Int) : List Body := bif bodiesOk xs && isIn pull 0 2560 then stepF xs pull else []
theorem fill_ix {f : Nat → Body} {xs ys : List Body} {i : Nat} (h : ys = fill f xs i) (hi : i < xs.length) : ys.length = xs.length ∧ Ty.ix .body ys i = Ty.ix .body xs i := by
  subst h
  exact ⟨length_fill _ _ (by omega), ix_fill3 (T := .body) _ _ hi⟩
theorem fill_go {f : Nat → Body} {xs ys : List Body} {i : Nat} (h : ys = fill f xs i) (hi : i < xs.length) {b : Body} (hb : b = f i) : ys.set i b = fill f xs (i + 1) := by
  subst h hb
  exact fill_step f xs hi
theorem fill_stay {f : Nat → Body} {xs ys : List Body} {i : Nat} (h : ys = fill f xs i) (hi : i < xs.length) (q : f i = Ty.ix .body xs i) : ys = fill f xs (i + 1) := by
  have hf := fill_ix h hi
  have := fill_go h hi (b := Ty.ix .body ys i) (by rw [q]; exact hf.2)
  rw [← this]
  exact (set_ix (T := .body) ys (by omega)).symm
theorem fill_map {f : Nat → Body → Body} {xs ys : List Body} {i : Nat} (h : ys = fill (fun e => f e (Ty.ix .body xs e)) xs i) (hi : i = xs.length) : ys = mapX f xs := by
  rw [h, fill_end _ _ hi]
  rfl
theorem groups_in {xs : List Body} (hok : bodiesOk xs = true) {i : Nat} (hi : i < xs.length) (hq : ((Ty.ix .body xs i).Quiet == 8) = true) : freeB xs i = true := by
  have h1 := bodiesOk_each hok hi
  have hq := eq_of_beq hq
  simp only [bodyOk, Bool.and_eq_true] at h1
  unfold freeB
  cases q : (Ty.ix .body xs i).Mass == 0 with
  | false => rfl
  | true =>
    exfalso
    have h2 := h1.2
    rw [if_pos (eq_of_beq q), hq] at h2
    simp at h2
theorem kin_mapX {f : Nat → Body → Body} (hf : ∀ i b, kin b (f i b)) (xs : List Body) : Kin xs (mapX f xs) := by
  refine ⟨(length_mapX f xs).symm, fun k hk => ?_⟩
  rw [show Ty.ix .body (mapX f xs) k = f k (Ty.ix .body xs k) from ix_gen (T := .body) hk]
  exact hf _ _
theorem kin_wakeS (gs : List Int) (ws : List Bool) (i : Nat) (b : Body) : kin b (wakeS gs ws i b) := by
  unfold wakeS
  cases b.Quiet == 8 && Ty.ix .bool ws (gi gs i).toNat <;> exact ⟨rfl, rfl, rfl, rfl, rfl⟩
theorem kin_pullS (pull : Int) (i : Nat) (b : Body) : kin b (pullS pull i b) := by
  unfold pullS
  cases moves b <;> exact ⟨rfl, rfl, rfl, rfl, rfl⟩
theorem kin_goS (i : Nat) (b : Body) : kin b (goS i b) := by
  unfold goS
  cases moves b
  · exact kin_refl _
  · exact kin_move _ _
theorem liveF_drop {xs : List Body} {cs : List Contact} {i : Nat} (h : i < cs.length) : liveF xs (cs.drop i) = (bif moves (Ty.ix .body xs (Ty.ix .contact cs i).A.toNat) || moves (Ty.ix .body xs (Ty.ix .contact cs i).B.toNat) then [Ty.ix .contact cs i] else []) ++ liveF xs (cs.drop (i + 1)) := by
  unfold liveF
  rw [drop_ix (T := .contact) h, List.filter_cons]
  cases moves (Ty.ix .body xs (Ty.ix .contact cs i).A.toNat) || moves (Ty.ix .body xs (Ty.ix .contact cs i).B.toNat) <;> simp
theorem live_ok {xs zs : List Body} (h : xs.length ≤ 12) : CtsOk xs.length (liveF zs (contactsF xs)) := by
  have h1 := length_contactsF h
  have h2 : (liveF zs (contactsF xs)).length ≤ (contactsF xs).length := List.length_filter_le _ _
  refine ⟨by omega, fun k hk => ?_⟩
  have hm : Ty.ix .contact (liveF zs (contactsF xs)) k ∈ liveF zs (contactsF xs) := List.mem_of_getElem? (ix_get (T := .contact) hk)
  obtain ⟨a, b, q1, q2, q3, _⟩ := mem_contactsF (List.mem_filter.1 hm).1
  rw [q3]
  refine ⟨?_, ?_, ?_, ?_, ?_⟩ <;> dsimp only <;> omega
def LSst1  : LS where
  S := List Body × Unit × Int × List Body × List Int × List Bool × Int × Int
  live := [(0, [none]), (1, [none]), (5, [some .body]), (6, [some .int]), (7, [some .bool]), (35, [none]), (36, [none])]
  shape := fun s => ([.vec 0, .int .i64 s.2.2.1, .vec 1, .vec 2, .vec 3, .int .i64 s.2.2.2.2.2.2.1, .int .i64 s.2.2.2.2.2.2.2], [(false, .vec .body s.1), (true, .vec .body s.2.2.2.1), (true, .vec .int s.2.2.2.2.1), (true, .vec .bool s.2.2.2.2.2.1)])
  get := fun v h => match v, h with
    | [.vec 0, .int .i64 pull, .vec 1, .vec 2, .vec 3, .int .i64 n, .int .i64 i], [(false, .vec .body xs), (true, .vec .body ys), (true, .vec .int gs), (true, .vec .bool ws)] => some (xs, (), pull, ys, gs, ws, n, i)
    | _, _ => none
  inv := fun s0 s => Holds (s.1 = s0.1 ∧ s.2.2.1 = s0.2.2.1 ∧ s.2.2.2.2.1 = s0.2.2.2.2.1 ∧ s.2.2.2.2.2.1 = s0.2.2.2.2.2.1 ∧ s.2.2.2.2.2.2.1 = s0.2.2.2.1.length ∧ 0 ≤ s.2.2.2.2.2.2.2 ∧ s.2.2.2.2.2.2.2 ≤ s0.2.2.2.1.length ∧ s.2.2.2.1 = fill (fun e => wakeS s0.2.2.2.2.1 s0.2.2.2.2.2.1 e (Ty.ix .body s0.2.2.2.1 e)) s0.2.2.2.1 s.2.2.2.2.2.2.2.toNat)
  mu := fun s => (s.2.2.2.2.2.2.1 - s.2.2.2.2.2.2.2).toNat
  ok := by
    intro v h s hg
    try dsimp only at hg
    split at hg <;> cases hg
    rfl

def LSst2  : LS where
  S := List Body × Unit × Int × List Body × List Int × List Bool × List Body × Int × Int
  live := [(0, [none]), (1, [none]), (5, [some .body]), (6, [some .int]), (7, [some .bool]), (10, [some .body]), (62, [none]), (63, [none])]
  shape := fun s => ([.vec 0, .int .i64 s.2.2.1, .vec 1, .vec 2, .vec 3, .vec 4, .int .i64 s.2.2.2.2.2.2.2.1, .int .i64 s.2.2.2.2.2.2.2.2], [(false, .vec .body s.1), (true, .vec .body s.2.2.2.1), (true, .vec .int s.2.2.2.2.1), (true, .vec .bool s.2.2.2.2.2.1), (true, .vec .body s.2.2.2.2.2.2.1)])
  get := fun v h => match v, h with
    | [.vec 0, .int .i64 pull, .vec 1, .vec 2, .vec 3, .vec 4, .int .i64 n, .int .i64 i], [(false, .vec .body xs), (true, .vec .body ys), (true, .vec .int gs), (true, .vec .bool ws), (true, .vec .body was)] => some (xs, (), pull, ys, gs, ws, was, n, i)
    | _, _ => none
  inv := fun s0 s => Holds (s.1 = s0.1 ∧ s.2.2.1 = s0.2.2.1 ∧ s.2.2.2.2.1 = s0.2.2.2.2.1 ∧ s.2.2.2.2.2.1 = s0.2.2.2.2.2.1 ∧ s.2.2.2.2.2.2.1 = s0.2.2.2.2.2.2.1 ∧ s.2.2.2.2.2.2.2.1 = s0.2.2.2.1.length ∧ 0 ≤ s.2.2.2.2.2.2.2.2 ∧ s.2.2.2.2.2.2.2.2 ≤ s0.2.2.2.1.length ∧ s.2.2.2.1 = fill (fun e => pullS s0.2.2.1 e (Ty.ix .body s0.2.2.2.1 e)) s0.2.2.2.1 s.2.2.2.2.2.2.2.2.toNat)
  mu := fun s => (s.2.2.2.2.2.2.2.1 - s.2.2.2.2.2.2.2.2).toNat
  ok := by
    intro v h s hg
    try dsimp only at hg
    split at hg <;> cases hg
    rfl

def LSst3  : LS where
  S := List Body × List Body × List Int × List Bool × List Body × List Contact × List Contact × Int × Int
  live := [(5, [some .body]), (6, [some .int]), (7, [some .bool]), (10, [some .body]), (13, [some .contact]), (92, [some .contact]), (93, [none]), (94, [none])]
  shape := fun s => ([.vec 1, .vec 2, .vec 3, .vec 4, .vec 5, .vec 6, .int .i64 s.2.2.2.2.2.2.2.1, .int .i64 s.2.2.2.2.2.2.2.2], [(false, .vec .body s.1), (true, .vec .body s.2.1), (true, .vec .int s.2.2.1), (true, .vec .bool s.2.2.2.1), (true, .vec .body s.2.2.2.2.1), (true, .vec .contact s.2.2.2.2.2.1), (true, .vec .contact s.2.2.2.2.2.2.1)])
  get := fun v h => match v, h with
    | [.vec 1, .vec 2, .vec 3, .vec 4, .vec 5, .vec 6, .int .i64 n, .int .i64 i], [(false, .vec .body xs), (true, .vec .body ys), (true, .vec .int gs), (true, .vec .bool ws), (true, .vec .body was), (true, .vec .contact live), (true, .vec .contact cs)] => some (xs, ys, gs, ws, was, live, cs, n, i)
    | _, _ => none
  inv := fun s0 s => Holds (s.1 = s0.1 ∧ s.2.1 = s0.2.1 ∧ s.2.2.1 = s0.2.2.1 ∧ s.2.2.2.1 = s0.2.2.2.1 ∧ s.2.2.2.2.1 = s0.2.2.2.2.1 ∧ s.2.2.2.2.2.2.1 = s0.2.2.2.2.2.2.1 ∧ s.2.2.2.2.2.2.2.1 = s0.2.2.2.2.2.2.1.length ∧ 0 ≤ s.2.2.2.2.2.2.2.2 ∧ s.2.2.2.2.2.2.2.2 ≤ s0.2.2.2.2.2.2.1.length ∧ s.2.2.2.2.2.1 ++ liveF s0.2.1 (s0.2.2.2.2.2.2.1.drop s.2.2.2.2.2.2.2.2.toNat) = liveF s0.2.1 s0.2.2.2.2.2.2.1)
  mu := fun s => (s.2.2.2.2.2.2.2.1 - s.2.2.2.2.2.2.2.2).toNat
  ok := by
    intro v h s hg
    try dsimp only at hg
    split at hg <;> cases hg
    rfl

def LSst4  : LS where
  S := List Body × List Body × List Int × List Bool × List Body × List Contact × Int × Int
  live := [(5, [some .body]), (6, [some .int]), (7, [some .bool]), (10, [some .body]), (13, [some .contact]), (121, [none]), (122, [none])]
  shape := fun s => ([.vec 1, .vec 2, .vec 3, .vec 4, .vec 5, .int .i64 s.2.2.2.2.2.2.1, .int .i64 s.2.2.2.2.2.2.2], [(false, .vec .body s.1), (true, .vec .body s.2.1), (true, .vec .int s.2.2.1), (true, .vec .bool s.2.2.2.1), (true, .vec .body s.2.2.2.2.1), (true, .vec .contact s.2.2.2.2.2.1)])
  get := fun v h => match v, h with
    | [.vec 1, .vec 2, .vec 3, .vec 4, .vec 5, .int .i64 n, .int .i64 i], [(false, .vec .body xs), (true, .vec .body ys), (true, .vec .int gs), (true, .vec .bool ws), (true, .vec .body was), (true, .vec .contact live)] => some (xs, ys, gs, ws, was, live, n, i)
    | _, _ => none
  inv := fun s0 s => Holds (s.1 = s0.1 ∧ s.2.2.1 = s0.2.2.1 ∧ s.2.2.2.1 = s0.2.2.2.1 ∧ s.2.2.2.2.1 = s0.2.2.2.2.1 ∧ s.2.2.2.2.2.1 = s0.2.2.2.2.2.1 ∧ s.2.2.2.2.2.2.1 = s0.2.1.length ∧ 0 ≤ s.2.2.2.2.2.2.2 ∧ s.2.2.2.2.2.2.2 ≤ s0.2.1.length ∧ s.2.1 = fill (fun e => goS e (Ty.ix .body s0.2.1 e)) s0.2.1 s.2.2.2.2.2.2.2.toNat)
  mu := fun s => (s.2.2.2.2.2.2.1 - s.2.2.2.2.2.2.2).toNat
  ok := by
    intro v h s hg
    try dsimp only at hg
    split at hg <;> cases hg
    rfl

def LSst5  : LS where
  S := List Body × List Body × List Int × List Bool × List Body × Int × Int
  live := [(5, [some .body]), (6, [some .int]), (7, [some .bool]), (10, [some .body]), (143, [none]), (144, [none])]
  shape := fun s => ([.vec 1, .vec 2, .vec 3, .vec 4, .int .i64 s.2.2.2.2.2.1, .int .i64 s.2.2.2.2.2.2], [(false, .vec .body s.1), (true, .vec .body s.2.1), (true, .vec .int s.2.2.1), (true, .vec .bool s.2.2.2.1), (true, .vec .body s.2.2.2.2.1)])
  get := fun v h => match v, h with
    | [.vec 1, .vec 2, .vec 3, .vec 4, .int .i64 n, .int .i64 i], [(false, .vec .body xs), (true, .vec .body ys), (true, .vec .int gs), (true, .vec .bool ws), (true, .vec .body was)] => some (xs, ys, gs, ws, was, n, i)
    | _, _ => none
  inv := fun s0 s => Holds (s.1 = s0.1 ∧ s.2.2.1 = s0.2.2.1 ∧ s.2.2.2.1 = s0.2.2.2.1 ∧ s.2.2.2.2.1 = s0.2.2.2.2.1 ∧ s.2.2.2.2.2.1 = s0.2.1.length ∧ 0 ≤ s.2.2.2.2.2.2 ∧ s.2.2.2.2.2.2 ≤ s0.2.1.length ∧ s.2.1 = fill (fun e => quietS s0.2.2.2.2.1 e (Ty.ix .body s0.2.1 e)) s0.2.1 s.2.2.2.2.2.2.toNat)
  mu := fun s => (s.2.2.2.2.2.1 - s.2.2.2.2.2.2).toNat
  ok := by
    intro v h s hg
    try dsimp only at hg
    split at hg <;> cases hg
    rfl

def L_step : Loops := fun n => match n with
  | 6 => some LSst1
  | 14 => some LSst2
  | 22 => some LSst3
  | 29 => some LSst4
  | 37 => some LSst5
  | _ => none
noncomputable def fs_implStep : Fs := ⟨[], fun args H => match args, H with
  | [.vec 0, .int .i64 pull], [(false, .vec .body xs)] => some ((some (xs.length ≤ 1048576)), .vec 1, [(false, .vec .body xs), (true, .vec .body (stepOf xs pull))])
  | _, _ => none⟩

theorem vc_implStep (xs : List Body) (pull : Int) (Q : SV → List Ent → Prop) :
    fnVC tt (look [(47, fs_implBodiesOk), (52, fs_in_), (53, fs_cloneBodies), (19, fs_implGroups), (20, fs_implAwake), (54, fs_bodySleeps), (55, fs_implMoves), (21, fs_implContacts), (56, fs_implAll), (58, fs_implSpeed), (57, fs_implMoveB), (59, fs_implApartF), (60, fs_implQuiet), (61, fs_implSettle)]) (L_step) Tryz.f16 [.vec 0, .int .i64 pull] [(false, .vec .body xs)] Q =
    (let w_ := IntKind.wrap IntKind.i64; let s_ := SV.int IntKind.i64; let n_ := Int.toNat; let ib_ := Ty.ix Ty.body; let ic_ := Ty.ix Ty.contact; let vb_ := Blk.vec Ty.body; List.length xs ≤ (4611686018427387904 : Nat) ∧ ifB (!bodiesOk xs) (Q (SV.vec (1 : Nat)) [(false, vb_ xs), (true, vb_ [])]) (ifB (!isIn pull (0 : Int) (2560 : Int)) (Q (SV.vec (1 : Nat)) [(false, vb_ xs), (true, vb_ [])]) (List.length xs ≤ (1048576 : Nat) ∧ List.length xs ≤ (1048576 : Nat) ∧ List.length xs ≤ (1048576 : Nat) ∧ Holds (xs = xs ∧ pull = pull ∧ groupsOf xs = groupsOf xs ∧ awakeOf xs = awakeOf xs ∧ (↑(List.length xs) : Int) = (↑(List.length xs) : Int) ∧ (0 : Int) ≤ (0 : Int) ∧ (0 : Int) ≤ (↑(List.length xs) : Int) ∧ xs = fill (fun e => wakeS (groupsOf xs) (awakeOf xs) e (ib_ xs e)) xs (n_ (0 : Int))) ∧ ∀ (y25 : List Body × Unit × Int × List Body × List Int × List Bool × Int × Int), let y25f0_ := Prod.fst y25; let y25s1_ := Prod.snd y25; let y25f2_ := Prod.fst (Prod.snd (Prod.snd y25)); let y25f3_ := Prod.fst (Prod.snd (Prod.snd (Prod.snd y25))); let y25f4_ := Prod.fst (Prod.snd (Prod.snd (Prod.snd (Prod.snd y25)))); let y25f5_ := Prod.fst (Prod.snd (Prod.snd (Prod.snd (Prod.snd (Prod.snd y25))))); let y25s6_ := Prod.snd (Prod.snd (Prod.snd (Prod.snd (Prod.snd (Prod.snd y25))))); let y25f6_ := Prod.fst (Prod.snd (Prod.snd (Prod.snd (Prod.snd (Prod.snd (Prod.snd y25)))))); let y25s7_ := Prod.snd (Prod.snd (Prod.snd (Prod.snd (Prod.snd (Prod.snd (Prod.snd y25)))))); let A27_ := (↑(List.length xs) : Int); let A26_ := (Prod.snd y25s6_ + (1 : Int)); Holds (Prod.fst y25 = xs ∧ y25f2_ = pull ∧ y25f4_ = groupsOf xs ∧ y25f5_ = awakeOf xs ∧ y25f6_ = A27_ ∧ (0 : Int) ≤ y25s7_ ∧ y25s7_ ≤ A27_ ∧ y25f3_ = fill (fun e => wakeS (groupsOf xs) (awakeOf xs) e (ib_ xs e)) xs (n_ y25s7_)) → ifB (decide (Prod.snd y25s6_ < y25f6_)) (((0 : Int) ≤ y25s7_ ∧ y25s7_ < (↑(List.length y25f3_) : Int)) ∧ ifB (Body.Quiet (ib_ y25f3_ (n_ y25s7_)) == (8 : Int)) (((0 : Int) ≤ y25s7_ ∧ y25s7_ < (↑(List.length y25f4_) : Int)) ∧ ((0 : Int) ≤ Ty.ix Ty.int y25f4_ (n_ y25s7_) ∧ Ty.ix Ty.int y25f4_ (n_ y25s7_) < (↑(List.length y25f5_) : Int)) ∧ ifB (Ty.ix Ty.bool y25f5_ (n_ (Ty.ix Ty.int y25f4_ (n_ y25s7_)))) (Holds (Prod.fst y25 = xs ∧ y25f2_ = pull ∧ y25f4_ = groupsOf xs ∧ y25f5_ = awakeOf xs ∧ y25f6_ = A27_ ∧ (0 : Int) ≤ w_ A26_ ∧ w_ A26_ ≤ A27_ ∧ setC Ty.body y25f3_ (n_ y25s7_) ((0 : Nat) + (11 : Nat)) [s_ (0 : Int)] = fill (fun e => wakeS (groupsOf xs) (awakeOf xs) e (ib_ xs e)) xs (n_ (w_ A26_))) ∧ n_ (Prod.fst y25s6_ - w_ A26_) < n_ (Prod.fst y25s6_ - y25s7_)) (Holds (Prod.fst y25 = xs ∧ y25f2_ = pull ∧ y25f4_ = groupsOf xs ∧ y25f5_ = awakeOf xs ∧ y25f6_ = A27_ ∧ (0 : Int) ≤ w_ A26_ ∧ w_ A26_ ≤ A27_ ∧ y25f3_ = fill (fun e => wakeS (groupsOf xs) (awakeOf xs) e (ib_ xs e)) xs (n_ (w_ A26_))) ∧ n_ (Prod.fst y25s6_ - w_ A26_) < n_ (Prod.fst y25s6_ - y25s7_))) (Holds (Prod.fst y25 = xs ∧ y25f2_ = pull ∧ y25f4_ = groupsOf xs ∧ y25f5_ = awakeOf xs ∧ y25f6_ = A27_ ∧ (0 : Int) ≤ w_ A26_ ∧ w_ A26_ ≤ A27_ ∧ y25f3_ = fill (fun e => wakeS (groupsOf xs) (awakeOf xs) e (ib_ xs e)) xs (n_ (w_ A26_))) ∧ n_ (Prod.fst y25s6_ - w_ A26_) < n_ (Prod.fst y25s6_ - y25s7_))) (List.length y25f3_ ≤ (1048576 : Nat) ∧ Holds (Prod.fst y25 = y25f0_ ∧ y25f2_ = y25f2_ ∧ y25f4_ = y25f4_ ∧ y25f5_ = y25f5_ ∧ y25f3_ = y25f3_ ∧ (↑(List.length y25f3_) : Int) = (↑(List.length y25f3_) : Int) ∧ (0 : Int) ≤ (0 : Int) ∧ (0 : Int) ≤ (↑(List.length y25f3_) : Int) ∧ y25f3_ = fill (fun e => pullS y25f2_ e (ib_ y25f3_ e)) y25f3_ (n_ (0 : Int))) ∧ ∀ (y20 : List Body × Unit × Int × List Body × List Int × List Bool × List Body × Int × Int), let y20f0_ := Prod.fst y20; let y20s1_ := Prod.snd y20; let y20s2_ := Prod.snd (Prod.snd y20); let y20f2_ := Prod.fst (Prod.snd (Prod.snd y20)); let y20f3_ := Prod.fst (Prod.snd (Prod.snd (Prod.snd y20))); let y20f4_ := Prod.fst (Prod.snd (Prod.snd (Prod.snd (Prod.snd y20)))); let y20f5_ := Prod.fst (Prod.snd (Prod.snd (Prod.snd (Prod.snd (Prod.snd y20))))); let y20f6_ := Prod.fst (Prod.snd (Prod.snd (Prod.snd (Prod.snd (Prod.snd (Prod.snd y20)))))); let y20s7_ := Prod.snd (Prod.snd (Prod.snd (Prod.snd (Prod.snd (Prod.snd (Prod.snd y20)))))); let y20f7_ := Prod.fst (Prod.snd (Prod.snd (Prod.snd (Prod.snd (Prod.snd (Prod.snd (Prod.snd y20))))))); let y20s8_ := Prod.snd (Prod.snd (Prod.snd (Prod.snd (Prod.snd (Prod.snd (Prod.snd (Prod.snd y20))))))); let A24_ := (Vec.Y (Body.Drive (ib_ y20f3_ (n_ y20s8_))) - w_ (Prod.fst y20s2_ * Body.Mass (ib_ y20f3_ (n_ y20s8_)))); let A22_ := (Prod.snd y20s7_ + (1 : Int)); let A21_ := (Prod.snd (Prod.snd y25s1_)); let A23_ := (↑(List.length (Prod.fst A21_)) : Int); Holds (Prod.fst y20 = y25f0_ ∧ y20f2_ = y25f2_ ∧ y20f4_ = Prod.fst (Prod.snd A21_) ∧ y20f5_ = Prod.fst (Prod.snd (Prod.snd A21_)) ∧ y20f6_ = Prod.fst A21_ ∧ y20f7_ = A23_ ∧ (0 : Int) ≤ y20s8_ ∧ y20s8_ ≤ A23_ ∧ y20f3_ = fill (fun e => pullS y25f2_ e (ib_ (Prod.fst A21_) e)) (Prod.fst A21_) (n_ y20s8_)) → ifB (decide (Prod.snd y20s7_ < y20f7_)) (((0 : Int) ≤ y20s8_ ∧ y20s8_ < (↑(List.length y20f3_) : Int)) ∧ ifB (moves (ib_ y20f3_ (n_ y20s8_))) (Holds (Prod.fst y20 = y25f0_ ∧ y20f2_ = y25f2_ ∧ y20f4_ = Prod.fst (Prod.snd A21_) ∧ y20f5_ = Prod.fst (Prod.snd (Prod.snd A21_)) ∧ y20f6_ = Prod.fst A21_ ∧ y20f7_ = A23_ ∧ (0 : Int) ≤ w_ A22_ ∧ w_ A22_ ≤ A23_ ∧ setC Ty.body y20f3_ (n_ y20s8_) ((0 : Nat) + (6 : Nat) + (1 : Nat)) [s_ (if (-20000000 : Int) > w_ A24_ then (-20000000 : Int) else w_ A24_)] = fill (fun e => pullS y25f2_ e (ib_ (Prod.fst A21_) e)) (Prod.fst A21_) (n_ (w_ A22_))) ∧ n_ (Prod.fst y20s7_ - w_ A22_) < n_ (Prod.fst y20s7_ - y20s8_)) (Holds (Prod.fst y20 = y25f0_ ∧ y20f2_ = y25f2_ ∧ y20f4_ = Prod.fst (Prod.snd A21_) ∧ y20f5_ = Prod.fst (Prod.snd (Prod.snd A21_)) ∧ y20f6_ = Prod.fst A21_ ∧ y20f7_ = A23_ ∧ (0 : Int) ≤ w_ A22_ ∧ w_ A22_ ≤ A23_ ∧ y20f3_ = fill (fun e => pullS y25f2_ e (ib_ (Prod.fst A21_) e)) (Prod.fst A21_) (n_ (w_ A22_))) ∧ n_ (Prod.fst y20s7_ - w_ A22_) < n_ (Prod.fst y20s7_ - y20s8_))) (List.length y20f0_ ≤ (1048576 : Nat) ∧ Holds (Prod.fst y20 = y20f0_ ∧ y20f3_ = y20f3_ ∧ y20f4_ = y20f4_ ∧ y20f5_ = y20f5_ ∧ y20f6_ = y20f6_ ∧ contactsOf y20f0_ = contactsOf y20f0_ ∧ (↑(List.length (contactsOf y20f0_)) : Int) = (↑(List.length (contactsOf y20f0_)) : Int) ∧ (0 : Int) ≤ (0 : Int) ∧ (0 : Int) ≤ (↑(List.length (contactsOf y20f0_)) : Int) ∧ [] ++ liveF y20f3_ (List.drop (n_ (0 : Int)) (contactsOf y20f0_)) = liveF y20f3_ (contactsOf y20f0_)) ∧ ∀ (y12 : List Body × List Body × List Int × List Bool × List Body × List Contact × List Contact × Int × Int), let y12f0_ := Prod.fst y12; let y12s1_ := Prod.snd y12; let y12f1_ := Prod.fst (Prod.snd y12); let y12f2_ := Prod.fst (Prod.snd (Prod.snd y12)); let y12f3_ := Prod.fst (Prod.snd (Prod.snd (Prod.snd y12))); let y12f4_ := Prod.fst (Prod.snd (Prod.snd (Prod.snd (Prod.snd y12)))); let y12f5_ := Prod.fst (Prod.snd (Prod.snd (Prod.snd (Prod.snd (Prod.snd y12))))); let y12f6_ := Prod.fst (Prod.snd (Prod.snd (Prod.snd (Prod.snd (Prod.snd (Prod.snd y12)))))); let y12s7_ := Prod.snd (Prod.snd (Prod.snd (Prod.snd (Prod.snd (Prod.snd (Prod.snd y12)))))); let y12f7_ := Prod.fst (Prod.snd (Prod.snd (Prod.snd (Prod.snd (Prod.snd (Prod.snd (Prod.snd y12))))))); let y12s8_ := Prod.snd (Prod.snd (Prod.snd (Prod.snd (Prod.snd (Prod.snd (Prod.snd (Prod.snd y12))))))); let A16_ := (ic_ y12f6_ (n_ y12s8_)); let A15_ := (Prod.snd y12s7_ + (1 : Int)); let A14_ := (contactsOf y20f0_); let A19_ := (List.drop (n_ (w_ A15_)) A14_); let A17_ := (↑(List.length A14_) : Int); let A13_ := (Prod.snd y20s2_); let A18_ := (Prod.snd (Prod.snd A13_)); Holds (Prod.fst y12 = y20f0_ ∧ y12f1_ = Prod.fst A13_ ∧ y12f2_ = Prod.fst (Prod.snd A13_) ∧ y12f3_ = Prod.fst A18_ ∧ y12f4_ = Prod.fst (Prod.snd A18_) ∧ y12f6_ = contactsOf y20f0_ ∧ y12f7_ = A17_ ∧ (0 : Int) ≤ y12s8_ ∧ y12s8_ ≤ A17_ ∧ y12f5_ ++ liveF (Prod.fst A13_) (List.drop (n_ y12s8_) A14_) = liveF (Prod.fst A13_) A14_) → ifB (decide (Prod.snd y12s7_ < y12f7_)) (((0 : Int) ≤ y12s8_ ∧ y12s8_ < (↑(List.length y12f6_) : Int)) ∧ ((0 : Int) ≤ Contact.A A16_ ∧ Contact.A A16_ < (↑(List.length y12f1_) : Int)) ∧ ifB (moves (ib_ y12f1_ (n_ (Contact.A A16_)))) ((List.length y12f5_ + List.length [ic_ y12f6_ (n_ y12s8_)]) * (40 : Nat) ≤ room ∧ Holds (Prod.fst y12 = y20f0_ ∧ y12f1_ = Prod.fst A13_ ∧ y12f2_ = Prod.fst (Prod.snd A13_) ∧ y12f3_ = Prod.fst A18_ ∧ y12f4_ = Prod.fst (Prod.snd A18_) ∧ y12f6_ = contactsOf y20f0_ ∧ y12f7_ = A17_ ∧ (0 : Int) ≤ w_ A15_ ∧ w_ A15_ ≤ A17_ ∧ y12f5_ ++ [ic_ y12f6_ (n_ y12s8_)] ++ liveF (Prod.fst A13_) A19_ = liveF (Prod.fst A13_) A14_) ∧ n_ (Prod.fst y12s7_ - w_ A15_) < n_ (Prod.fst y12s7_ - y12s8_)) (((0 : Int) ≤ Contact.B A16_ ∧ Contact.B A16_ < (↑(List.length y12f1_) : Int)) ∧ ifB (moves (ib_ y12f1_ (n_ (Contact.B A16_)))) ((List.length y12f5_ + List.length [ic_ y12f6_ (n_ y12s8_)]) * (40 : Nat) ≤ room ∧ Holds (Prod.fst y12 = y20f0_ ∧ y12f1_ = Prod.fst A13_ ∧ y12f2_ = Prod.fst (Prod.snd A13_) ∧ y12f3_ = Prod.fst A18_ ∧ y12f4_ = Prod.fst (Prod.snd A18_) ∧ y12f6_ = contactsOf y20f0_ ∧ y12f7_ = A17_ ∧ (0 : Int) ≤ w_ A15_ ∧ w_ A15_ ≤ A17_ ∧ y12f5_ ++ [ic_ y12f6_ (n_ y12s8_)] ++ liveF (Prod.fst A13_) A19_ = liveF (Prod.fst A13_) A14_) ∧ n_ (Prod.fst y12s7_ - w_ A15_) < n_ (Prod.fst y12s7_ - y12s8_)) (Holds (Prod.fst y12 = y20f0_ ∧ y12f1_ = Prod.fst A13_ ∧ y12f2_ = Prod.fst (Prod.snd A13_) ∧ y12f3_ = Prod.fst A18_ ∧ y12f4_ = Prod.fst (Prod.snd A18_) ∧ y12f6_ = contactsOf y20f0_ ∧ y12f7_ = A17_ ∧ (0 : Int) ≤ w_ A15_ ∧ w_ A15_ ≤ A17_ ∧ y12f5_ ++ liveF (Prod.fst A13_) A19_ = liveF (Prod.fst A13_) A14_) ∧ n_ (Prod.fst y12s7_ - w_ A15_) < n_ (Prod.fst y12s7_ - y12s8_)))) (((∀ (k : Nat), k < List.length y12f1_ → POk (ib_ y12f1_ k)) ∧ List.length y12f1_ ≤ (12 : Nat) ∧ List.length y12f5_ ≤ (144 : Nat) ∧ ∀ (k : Nat), k < List.length y12f5_ → (0 : Int) ≤ Contact.A (ic_ y12f5_ k) ∧ Contact.A (ic_ y12f5_ k) < (↑(List.length y12f1_) : Int) ∧ (0 : Int) ≤ Contact.B (ic_ y12f5_ k) ∧ Contact.B (ic_ y12f5_ k) < (↑(List.length y12f1_) : Int) ∧ Contact.A (ic_ y12f5_ k) ≠ Contact.B (ic_ y12f5_ k)) ∧ Holds (Prod.fst y12 = y12f0_ ∧ y12f2_ = y12f2_ ∧ y12f3_ = y12f3_ ∧ y12f4_ = y12f4_ ∧ y12f5_ = y12f5_ ∧ (↑(List.length (pushAllF y12f1_ y12f5_)) : Int) = (↑(List.length (pushAllF y12f1_ y12f5_)) : Int) ∧ (0 : Int) ≤ (0 : Int) ∧ (0 : Int) ≤ (↑(List.length (pushAllF y12f1_ y12f5_)) : Int) ∧ pushAllF y12f1_ y12f5_ = fill (fun e => goS e (ib_ (pushAllF y12f1_ y12f5_) e)) (pushAllF y12f1_ y12f5_) (n_ (0 : Int))) ∧ ∀ (y7 : List Body × List Body × List Int × List Bool × List Body × List Contact × Int × Int), let y7f0_ := Prod.fst y7; let y7s1_ := Prod.snd y7; let y7f1_ := Prod.fst (Prod.snd y7); let y7f2_ := Prod.fst (Prod.snd (Prod.snd y7)); let y7f3_ := Prod.fst (Prod.snd (Prod.snd (Prod.snd y7))); let y7f4_ := Prod.fst (Prod.snd (Prod.snd (Prod.snd (Prod.snd y7)))); let y7f5_ := Prod.fst (Prod.snd (Prod.snd (Prod.snd (Prod.snd (Prod.snd y7))))); let y7s6_ := Prod.snd (Prod.snd (Prod.snd (Prod.snd (Prod.snd (Prod.snd y7))))); let y7f6_ := Prod.fst (Prod.snd (Prod.snd (Prod.snd (Prod.snd (Prod.snd (Prod.snd y7)))))); let y7s7_ := Prod.snd (Prod.snd (Prod.snd (Prod.snd (Prod.snd (Prod.snd (Prod.snd y7)))))); let A10_ := (Prod.snd y7s6_ + (1 : Int)); let A9_ := (Prod.snd (Prod.snd y12s1_)); let A8_ := (pushAllF y12f1_ (Prod.fst (Prod.snd (Prod.snd A9_)))); let A11_ := (↑(List.length A8_) : Int); Holds (Prod.fst y7 = y12f0_ ∧ y7f2_ = y12f2_ ∧ y7f3_ = Prod.fst A9_ ∧ y7f4_ = Prod.fst (Prod.snd A9_) ∧ y7f5_ = Prod.fst (Prod.snd (Prod.snd A9_)) ∧ y7f6_ = A11_ ∧ (0 : Int) ≤ y7s7_ ∧ y7s7_ ≤ A11_ ∧ y7f1_ = fill (fun e => goS e (ib_ A8_ e)) A8_ (n_ y7s7_)) → ifB (decide (Prod.snd y7s6_ < y7f6_)) (((0 : Int) ≤ y7s7_ ∧ y7s7_ < (↑(List.length y7f1_) : Int)) ∧ ifB (moves (ib_ y7f1_ (n_ y7s7_))) (n_ y7s7_ < List.length y7f1_ ∧ Holds (Prod.fst y7 = y12f0_ ∧ y7f2_ = y12f2_ ∧ y7f3_ = Prod.fst A9_ ∧ y7f4_ = Prod.fst (Prod.snd A9_) ∧ y7f5_ = Prod.fst (Prod.snd (Prod.snd A9_)) ∧ y7f6_ = A11_ ∧ (0 : Int) ≤ w_ A10_ ∧ w_ A10_ ≤ A11_ ∧ List.set y7f1_ (n_ y7s7_) (moveB (ib_ y7f1_ (n_ y7s7_)) (speed (ib_ y7f1_ (n_ y7s7_)))) = fill (fun e => goS e (ib_ A8_ e)) A8_ (n_ (w_ A10_))) ∧ n_ (Prod.fst y7s6_ - w_ A10_) < n_ (Prod.fst y7s6_ - y7s7_)) (Holds (Prod.fst y7 = y12f0_ ∧ y7f2_ = y12f2_ ∧ y7f3_ = Prod.fst A9_ ∧ y7f4_ = Prod.fst (Prod.snd A9_) ∧ y7f5_ = Prod.fst (Prod.snd (Prod.snd A9_)) ∧ y7f6_ = A11_ ∧ (0 : Int) ≤ w_ A10_ ∧ w_ A10_ ≤ A11_ ∧ y7f1_ = fill (fun e => goS e (ib_ A8_ e)) A8_ (n_ (w_ A10_))) ∧ n_ (Prod.fst y7s6_ - w_ A10_) < n_ (Prod.fst y7s6_ - y7s7_))) (((∀ (k : Nat), k < List.length y7f1_ → POk (ib_ y7f1_ k)) ∧ List.length y7f1_ ≤ (12 : Nat) ∧ List.length y7f5_ ≤ (144 : Nat) ∧ ∀ (k : Nat), k < List.length y7f5_ → (0 : Int) ≤ Contact.A (ic_ y7f5_ k) ∧ Contact.A (ic_ y7f5_ k) < (↑(List.length y7f1_) : Int) ∧ (0 : Int) ≤ Contact.B (ic_ y7f5_ k) ∧ Contact.B (ic_ y7f5_ k) < (↑(List.length y7f1_) : Int) ∧ Contact.A (ic_ y7f5_ k) ≠ Contact.B (ic_ y7f5_ k)) ∧ Holds (Prod.fst y7 = y7f0_ ∧ y7f2_ = y7f2_ ∧ y7f3_ = y7f3_ ∧ y7f4_ = y7f4_ ∧ (↑(List.length (apartF y7f1_ y7f5_)) : Int) = (↑(List.length (apartF y7f1_ y7f5_)) : Int) ∧ (0 : Int) ≤ (0 : Int) ∧ (0 : Int) ≤ (↑(List.length (apartF y7f1_ y7f5_)) : Int) ∧ apartF y7f1_ y7f5_ = fill (fun e => quietS y7f4_ e (ib_ (apartF y7f1_ y7f5_) e)) (apartF y7f1_ y7f5_) (n_ (0 : Int))) ∧ ∀ (y1 : List Body × List Body × List Int × List Bool × List Body × Int × Int), let y1f0_ := Prod.fst y1; let y1s1_ := Prod.snd y1; let y1f1_ := Prod.fst (Prod.snd y1); let y1f2_ := Prod.fst (Prod.snd (Prod.snd y1)); let y1f3_ := Prod.fst (Prod.snd (Prod.snd (Prod.snd y1))); let y1f4_ := Prod.fst (Prod.snd (Prod.snd (Prod.snd (Prod.snd y1)))); let y1s5_ := Prod.snd (Prod.snd (Prod.snd (Prod.snd (Prod.snd y1)))); let y1f5_ := Prod.fst (Prod.snd (Prod.snd (Prod.snd (Prod.snd (Prod.snd y1))))); let y1s6_ := Prod.snd (Prod.snd (Prod.snd (Prod.snd (Prod.snd (Prod.snd y1))))); let A5_ := (setC Ty.body y1f1_ (n_ y1s6_) ((0 : Nat) + (11 : Nat)) [s_ (0 : Int)]); let A4_ := (Prod.snd y1s5_ + (1 : Int)); let A3_ := (Prod.snd (Prod.snd y7s1_)); let A2_ := (apartF y7f1_ (Prod.fst (Prod.snd (Prod.snd A3_)))); let A6_ := (↑(List.length A2_) : Int); Holds (Prod.fst y1 = y7f0_ ∧ y1f2_ = y7f2_ ∧ y1f3_ = Prod.fst A3_ ∧ y1f4_ = Prod.fst (Prod.snd A3_) ∧ y1f5_ = A6_ ∧ (0 : Int) ≤ y1s6_ ∧ y1s6_ ≤ A6_ ∧ y1f1_ = fill (fun e => quietS (Prod.fst (Prod.snd A3_)) e (ib_ A2_ e)) A2_ (n_ y1s6_)) → ifB (decide (Prod.snd y1s5_ < y1f5_)) (((0 : Int) ≤ y1s6_ ∧ y1s6_ < (↑(List.length y1f1_) : Int)) ∧ ifB (!moves (ib_ y1f1_ (n_ y1s6_))) (Holds (Prod.fst y1 = y7f0_ ∧ y1f2_ = y7f2_ ∧ y1f3_ = Prod.fst A3_ ∧ y1f4_ = Prod.fst (Prod.snd A3_) ∧ y1f5_ = A6_ ∧ (0 : Int) ≤ w_ A4_ ∧ w_ A4_ ≤ A6_ ∧ y1f1_ = fill (fun e => quietS (Prod.fst (Prod.snd A3_)) e (ib_ A2_ e)) A2_ (n_ (w_ A4_))) ∧ n_ (Prod.fst y1s5_ - w_ A4_) < n_ (Prod.fst y1s5_ - y1s6_)) (ifB (isIn (Vec.X (speed (ib_ A5_ (n_ y1s6_)))) (-8 : Int) (8 : Int) && isIn (Vec.Y (speed (ib_ A5_ (n_ y1s6_)))) (-8 : Int) (8 : Int)) (((0 : Int) ≤ y1s6_ ∧ y1s6_ < (↑(List.length y1f4_) : Int)) ∧ Holds (Prod.fst y1 = y7f0_ ∧ y1f2_ = y7f2_ ∧ y1f3_ = Prod.fst A3_ ∧ y1f4_ = Prod.fst (Prod.snd A3_) ∧ y1f5_ = A6_ ∧ (0 : Int) ≤ w_ A4_ ∧ w_ A4_ ≤ A6_ ∧ setC Ty.body A5_ (n_ y1s6_) ((0 : Nat) + (11 : Nat)) [s_ (if (7 : Int) < w_ (Body.Quiet (ib_ y1f4_ (n_ y1s6_)) + (1 : Int)) then (7 : Int) else w_ (Body.Quiet (ib_ y1f4_ (n_ y1s6_)) + (1 : Int)))] = fill (fun e => quietS (Prod.fst (Prod.snd A3_)) e (ib_ A2_ e)) A2_ (n_ (w_ A4_))) ∧ n_ (Prod.fst y1s5_ - w_ A4_) < n_ (Prod.fst y1s5_ - y1s6_)) (Holds (Prod.fst y1 = y7f0_ ∧ y1f2_ = y7f2_ ∧ y1f3_ = Prod.fst A3_ ∧ y1f4_ = Prod.fst (Prod.snd A3_) ∧ y1f5_ = A6_ ∧ (0 : Int) ≤ w_ A4_ ∧ w_ A4_ ≤ A6_ ∧ setC Ty.body y1f1_ (n_ y1s6_) ((0 : Nat) + (11 : Nat)) [s_ (0 : Int)] = fill (fun e => quietS (Prod.fst (Prod.snd A3_)) e (ib_ A2_ e)) A2_ (n_ (w_ A4_))) ∧ n_ (Prod.fst y1s5_ - w_ A4_) < n_ (Prod.fst y1s5_ - y1s6_)))) ((List.length y1f1_ ≤ (12 : Nat) ∧ List.length y1f2_ = List.length y1f1_ ∧ List.length y1f3_ ≤ (12 : Nat)) ∧ Q (SV.vec (1 : Nat)) [(false, vb_ y1f0_), (true, vb_ (settleF y1f2_ (0 : Nat) y1f3_ y1f1_))])))))))) := by kernel_rfl

theorem ok_implStep : FsOk Tryz.prog 16 fs_implStep := fsOk_of tt_ok (tabFs_cons ok_implBodiesOk (tabFs_cons ok_in_ (tabFs_cons ok_cloneBodies (tabFs_cons ok_implGroups (tabFs_cons ok_implAwake (tabFs_cons ok_bodySleeps (tabFs_cons ok_implMoves (tabFs_cons ok_implContacts (tabFs_cons ok_implAll (tabFs_cons ok_implSpeed (tabFs_cons ok_implMoveB (tabFs_cons ok_implApartF (tabFs_cons ok_implQuiet (tabFs_cons ok_implSettle tabFs_nil)))))))))))))) mixed Tryz.func16 (by kernel_rfl) (by kernel_rfl) (by
    intro args LL p r HH h hp
    unfold fs_implStep at h
    dsimp only at h
    split at h
    case h_2 => cases h
    rename_i pull xs
    simp only [Option.some.injEq, Prod.mk.injEq] at h
    obtain ⟨rfl, rfl, rfl⟩ := h
    refine ⟨by simp [Form, stays], (L_step), ?_⟩
    rw [vc_implStep]
    try dsimp only
    have hb := hp _ rfl
    refine ⟨by omega, ifB_of (fun c => ?_) (fun c => ifB_of (fun c2 => ?_) (fun c2 => ?_))⟩
    · simp [stepOf, not_true c]
    · simp [stepOf, not_true c2]
    have hok := not_false c
    have hl := bodiesOk_len hok
    have hG : groupsOf xs = groupsX xs := by simp [groupsOf, hok]
    have hW : awakeOf xs = awkF xs xs.length := by simp [awakeOf, hok]
    have hC : contactsOf xs = contactsF xs := by simp [contactsOf, hok]
    have hS : stepOf xs pull = stepF xs pull := by simp [stepOf, hok, not_false c2]
    have hgl : (groupsX xs).length = xs.length := by simp only [groupsX, length_gen]
    have hwl := length_awkF xs xs.length
    rw [hG, hW, hS]
    refine ⟨by omega, by omega, by omega, ⟨(by trivial), (by trivial), (by trivial), (by trivial), (by trivial), by omega, by omega, (fill_zero _ _).symm⟩, ?_⟩
    rintro ⟨xs1, u, pl, ys, gs, ws, n, i⟩ ⟨h⟩
    dsimp only at h ⊢
    obtain ⟨rfl, rfl, rfl, rfl, rfl, i0, i1, h5⟩ := h
    refine ifB_of (fun d => ?_) (fun d => ?_)
    · have d := of_decide_eq_true d
      have hi : i.toNat < xs1.length := by omega
      have hf := fill_ix h5 hi
      have e1 : (i + 1).toNat = i.toNat + 1 := by omega
      have w : IntKind.i64.wrap (i + 1) = i + 1 := wrap_small (by omega) (by omega)
      rw [w, e1, hf.2]
      have hgi : Ty.ix .int (groupsX xs1) i.toNat = gOf xs1 xs1.length i.toNat := ix_gen (T := .int) hi
      refine ⟨⟨i0, by omega⟩, ifB_of (fun q => ⟨⟨i0, by omega⟩, ?_, ifB_of (fun q2 => ⟨⟨(by trivial), (by trivial), (by trivial), (by trivial), (by trivial), by omega, by omega, ?_⟩, by omega⟩) (fun q2 => ⟨⟨(by trivial), (by trivial), (by trivial), (by trivial), (by trivial), by omega, by omega, fill_stay h5 hi ?_⟩, by omega⟩)⟩) (fun q => ⟨⟨(by trivial), (by trivial), (by trivial), (by trivial), (by trivial), by omega, by omega, fill_stay h5 hi ?_⟩, by omega⟩)⟩
      · have f := groups_in hok hi q
        rw [hgi, gOf_all hi, f]
        have := num_in f
        have h2 := Grp.num_mono (freeB xs1) (cmX xs1) (show i.toNat + 1 ≤ xs1.length from hi)
        have h3 : numX xs1 (cmX xs1 i.toNat) < (awkF xs1 xs1.length).length := by rw [hwl]; exact Nat.lt_of_lt_of_le this h2
        exact ⟨Int.natCast_nonneg _, Int.ofNat_lt.2 h3⟩
      · rw [setC_quiet, hf.2]
        refine fill_go h5 hi ?_
        have q2 : Ty.ix .bool (awkF xs1 xs1.length) (gi (groupsX xs1) i.toNat).toNat = true := q2
        unfold wakeS
        rw [q, q2]
        rfl
      · have q2 : Ty.ix .bool (awkF xs1 xs1.length) (gi (groupsX xs1) i.toNat).toNat = false := q2
        unfold wakeS
        rw [q2, Bool.and_false]
        rfl
      · unfold wakeS
        rw [q, Bool.false_and]
        rfl
    · have d := of_decide_eq_false d
      have h5 := fill_map h5 (by omega)
      have hl1 : ys.length = xs1.length := by rw [h5, length_mapX]
      refine ⟨by omega, ⟨(by trivial), (by trivial), (by trivial), (by trivial), (by trivial), (by trivial), by omega, by omega, (fill_zero _ _).symm⟩, ?_⟩
      clear d i0 i1
      rintro ⟨xs2, u2, pl2, zs, gs2, ws2, was, n, i⟩ ⟨h⟩
      dsimp only at h ⊢
      obtain ⟨rfl, rfl, rfl, rfl, rfl, rfl, i0, i1, h6⟩ := h
      refine ifB_of (fun d => ?_) (fun d => ?_)
      · have d := of_decide_eq_true d
        have hi : i.toNat < was.length := by omega
        have hf := fill_ix h6 hi
        have e1 : (i + 1).toNat = i.toNat + 1 := by omega
        have w : IntKind.i64.wrap (i + 1) = i + 1 := wrap_small (by omega) (by omega)
        rw [w, e1, hf.2, max_b]
        refine ⟨⟨i0, by omega⟩, ifB_of (fun q => ⟨⟨(by trivial), (by trivial), (by trivial), (by trivial), (by trivial), (by trivial), by omega, by omega, ?_⟩, by omega⟩) (fun q => ⟨⟨(by trivial), (by trivial), (by trivial), (by trivial), (by trivial), (by trivial), by omega, by omega, fill_stay h6 hi ?_⟩, by omega⟩)⟩
        · rw [setC_driveY, hf.2]
          refine fill_go h6 hi ?_
          unfold pullS
          rw [q]
          rfl
        · unfold pullS
          rw [q]
          rfl
      · have d := of_decide_eq_false d
        have h6 := fill_map h6 (by omega)
        have hl2 : zs.length = was.length := by rw [h6, length_mapX]
        rw [hC]
        have hq := length_contactsF hl
        have hll : (liveF zs (contactsF xs2)).length ≤ (contactsF xs2).length := List.length_filter_le _ _
        refine ⟨by omega, ⟨(by trivial), (by trivial), (by trivial), (by trivial), (by trivial), (by trivial), (by trivial), by omega, by omega, (by trivial)⟩, ?_⟩
        clear d i0 i1
        rintro ⟨xs3, zs3, gs3, ws3, was3, live, cs, n, i⟩ ⟨h⟩
        dsimp only at h ⊢
        obtain ⟨rfl, rfl, rfl, rfl, rfl, rfl, rfl, i0, i1, h7⟩ := h
        have h7l := congrArg List.length h7
        rw [List.length_append] at h7l
        refine ifB_of (fun d => ?_) (fun d => ?_)
        · have d := of_decide_eq_true d
          have hik : i.toNat < (contactsF xs3).length := by omega
          have e1 : (i + 1).toNat = i.toNat + 1 := by omega
          have w : IntKind.i64.wrap (i + 1) = i + 1 := wrap_small (by omega) (by omega)
          have hc := contact_ok0 hik
          rw [liveF_drop hik] at h7
          rw [w, e1]
          refine ⟨⟨i0, d⟩, ⟨hc.1, by omega⟩, ifB_of (fun q => ⟨by simp only [room, List.length_singleton]; omega, ⟨(by trivial), (by trivial), (by trivial), (by trivial), (by trivial), (by trivial), (by trivial), by omega, by omega, ?_⟩, by omega⟩) (fun q => ⟨⟨hc.2.2.1, by omega⟩, ifB_of (fun q2 => ⟨by simp only [room, List.length_singleton]; omega, ⟨(by trivial), (by trivial), (by trivial), (by trivial), (by trivial), (by trivial), (by trivial), by omega, by omega, ?_⟩, by omega⟩) (fun q2 => ⟨⟨(by trivial), (by trivial), (by trivial), (by trivial), (by trivial), (by trivial), (by trivial), by omega, by omega, ?_⟩, by omega⟩)⟩)⟩
          · rw [q] at h7
            rw [← h7, List.append_assoc]
            rfl
          · rw [q, q2] at h7
            rw [← h7, List.append_assoc]
            rfl
          · rw [q, q2] at h7
            rw [← h7]
            rfl
        · have d := of_decide_eq_false d
          rw [drop_end (by omega)] at h7
          have h7 : live = liveF zs3 (contactsF xs3) := by simpa [liveF] using h7
          have kz : Kin xs3 zs3 := by
            rw [h6, h5]
            exact (kin_mapX (kin_wakeS _ _) _).trans (kin_mapX (kin_pullS _) _)
          have hA := allP_kin kz (allP_ok hok)
          have hct : CtsOk zs3.length live := by rw [h7, ← kz.1]; exact live_ok hl
          have hl12 : zs3.length ≤ 12 := by rw [← kz.1]; exact hl
          have kp := kin_pushAllF (ctsOk_mem hct)
          have hlp := length_pushAllF zs3 live
          refine ⟨⟨hA, hl12, hct⟩, ⟨(by trivial), (by trivial), (by trivial), (by trivial), (by trivial), (by trivial), by omega, by omega, (fill_zero _ _).symm⟩, ?_⟩
          clear d i0 i1
          rintro ⟨xs4, vs, gs4, ws4, was4, live4, n, i⟩ ⟨h⟩
          dsimp only at h ⊢
          obtain ⟨rfl, rfl, rfl, rfl, rfl, rfl, i0, i1, h8⟩ := h
          refine ifB_of (fun d => ?_) (fun d => ?_)
          · have d := of_decide_eq_true d
            have hi : i.toNat < (pushAllF zs3 live4).length := by omega
            have hf := fill_ix h8 hi
            have e1 : (i + 1).toNat = i.toNat + 1 := by omega
            have w : IntKind.i64.wrap (i + 1) = i + 1 := wrap_small (by omega) (by omega)
            rw [w, e1, hf.2]
            refine ⟨⟨i0, by omega⟩, ifB_of (fun q => ⟨by omega, ⟨(by trivial), (by trivial), (by trivial), (by trivial), (by trivial), (by trivial), by omega, by omega, fill_go h8 hi ?_⟩, by omega⟩) (fun q => ⟨⟨(by trivial), (by trivial), (by trivial), (by trivial), (by trivial), (by trivial), by omega, by omega, fill_stay h8 hi ?_⟩, by omega⟩)⟩
            · unfold goS
              rw [q]
              rfl
            · unfold goS
              rw [q]
              rfl
          · have d := of_decide_eq_false d
            have h8 := fill_map h8 (by omega)
            have kv : Kin zs3 vs := by
              rw [h8]
              exact kp.trans (kin_mapX kin_goS _)
            have hAv := allP_kin kv hA
            have hcv : CtsOk vs.length live4 := by rw [← kv.1]; exact hct
            have hla := length_apartF live4 vs
            have hlv : vs.length = zs3.length := kv.1.symm
            have hlw : was4.length = xs4.length := hl1
            refine ⟨⟨hAv, by omega, hcv⟩, ⟨(by trivial), (by trivial), (by trivial), (by trivial), (by trivial), by omega, by omega, (fill_zero _ _).symm⟩, ?_⟩
            clear d i0 i1
            rintro ⟨xs5, rs, gs5, ws5, was5, n, i⟩ ⟨h⟩
            dsimp only at h ⊢
            obtain ⟨rfl, rfl, rfl, rfl, rfl, i0, i1, h9⟩ := h
            refine ifB_of (fun d => ?_) (fun d => ?_)
            · have d := of_decide_eq_true d
              have hi : i.toNat < (apartF vs live4).length := by omega
              have hf := fill_ix h9 hi
              have e1 : (i + 1).toNat = i.toNat + 1 := by omega
              have w : IntKind.i64.wrap (i + 1) = i + 1 := wrap_small (by omega) (by omega)
              have hsp : speed { Ty.ix .body (apartF vs live4) i.toNat with Quiet := 0 } = speed (Ty.ix .body (apartF vs live4) i.toNat) := rfl
              rw [w, e1, setC_quiet, setC_quiet, ix_set_self_body _ _ (by omega), List.set_set, hf.2, hsp, min_b]
              refine ⟨⟨i0, by omega⟩, ifB_of (fun q => ⟨⟨(by trivial), (by trivial), (by trivial), (by trivial), (by trivial), by omega, by omega, fill_stay h9 hi ?_⟩, by omega⟩) (fun q => ifB_of (fun q2 => ⟨⟨i0, by omega⟩, ⟨(by trivial), (by trivial), (by trivial), (by trivial), (by trivial), by omega, by omega, fill_go h9 hi ?_⟩, by omega⟩) (fun q2 => ⟨⟨(by trivial), (by trivial), (by trivial), (by trivial), (by trivial), by omega, by omega, fill_go h9 hi ?_⟩, by omega⟩))⟩
              · unfold quietS
                rw [not_true q]
                rfl
              · unfold quietS
                rw [not_false q, q2]
                rfl
              · unfold quietS
                rw [not_false q, q2]
                rfl
            · have d := of_decide_eq_false d
              have h9 := fill_map h9 (by omega)
              have hlr : rs.length = (apartF vs live4).length := by rw [h9, length_mapX]
              have hnx := num_le xs5 xs5.length
              refine ⟨⟨by omega, by omega, by omega⟩, (by trivial), ?_⟩
              unfold stepF
              dsimp only
              rw [← h5, ← h6, ← h7, ← h8, ← h9])

end
end Go.Proofs.YtnahfbjdicjdpaaGreat.Sym

namespace Go.Proofs.YtnahfbjdicjdpaaGreat.Sym
open Go
set_option linter.unusedVariables false
set_option linter.unusedSimpArgs false
set_option maxRecDepth 100000

theorem bok_iff {b : Body} : bodyOk b = true ↔ ((0 ≤ b.Id ∧ b.Id ≤ 999999999) ∧ shapeOk b.Shape = true ∧ (-2560000 ≤ b.At.X ∧ b.At.X ≤ 2560000 ∧ -2560000 ≤ b.At.Y ∧ b.At.Y ≤ 2560000) ∧
    (-20000000 ≤ b.Drive.X ∧ b.Drive.X ≤ 20000000 ∧ -20000000 ≤ b.Drive.Y ∧ b.Drive.Y ≤ 20000000) ∧ (0 ≤ b.Mass ∧ b.Mass ≤ 1000) ∧ (0 ≤ b.Bounce ∧ b.Bounce ≤ 256) ∧ (0 ≤ b.Rub ∧ b.Rub ≤ 256) ∧ (0 ≤ b.Quiet ∧ b.Quiet ≤ 8) ∧
    (b.Mass = 0 → b.Drive.X = 0 ∧ b.Drive.Y = 0 ∧ b.Quiet = 0) ∧ (b.Mass ≠ 0 → b.Quiet < 8 ∨ b.Drive.X = 0 ∧ b.Drive.Y = 0)) := by
  unfold bodyOk
  by_cases h : b.Mass = 0
  · simp only [h, if_true, placeOk, driveOk, zeroV, isIn, Bool.and_eq_true, decide_eq_true_eq, beq_iff_eq, and_assoc, forall_const, ne_eq, not_true_eq_false, false_implies, and_true, Int.le_refl, true_and]
  · simp only [h, if_false, placeOk, driveOk, zeroV, isIn, Bool.and_eq_true, Bool.or_eq_true, decide_eq_true_eq, beq_iff_eq, and_assoc, forall_const, ne_eq, not_false_eq_true, false_implies, true_and, true_implies]
theorem ok_kin {xs ys : List Body} (h : bodiesOk xs = true) (k : Kin xs ys) (hb : ∀ j, j < ys.length → bodyOk (Ty.ix .body ys j) = true) : bodiesOk ys = true := by
  obtain ⟨h1, _, h3⟩ := bodiesOk_iff.1 h
  have hl := k.1
  refine bodiesOk_iff.2 ⟨by rw [← k.1]; exact h1, hb, fun j hj => ?_⟩
  have e1 := (k.2 j (by omega)).1
  have e2 := (k.2 (j + 1) (by omega)).1
  rw [← e1, ← e2]
  exact h3 j (by omega)
def AllOk (xs : List Body) : Prop := ∀ j, j < xs.length → bodyOk (Ty.ix .body xs j) = true
theorem allOk_of {xs : List Body} (h : bodiesOk xs = true) : AllOk xs := fun j hj => bodiesOk_each h hj
theorem AllOk.set {xs : List Body} {k : Nat} {b : Body} (h : AllOk xs) (hb : k < xs.length → bodyOk b = true) : AllOk (xs.set k b) := by
  intro j hj
  rw [List.length_set] at hj
  by_cases e : k = j
  · subst e
    rw [ix_set_self (T := .body) hj]
    exact hb hj
  · rw [ix_set_ne (T := .body) e]
    exact h j hj
theorem ok_pushB {b : Body} {p : Vec} (h : bodyOk b = true) : bodyOk (pushB b p) = true := by
  unfold pushB
  split
  · exact h
  · rename_i hm
    rw [bok_iff] at h ⊢
    obtain ⟨h1, h2, h3, h4, h5, h6, h7, h8, h9, h10⟩ := h
    have c1 := clampTo_le (m := 20000000) (n := W (b.Drive.X + p.X)) (by omega)
    have c2 := clampTo_le (m := 20000000) (n := W (b.Drive.Y + p.Y)) (by omega)
    rw [withinI_drive, withinI_drive]
    exact ⟨h1, h2, h3, ⟨c1.1, c1.2, c2.1, c2.2⟩, h5, h6, h7, ⟨by dsimp only; omega, by dsimp only; omega⟩, fun e => absurd e hm, fun _ => .inl (by dsimp only; omega)⟩
theorem ok_moveB {b : Body} {w : Vec} (h : bodyOk b = true) : bodyOk (moveB b w) = true := by
  rw [bok_iff] at h ⊢
  obtain ⟨h1, h2, h3, h4, h5, h6, h7, h8, h9, h10⟩ := h
  have c1 := clampTo_le (m := 2560000) (n := W (b.At.X + w.X)) (by omega)
  have c2 := clampTo_le (m := 2560000) (n := W (b.At.Y + w.Y)) (by omega)
  unfold moveB
  dsimp only
  rw [withinI_far, withinI_far]
  refine ⟨h1, h2, ⟨c1.1, c1.2, c2.1, c2.2⟩, ?_, h5, h6, h7, h8, fun e => ?_, fun e => ?_⟩
  · split <;> split <;> omega
  · obtain ⟨q1, q2, q3⟩ := h9 e
    refine ⟨?_, ?_, q3⟩ <;> split <;> first | assumption | rfl
  · rcases h10 e with q | q
    · exact .inl q
    · right
      constructor <;> split <;> first | exact q.1 | exact q.2 | rfl
theorem ok_pushOne {xs : List Body} {c : Contact} {z : Bool} (h : AllOk xs) : AllOk (pushOne xs c z) := by
  unfold pushOne
  dsimp only
  split
  · refine (h.set fun hk => ok_pushB (h _ hk)).set fun hk => ok_pushB (h _ (by simpa using hk))
  · exact h
theorem ok_pushRound {z : Bool} : ∀ {cs : List Contact} {xs : List Body}, AllOk xs → AllOk (pushRound xs z cs)
  | [], _, h => h
  | c :: r, xs, h => ok_pushRound (cs := r) (ok_pushOne (c := c) (z := z) h)
theorem ok_pushAllF {cs : List Contact} {xs : List Body} (h : AllOk xs) : AllOk (pushAllF xs cs) := ok_pushRound (ok_pushRound (ok_pushRound (ok_pushRound h)))
theorem ok_apartOne {xs : List Body} {c : Contact} (h : AllOk xs) : AllOk (apartOne xs c) := by
  unfold apartOne
  dsimp only
  split
  · exact h
  · have h1 : AllOk (if (Ty.ix .body xs c.A.toNat).Mass = 0 then xs else xs.set c.A.toNat (moveB (Ty.ix .body xs c.A.toNat) (scaled (oppV c.Hit.Way) (shareF (Ty.ix .body xs c.A.toNat) (Ty.ix .body xs c.B.toNat) (W ((W (c.Hit.Deep - 64)).tdiv 4)))))) := by
      split
      · exact h
      · exact h.set fun hk => ok_moveB (h _ hk)
    split
    · exact h1
    · refine h1.set fun hk => ok_moveB (h _ ?_)
      split at hk
      · exact hk
      · simpa using hk
theorem ok_apartF : ∀ {cs : List Contact} {xs : List Body}, AllOk xs → AllOk (apartF xs cs)
  | [], _, h => h
  | c :: r, xs, h => ok_apartF (cs := r) (ok_apartOne (c := c) h)
theorem ix_mapX {f : Nat → Body → Body} {xs : List Body} {k : Nat} (h : k < xs.length) : Ty.ix .body (mapX f xs) k = f k (Ty.ix .body xs k) := ix_gen (T := .body) h
theorem ok_mapX {f : Nat → Body → Body} {xs : List Body} (h : ∀ k, k < xs.length → bodyOk (f k (Ty.ix .body xs k)) = true) : AllOk (mapX f xs) := by
  intro k hk
  rw [length_mapX] at hk
  rw [ix_mapX hk]
  exact h k hk
theorem ok_wakeS {gs : List Int} {ws : List Bool} {i : Nat} {b : Body} (h : bodyOk b = true) : bodyOk (wakeS gs ws i b) = true := by
  unfold wakeS
  cases q : b.Quiet == 8 && Ty.ix .bool ws (gi gs i).toNat
  · exact h
  · simp only [cond_true]
    rw [bok_iff] at h ⊢
    obtain ⟨h1, h2, h3, h4, h5, h6, h7, h8, h9, h10⟩ := h
    exact ⟨h1, h2, h3, h4, h5, h6, h7, ⟨by dsimp only; omega, by dsimp only; omega⟩, fun e => ⟨(h9 e).1, (h9 e).2.1, rfl⟩, fun _ => .inl (by dsimp only; omega)⟩
theorem ok_goS {i : Nat} {b : Body} (h : bodyOk b = true) : bodyOk (goS i b) = true := by
  unfold goS
  cases moves b
  · exact h
  · exact ok_moveB h
theorem moves_bok {b : Body} (h : moves b = true) : b.Mass ≠ 0 ∧ b.Quiet ≠ 8 := by simpa [moves] using h
theorem ok_pullS {pull : Int} {i : Nat} {b : Body} (p0 : 0 ≤ pull) (p1 : pull ≤ 2560) (h : bodyOk b = true) : bodyOk (pullS pull i b) = true := by
  unfold pullS
  cases q : moves b
  · exact h
  · simp only [cond_true]
    obtain ⟨q1, q2⟩ := moves_bok q
    rw [bok_iff] at h ⊢
    obtain ⟨h1, h2, h3, h4, h5, h6, h7, h8, h9, h10⟩ := h
    have hm := mul_le_mul0 p0 p1 h5.1 h5.2
    rw [show W (pull * b.Mass) = pull * b.Mass from W_small (by omega) (by omega), show W (b.Drive.Y - pull * b.Mass) = b.Drive.Y - pull * b.Mass from W_small (by omega) (by omega)]
    exact ⟨h1, h2, h3, ⟨h4.1, h4.2.1, by dsimp only; omega, by dsimp only; omega⟩, h5, h6, h7, h8, fun e => absurd e q1, fun _ => .inl (by dsimp only; omega)⟩
theorem ok_quietS {was : List Body} {i : Nat} {b : Body} (hw : bodyOk (Ty.ix .body was i) = true) (h : bodyOk b = true) : bodyOk (quietS was i b) = true := by
  unfold quietS
  cases q : moves b
  · exact h
  · simp only [cond_true]
    obtain ⟨q1, q2⟩ := moves_bok q
    have w8 := (bok_iff.1 hw).2.2.2.2.2.2.2.1
    rw [bok_iff] at h ⊢
    obtain ⟨h1, h2, h3, h4, h5, h6, h7, h8, h9, h10⟩ := h
    have hv : 0 ≤ (bif isIn (speed b).X (-8) 8 && isIn (speed b).Y (-8) 8 then min (W ((Ty.ix .body was i).Quiet + 1)) 7 else 0) ∧ (bif isIn (speed b).X (-8) 8 && isIn (speed b).Y (-8) 8 then min (W ((Ty.ix .body was i).Quiet + 1)) 7 else 0) ≤ 7 := by
      rw [show W ((Ty.ix .body was i).Quiet + 1) = (Ty.ix .body was i).Quiet + 1 from W_small (by omega) (by omega)]
      cases isIn (speed b).X (-8) 8 && isIn (speed b).Y (-8) 8
      · simp only [cond_false]
        omega
      · simp only [cond_true]
        omega
    exact ⟨h1, h2, h3, h4, h5, h6, h7, ⟨hv.1, by dsimp only; omega⟩, fun e => absurd e q1, fun _ => .inl (by dsimp only; omega)⟩
theorem ok_bedB {b : Body} (hm : b.Mass ≠ 0) (h : bodyOk b = true) : bodyOk (bedB b) = true := by
  unfold bedB
  rw [bok_iff] at h ⊢
  obtain ⟨h1, h2, h3, h4, h5, h6, h7, h8, h9, h10⟩ := h
  exact ⟨h1, h2, h3, ⟨by dsimp only; omega, by dsimp only; omega, by dsimp only; omega, by dsimp only; omega⟩, h5, h6, h7, ⟨by dsimp only; omega, by dsimp only; omega⟩, fun e => absurd e hm, fun _ => .inr ⟨rfl, rfl⟩⟩
theorem ix_settleOne {xs : List Body} {gs : List Int} {g : Int} {aw : Bool} {k : Nat} (h : k < xs.length) : Ty.ix .body (settleOne xs gs g aw) k = bedAt xs gs g (aw && stillG xs gs g xs.length) k := ix_gen (T := .body) h
theorem kin_bedB (b : Body) : kin b (bedB b) := ⟨rfl, rfl, rfl, rfl, rfl⟩
theorem kin_settleOne (xs : List Body) (gs : List Int) (g : Int) (aw : Bool) : Kin xs (settleOne xs gs g aw) := by
  refine ⟨(length_settleOne ..).symm, fun k hk => ?_⟩
  rw [ix_settleOne hk]
  unfold bedAt
  cases (aw && stillG xs gs g xs.length) && gi gs k == g
  · exact kin_refl _
  · exact kin_bedB _
theorem kin_settleF (gs : List Int) : ∀ (ws : List Bool) (g : Nat) (xs : List Body), Kin xs (settleF gs g ws xs)
  | [], _, xs => .refl xs
  | a :: r, g, xs => (kin_settleOne xs gs g a).trans (kin_settleF gs r (g + 1) _)
theorem ok_settleF (gs : List Int) : ∀ (ws : List Bool) (g : Nat) (xs : List Body), AllOk xs → (∀ k, k < xs.length → 0 ≤ gi gs k → (Ty.ix .body xs k).Mass ≠ 0) → AllOk (settleF gs g ws xs)
  | [], _, _, h, _ => h
  | a :: r, g, xs, h, hm => by
    have hk := kin_settleOne xs gs g a
    refine ok_settleF gs r (g + 1) _ (fun k hk => ?_) (fun k hk2 hg => ?_)
    · rw [length_settleOne] at hk
      rw [ix_settleOne hk]
      unfold bedAt
      cases q : (a && stillG xs gs g xs.length) && gi gs k == (g : Int)
      · exact h k hk
      · rw [Bool.and_eq_true] at q
        have := eq_of_beq q.2
        exact ok_bedB (hm k hk (by omega)) (h k hk)
    · rw [length_settleOne] at hk2
      rw [← (hk.2 k hk2).2.2.1]
      exact hm k hk2 hg
noncomputable section
def wokenF (xs : List Body) : List Body := mapX (wakeS (groupsX xs) (awkF xs xs.length)) xs
def pulledF (xs : List Body) (pull : Int) : List Body := mapX (pullS pull) (wokenF xs)
def liveX (xs : List Body) (pull : Int) : List Contact := liveF (pulledF xs pull) (contactsF xs)
def movedF (xs : List Body) (pull : Int) : List Body := mapX goS (pushAllF (pulledF xs pull) (liveX xs pull))
def apartX (xs : List Body) (pull : Int) : List Body := apartF (movedF xs pull) (liveX xs pull)
def quietX (xs : List Body) (pull : Int) : List Body := mapX (quietS (wokenF xs)) (apartX xs pull)
theorem stepF_eq (xs : List Body) (pull : Int) : stepF xs pull = settleF (groupsX xs) 0 (awkF xs xs.length) (quietX xs pull) := rfl
@[simp] theorem length_wokenF (xs : List Body) : (wokenF xs).length = xs.length := length_mapX _ _
@[simp] theorem length_pulledF (xs : List Body) (pull : Int) : (pulledF xs pull).length = xs.length := by simp [pulledF]
@[simp] theorem length_movedF (xs : List Body) (pull : Int) : (movedF xs pull).length = xs.length := by simp [movedF]
@[simp] theorem length_apartX (xs : List Body) (pull : Int) : (apartX xs pull).length = xs.length := by simp [apartX]
@[simp] theorem length_quietX (xs : List Body) (pull : Int) : (quietX xs pull).length = xs.length := by simp [quietX]
theorem kin_wokenF (xs : List Body) : Kin xs (wokenF xs) := kin_mapX (kin_wakeS _ _) _
theorem kin_pulledF (xs : List Body) (pull : Int) : Kin xs (pulledF xs pull) := (kin_wokenF xs).trans (kin_mapX (kin_pullS _) _)
theorem live_mem {xs : List Body} {pull : Int} (h : xs.length ≤ 12) : ∀ c, c ∈ liveX xs pull → ctOk xs.length c := ctsOk_mem (live_ok h)
theorem kin_pushedF {xs : List Body} (h : xs.length ≤ 12) (pull : Int) : Kin xs (pushAllF (pulledF xs pull) (liveX xs pull)) :=
  (kin_pulledF xs pull).trans (kin_pushAllF (by rw [length_pulledF]; exact live_mem h))
theorem kin_movedF {xs : List Body} (h : xs.length ≤ 12) (pull : Int) : Kin xs (movedF xs pull) := (kin_pushedF h pull).trans (kin_mapX kin_goS _)
theorem kin_apartX {xs : List Body} (h : xs.length ≤ 12) (pull : Int) : Kin xs (apartX xs pull) := (kin_movedF h pull).trans (kin_apartF (by rw [length_movedF]; exact live_mem h))
theorem kin_quietS (was : List Body) (i : Nat) (b : Body) : kin b (quietS was i b) := by
  unfold quietS
  cases moves b <;> exact ⟨rfl, rfl, rfl, rfl, rfl⟩
theorem kin_quietX {xs : List Body} (h : xs.length ≤ 12) (pull : Int) : Kin xs (quietX xs pull) := (kin_apartX h pull).trans (kin_mapX (kin_quietS _) _)
theorem kin_stepF {xs : List Body} (h : xs.length ≤ 12) (pull : Int) : Kin xs (stepF xs pull) := (kin_quietX h pull).trans (kin_settleF _ _ _ _)
theorem ok_wokenF {xs : List Body} (h : bodiesOk xs = true) : bodiesOk (wokenF xs) = true := ok_kin h (kin_wokenF xs) (ok_mapX fun k hk => ok_wakeS (bodiesOk_each h hk))
theorem ok_pulledF {xs : List Body} {pull : Int} (h : bodiesOk xs = true) (p0 : 0 ≤ pull) (p1 : pull ≤ 2560) : bodiesOk (pulledF xs pull) = true :=
  ok_kin h (kin_pulledF xs pull) (ok_mapX fun k hk => ok_pullS p0 p1 (bodiesOk_each (ok_wokenF h) hk))
theorem ok_pushedF {xs : List Body} {pull : Int} (h : bodiesOk xs = true) (p0 : 0 ≤ pull) (p1 : pull ≤ 2560) : bodiesOk (pushAllF (pulledF xs pull) (liveX xs pull)) = true :=
  ok_kin h (kin_pushedF (bodiesOk_len h) pull) (ok_pushAllF (allOk_of (ok_pulledF h p0 p1)))
theorem ok_movedF {xs : List Body} {pull : Int} (h : bodiesOk xs = true) (p0 : 0 ≤ pull) (p1 : pull ≤ 2560) : bodiesOk (movedF xs pull) = true :=
  ok_kin h (kin_movedF (bodiesOk_len h) pull) (ok_mapX fun k hk => ok_goS (bodiesOk_each (ok_pushedF h p0 p1) hk))
theorem ok_apartX {xs : List Body} {pull : Int} (h : bodiesOk xs = true) (p0 : 0 ≤ pull) (p1 : pull ≤ 2560) : bodiesOk (apartX xs pull) = true :=
  ok_kin h (kin_apartX (bodiesOk_len h) pull) (ok_apartF (allOk_of (ok_movedF h p0 p1)))
theorem ok_quietX {xs : List Body} {pull : Int} (h : bodiesOk xs = true) (p0 : 0 ≤ pull) (p1 : pull ≤ 2560) : bodiesOk (quietX xs pull) = true :=
  ok_kin h (kin_quietX (bodiesOk_len h) pull) (ok_mapX fun k hk => ok_quietS (bodiesOk_each (ok_wokenF h) (by rw [length_apartX] at hk; rw [length_wokenF]; exact hk)) (bodiesOk_each (ok_apartX h p0 p1) hk))
theorem group_free {xs : List Body} {k : Nat} (hk : k < xs.length) (hg : 0 ≤ gi (groupsX xs) k) : freeB xs k = true := by
  have e : gi (groupsX xs) k = gOf xs xs.length k := ix_gen (T := .int) hk
  rw [e, gOf_all hk] at hg
  cases f : freeB xs k with
  | true => rfl
  | false =>
    rw [f] at hg
    simp only [cond_false] at hg
    omega
theorem free_mass {xs : List Body} {k : Nat} (h : freeB xs k = true) : (Ty.ix .body xs k).Mass ≠ 0 := by simpa [freeB] using h
theorem ok_stepF {xs : List Body} {pull : Int} (h : bodiesOk xs = true) (p0 : 0 ≤ pull) (p1 : pull ≤ 2560) : bodiesOk (stepF xs pull) = true := by
  have hk := kin_quietX (bodiesOk_len h) pull
  refine ok_kin h (kin_stepF (bodiesOk_len h) pull) (ok_settleF _ _ _ _ (allOk_of (ok_quietX h p0 p1)) fun k hk2 hg => ?_)
  have hk2 : k < (quietX xs pull).length := hk2
  show (Ty.ix .body (quietX xs pull) k).Mass ≠ 0
  rw [length_quietX] at hk2
  rw [← (hk.2 k hk2).2.2.1]
  exact free_mass (group_free hk2 hg)
theorem length_stepF (xs : List Body) (pull : Int) : (stepF xs pull).length = xs.length := by
  rw [stepF_eq, length_settleF, length_quietX]
/-- In a group that is awake none sleeps. -/
def LowG (gs : List Int) (ws : List Bool) (xs : List Body) : Prop := ∀ k, k < xs.length → 0 ≤ gi gs k → Ty.ix .bool ws (gi gs k).toNat = true → (Ty.ix .body xs k).Quiet ≤ 7
theorem LowG.set {gs : List Int} {ws : List Bool} {xs : List Body} {k : Nat} {b : Body} (h : LowG gs ws xs) (hb : k < xs.length → (Ty.ix .body xs k).Quiet ≤ 7 → b.Quiet ≤ 7) : LowG gs ws (xs.set k b) := by
  intro j hj h1 h2
  rw [List.length_set] at hj
  by_cases e : k = j
  · subst e
    rw [ix_set_self (T := .body) hj]
    exact hb hj (h k hj h1 h2)
  · rw [ix_set_ne (T := .body) e]
    exact h j hj h1 h2
theorem quiet_pushB {b : Body} {p : Vec} (h : b.Quiet ≤ 7) : (pushB b p).Quiet ≤ 7 := by
  unfold pushB
  split
  · exact h
  · exact (by decide : (0 : Int) ≤ 7)
theorem quiet_moveB (b : Body) (w : Vec) : (moveB b w).Quiet = b.Quiet := rfl
theorem low_pushOne {gs : List Int} {ws : List Bool} {xs : List Body} {c : Contact} {z : Bool} (hne : c.A.toNat ≠ c.B.toNat) (h : LowG gs ws xs) : LowG gs ws (pushOne xs c z) := by
  unfold pushOne
  dsimp only
  split
  · refine (h.set fun _ q => quiet_pushB q).set fun hk q => ?_
    rw [ix_set_ne (T := .body) hne] at q
    exact quiet_pushB q
  · exact h
theorem low_pushRound {gs : List Int} {ws : List Bool} {z : Bool} : ∀ {cs : List Contact} {xs : List Body}, (∀ c, c ∈ cs → ctOk xs.length c) → LowG gs ws xs → LowG gs ws (pushRound xs z cs)
  | [], _, _, h => h
  | c :: r, xs, hc, h => low_pushRound (cs := r) (fun d hd => by rw [length_pushOne]; exact hc d (List.mem_cons_of_mem _ hd)) (low_pushOne (ct_ne (hc c List.mem_cons_self)) h)
theorem low_pushAllF {gs : List Int} {ws : List Bool} {cs : List Contact} {xs : List Body} (hc : ∀ c, c ∈ cs → ctOk xs.length c) (h : LowG gs ws xs) : LowG gs ws (pushAllF xs cs) := by
  unfold pushAllF
  have h1 := low_pushRound (z := true) hc h
  have h2 := low_pushRound (z := false) (by rw [length_pushRound]; exact hc) h1
  have h3 := low_pushRound (z := false) (by rw [length_pushRound, length_pushRound]; exact hc) h2
  exact low_pushRound (z := false) (by rw [length_pushRound, length_pushRound, length_pushRound]; exact hc) h3
theorem low_apartOne {gs : List Int} {ws : List Bool} {xs : List Body} {c : Contact} (hne : c.A.toNat ≠ c.B.toNat) (h : LowG gs ws xs) : LowG gs ws (apartOne xs c) := by
  unfold apartOne
  dsimp only
  split
  · exact h
  · have h1 : LowG gs ws (if (Ty.ix .body xs c.A.toNat).Mass = 0 then xs else xs.set c.A.toNat (moveB (Ty.ix .body xs c.A.toNat) (scaled (oppV c.Hit.Way) (shareF (Ty.ix .body xs c.A.toNat) (Ty.ix .body xs c.B.toNat) (W ((W (c.Hit.Deep - 64)).tdiv 4)))))) := by
      split
      · exact h
      · exact h.set fun _ q => q
    split
    · exact h1
    · refine h1.set fun hk q => ?_
      rw [quiet_moveB]
      split at q
      · exact q
      · rwa [ix_set_ne (T := .body) hne] at q
theorem low_apartF {gs : List Int} {ws : List Bool} : ∀ {cs : List Contact} {xs : List Body}, (∀ c, c ∈ cs → ctOk xs.length c) → LowG gs ws xs → LowG gs ws (apartF xs cs)
  | [], _, _, h => h
  | c :: r, xs, hc, h => low_apartF (cs := r) (fun d hd => by rw [length_apartOne]; exact hc d (List.mem_cons_of_mem _ hd)) (low_apartOne (ct_ne (hc c List.mem_cons_self)) h)
theorem low_mapX {gs : List Int} {ws : List Bool} {f : Nat → Body → Body} {xs : List Body} (hf : ∀ k b, b.Quiet ≤ 7 → (f k b).Quiet ≤ 7) (h : LowG gs ws xs) : LowG gs ws (mapX f xs) := by
  intro k hk h1 h2
  rw [length_mapX] at hk
  rw [ix_mapX hk]
  exact hf _ _ (h k hk h1 h2)
theorem low_wokenF {xs : List Body} (h : bodiesOk xs = true) : LowG (groupsX xs) (awkF xs xs.length) (wokenF xs) := by
  intro k hk h1 h2
  rw [length_wokenF] at hk
  rw [show Ty.ix .body (wokenF xs) k = _ from ix_mapX hk]
  have h8 := (bok_iff.1 (bodiesOk_each h hk)).2.2.2.2.2.2.2.1
  unfold wakeS
  cases q : (Ty.ix .body xs k).Quiet == 8 with
  | true =>
    rw [h2]
    exact (by decide : (0 : Int) ≤ 7)
  | false =>
    simp only [Bool.false_and, cond_false]
    have := beq_eq_false_iff_ne.1 q
    omega
theorem low_quietX {xs : List Body} {pull : Int} (h : bodiesOk xs = true) : LowG (groupsX xs) (awkF xs xs.length) (quietX xs pull) := by
  have hl := bodiesOk_len h
  have h1 := low_mapX (f := pullS pull) (fun k b q => by unfold pullS; cases moves b <;> exact q) (low_wokenF h)
  have h2 := low_pushAllF (cs := liveX xs pull) (by rw [show (mapX (pullS pull) (wokenF xs)).length = xs.length by simp]; exact live_mem hl) h1
  have h3 := low_mapX (f := goS) (fun k b q => by unfold goS; cases moves b <;> exact q) h2
  have h4 := low_apartF (cs := liveX xs pull) (by rw [length_mapX, length_pushAllF, length_mapX, length_wokenF]; exact live_mem hl) h3
  refine low_mapX (f := quietS (wokenF xs)) (fun k b q => ?_) h4
  unfold quietS
  cases moves b
  · exact q
  · simp only [cond_true]
    cases isIn (speed b).X (-8) 8 && isIn (speed b).Y (-8) 8
    · exact (by decide : (0 : Int) ≤ 7)
    · exact Int.min_le_right _ _
theorem live_same {xs : List Body} {pull : Int} (h : xs.length ≤ 12) : liveF (wokenF xs) (contactsF xs) = liveX xs pull := by
  unfold liveX liveF
  apply List.filter_congr
  intro c hc
  obtain ⟨a, b, q1, q2, q3, _⟩ := mem_contactsF hc
  have hm : ∀ k, k < xs.length → moves (Ty.ix .body (pulledF xs pull) k) = moves (Ty.ix .body (wokenF xs) k) := by
    intro k hk
    rw [show Ty.ix .body (pulledF xs pull) k = _ from ix_mapX (by rw [length_wokenF]; exact hk)]
    unfold pullS
    cases q : moves (Ty.ix .body (wokenF xs) k)
    · exact q
    · exact q
  rw [hm c.A.toNat (by rw [q3]; dsimp only; omega), hm c.B.toNat (by rw [q3]; dsimp only; omega)]
end
end Go.Proofs.YtnahfbjdicjdpaaGreat.Sym

namespace Go.Proofs.YtnahfbjdicjdpaaGreat.Sym
open Go
set_option linter.unusedVariables false
set_option linter.unusedSimpArgs false
set_option maxRecDepth 100000
noncomputable section

def agree (xs : List Body) (out : List Int) (f : Nat → Int) : Prop := out.length = xs.length ∧ ∀ j, j < xs.length → gi out j = f j
def edgesC (xs : List Body) (cs : List Contact) : List Grp.Edge := (cs.filter fun c => freeB xs c.A.toNat && freeB xs c.B.toNat).map edgeC
theorem edgesC_drop {xs : List Body} {cs : List Contact} {i : Nat} (h : i < cs.length) :
    edgesC xs (cs.drop i) = (bif freeB xs (Ty.ix .contact cs i).A.toNat && freeB xs (Ty.ix .contact cs i).B.toNat then [edgeC (Ty.ix .contact cs i)] else []) ++ edgesC xs (cs.drop (i + 1)) := by
  unfold edgesC
  rw [drop_ix (T := .contact) h, List.filter_cons]
  cases freeB xs (Ty.ix .contact cs i).A.toNat && freeB xs (Ty.ix .contact cs i).B.toNat <;> simp
theorem agree_relax {xs : List Body} {out : List Int} {f : Nat → Int} {a b : Nat} (h : agree xs out f) (ha : a < xs.length) (hb : b < xs.length) :
    agree xs ((out.set a (min (gi out a) (gi out b))).set b (min (gi out a) (gi out b))) (Grp.relax f (a, b)) := by
  obtain ⟨h1, h2⟩ := h
  refine ⟨by simp [h1], fun j hj => ?_⟩
  rw [gi_set (by simp; omega), gi_set (by omega), Grp.relax_at, h2 a ha, h2 b hb]
  by_cases e1 : b = j
  · rw [if_pos e1, if_pos (.inl e1.symm)]
  · by_cases e2 : a = j
    · rw [if_neg e1, if_pos e2, if_pos (.inr e2.symm)]
    · rw [if_neg e1, if_neg e2, if_neg (by rintro (q | q); exact e1 q.symm; exact e2 q.symm)]
      exact h2 j hj
theorem gen_succ {α : Type} (f : Nat → α) (n : Nat) : gen f (n + 1) = gen f n ++ [f n] := by simp [gen, List.range_succ]
theorem edges_lt (xs : List Body) : ∀ e, e ∈ edgesX xs → e.1 < xs.length ∧ e.2 < xs.length := fun e he => by
  obtain ⟨_, _, _, _, _, h1, h2⟩ := of_edges he
  exact ⟨h1, h2⟩
/-- Each body's label is the least of its part. -/
def LabOk (xs : List Body) (gs : List Int) : Prop := gs.length = xs.length ∧ ∀ j, j < xs.length → gi gs j = cmX xs j
theorem lab_done {xs : List Body} {out : List Int} {f : Nat → Int} (h : agree xs out f) (hr : Grp.rounds (edgesX xs) 0 f = Grp.rounds (edgesX xs) xs.length (fun j => (j : Int))) : LabOk xs out := by
  refine ⟨h.1, fun j hj => ?_⟩
  have e : Grp.rounds (edgesX xs) xs.length (fun j => (j : Int)) j = (cmX xs j : Int) := Grp.rounds_cm (edges_lt xs) hj
  rw [h.2 j hj, ← e, ← hr]
  rfl
def firstsI (xs : List Body) (i : Nat) : List Int := (Grp.firsts (freeB xs) (cmX xs) i).map fun k : Nat => (k : Int)
theorem length_firstsI (xs : List Body) (i : Nat) : (firstsI xs i).length = numX xs i := by simp [firstsI, Grp.length_firsts, numX]
theorem firstsI_lead {xs : List Body} {i : Nat} (h : Grp.lead (freeB xs) (cmX xs) i = true) : firstsI xs (i + 1) = firstsI xs i ++ [(i : Int)] := by simp [firstsI, Grp.firsts, h]
theorem firstsI_not {xs : List Body} {i : Nat} (h : Grp.lead (freeB xs) (cmX xs) i = false) : firstsI xs (i + 1) = firstsI xs i := by simp [firstsI, Grp.firsts, h]
def AtInv (xs : List Body) (i k : Nat) (at' : Int) : Prop := (at' = -1 ∧ ∀ p, p < k → gi (firstsI xs i) p ≠ cmX xs i) ∨ (at' = numX xs (cmX xs i) ∧ cmX xs i < i)
theorem at_hit {xs : List Body} {i k : Nat} (hk : k < (firstsI xs i).length) (h : gi (firstsI xs i) k = cmX xs i) : AtInv xs i (k + 1) k := by
  have h1 : (firstsI xs i)[k]? = some ((cmX xs i : Nat) : Int) := by rw [← h]; exact ix_get (T := .int) hk
  simp only [firstsI, List.getElem?_map, Option.map_eq_some_iff] at h1
  obtain ⟨m, m1, m2⟩ := h1
  have m3 : m = cmX xs i := Int.ofNat.inj m2
  rw [m3] at m1
  have p1 := Grp.firsts_pos m1
  have p2 := Grp.firsts_lt _ _ _ _ (List.mem_of_getElem? m1)
  exact .inr ⟨by rw [show (k : Int) = ((numX xs (cmX xs i) : Nat) : Int) from congrArg _ p1], p2⟩
theorem at_miss {xs : List Body} {i k : Nat} {a : Int} (h : AtInv xs i k a) (hn : gi (firstsI xs i) k ≠ cmX xs i) : AtInv xs i (k + 1) a := by
  rcases h with h | h
  · refine .inl ⟨h.1, fun p hp => ?_⟩
    by_cases e : p = k
    · rw [e]; exact hn
    · exact h.2 p (by omega)
  · exact .inr h
theorem at_end {xs : List Body} {i : Nat} {a : Int} (h : AtInv xs i (firstsI xs i).length a) (hf : freeB xs i = true) :
    (a = -1 ∧ cmX xs i = i ∧ Grp.lead (freeB xs) (cmX xs) i = true) ∨ (a = numX xs (cmX xs i) ∧ 0 ≤ a ∧ Grp.lead (freeB xs) (cmX xs) i = false) := by
  have hle := cmX_le xs i
  rcases h with h | h
  · left
    have e : cmX xs i = i := by
      refine Classical.byContradiction fun hne => ?_
      have h1 := Grp.firsts_at (lead_cm hf) i (by omega)
      have h2 : (firstsI xs i)[numX xs (cmX xs i)]? = some ((cmX xs i : Nat) : Int) := by
        simp only [firstsI, List.getElem?_map]
        unfold numX
        rw [h1]
        rfl
      exact h.2 _ (List.getElem?_eq_some_iff.1 h2).1 (ix_eq (T := .int) h2)
    exact ⟨h.1, e, lead_iff.2 ⟨hf, e⟩⟩
  · right
    refine ⟨h.1, by rw [h.1]; exact Int.natCast_nonneg _, ?_⟩
    cases q : Grp.lead (freeB xs) (cmX xs) i with
    | false => rfl
    | true =>
      have := (lead_iff.1 q).2
      omega
theorem groupsX_drop {xs : List Body} {i : Nat} (h : i < xs.length) : (groupsX xs).drop i = gOf xs xs.length i :: (groupsX xs).drop (i + 1) := by
  have := drop_ix (T := .int) (xs := groupsX xs) (i := i) (by simp only [groupsX, length_gen]; exact h)
  rw [show Ty.ix .int (groupsX xs) i = gOf xs xs.length i from ix_gen (T := .int) h] at this
  exact this
def LSnu1  : LS where
  S := List Body × List Int × Unit × Unit × List Int × List Int × Int
  live := [(0, [none]), (1, [none]), (5, [some .int]), (6, [some .int]), (7, [none])]
  shape := fun s => ([.vec 0, .vec 1, .vec 2, .vec 3, .int .i64 s.2.2.2.2.2.2], [(false, .vec .body s.1), (false, .vec .int s.2.1), (true, .vec .int s.2.2.2.2.1), (true, .vec .int s.2.2.2.2.2.1)])
  get := fun v h => match v, h with
    | [.vec 0, .vec 1, .vec 2, .vec 3, .int .i64 i], [(false, .vec .body xs), (false, .vec .int gs), (true, .vec .int out), (true, .vec .int fs)] => some (xs, gs, (), (), out, fs, i)
    | _, _ => none
  inv := fun s0 s => Holds (s.1 = s0.1 ∧ s.2.1 = s0.2.1 ∧ 0 ≤ s.2.2.2.2.2.2 ∧ s.2.2.2.2.2.2 ≤ s0.1.length ∧ s.2.2.2.2.2.1 = firstsI s0.1 s.2.2.2.2.2.2.toNat ∧ s.2.2.2.2.1 ++ (groupsX s0.1).drop s.2.2.2.2.2.2.toNat = groupsX s0.1)
  mu := fun s => ((s.1.length : Int) - s.2.2.2.2.2.2).toNat
  ok := by
    intro v h s hg
    try dsimp only at hg
    split at hg <;> cases hg
    rfl

def LSnu2  : LS where
  S := List Body × List Int × Unit × Unit × List Int × List Int × Int × Int × Int
  live := [(0, [none]), (1, [none]), (5, [some .int]), (6, [some .int]), (7, [none]), (8, [none]), (9, [none])]
  shape := fun s => ([.vec 0, .vec 1, .vec 2, .vec 3, .int .i64 s.2.2.2.2.2.2.1, .int .i64 s.2.2.2.2.2.2.2.1, .int .i64 s.2.2.2.2.2.2.2.2], [(false, .vec .body s.1), (false, .vec .int s.2.1), (true, .vec .int s.2.2.2.2.1), (true, .vec .int s.2.2.2.2.2.1)])
  get := fun v h => match v, h with
    | [.vec 0, .vec 1, .vec 2, .vec 3, .int .i64 i, .int .i64 a, .int .i64 k], [(false, .vec .body xs), (false, .vec .int gs), (true, .vec .int out), (true, .vec .int fs)] => some (xs, gs, (), (), out, fs, i, a, k)
    | _, _ => none
  inv := fun s0 s => Holds (s.1 = s0.1 ∧ s.2.1 = s0.2.1 ∧ s.2.2.2.2.1 = s0.2.2.2.2.1 ∧ s.2.2.2.2.2.1 = s0.2.2.2.2.2.1 ∧ s.2.2.2.2.2.2.1 = s0.2.2.2.2.2.2.1 ∧ 0 ≤ s.2.2.2.2.2.2.2.2 ∧ s.2.2.2.2.2.2.2.2 ≤ s0.2.2.2.2.2.1.length ∧ AtInv s0.1 s0.2.2.2.2.2.2.1.toNat s.2.2.2.2.2.2.2.2.toNat s.2.2.2.2.2.2.2.1)
  mu := fun s => ((s.2.2.2.2.2.1.length : Int) - s.2.2.2.2.2.2.2.2).toNat
  ok := by
    intro v h s hg
    try dsimp only at hg
    split at hg <;> cases hg
    rfl

def L_number : Loops := fun n => match n with
  | 4 => some LSnu1
  | 10 => some LSnu2
  | _ => none
noncomputable def fs_l7Number : Fs := ⟨[], fun args H => match args, H with
  | [.vec 0, .vec 1], [(false, .vec .body xs), (false, .vec .int gs)] => some ((some (xs.length ≤ 12 ∧ LabOk xs gs)), .vec 2, [(false, .vec .body xs), (false, .vec .int gs), (true, .vec .int (groupsX xs))])
  | _, _ => none⟩

theorem vc_l7Number (xs : List Body) (gs : List Int) (Q : SV → List Ent → Prop) :
    fnVC tt (look []) (L_number) Tryz.f132 [.vec 0, .vec 1] [(false, .vec .body xs), (false, .vec .int gs)] Q =
    (let w_ := IntKind.wrap IntKind.i64; let n_ := Int.toNat; Holds (xs = xs ∧ gs = gs ∧ (0 : Int) ≤ (0 : Int) ∧ (0 : Int) ≤ (↑(List.length xs) : Int) ∧ [] = firstsI xs (n_ (0 : Int)) ∧ [] ++ List.drop (n_ (0 : Int)) (groupsX xs) = groupsX xs) ∧ ∀ (y8 : List Body × List Int × Unit × Unit × List Int × List Int × Int), let y8f0_ := Prod.fst y8; let y8s1_ := Prod.snd y8; let y8f1_ := Prod.fst (Prod.snd y8); let y8f4_ := Prod.fst (Prod.snd (Prod.snd (Prod.snd (Prod.snd y8)))); let y8s5_ := Prod.snd (Prod.snd (Prod.snd (Prod.snd (Prod.snd y8)))); let y8f5_ := Prod.fst (Prod.snd (Prod.snd (Prod.snd (Prod.snd (Prod.snd y8))))); let y8s6_ := Prod.snd (Prod.snd (Prod.snd (Prod.snd (Prod.snd (Prod.snd y8))))); let A10_ := (Prod.snd y8s5_ + (1 : Int)); let A9_ := (↑(List.length y8f0_) : Int); Holds (Prod.fst y8 = xs ∧ y8f1_ = gs ∧ (0 : Int) ≤ y8s6_ ∧ y8s6_ ≤ (↑(List.length xs) : Int) ∧ y8f5_ = firstsI xs (n_ y8s6_) ∧ y8f4_ ++ List.drop (n_ y8s6_) (groupsX xs) = groupsX xs) → ifB (decide (Prod.snd y8s5_ < A9_)) (((0 : Int) ≤ y8s6_ ∧ y8s6_ < A9_) ∧ ifB (Body.Mass (Ty.ix Ty.body y8f0_ (n_ y8s6_)) == (0 : Int)) ((List.length y8f4_ + List.length [(-1 : Int)]) * (8 : Nat) ≤ room ∧ Holds (Prod.fst y8 = xs ∧ y8f1_ = gs ∧ (0 : Int) ≤ w_ A10_ ∧ w_ A10_ ≤ (↑(List.length xs) : Int) ∧ y8f5_ = firstsI xs (n_ (w_ A10_)) ∧ y8f4_ ++ [(-1 : Int)] ++ List.drop (n_ (w_ A10_)) (groupsX xs) = groupsX xs) ∧ n_ (A9_ - w_ A10_) < n_ (A9_ - y8s6_)) (Holds (Prod.fst y8 = y8f0_ ∧ y8f1_ = y8f1_ ∧ y8f4_ = y8f4_ ∧ y8f5_ = y8f5_ ∧ y8s6_ = y8s6_ ∧ (0 : Int) ≤ (0 : Int) ∧ (0 : Int) ≤ (↑(List.length y8f5_) : Int) ∧ AtInv y8f0_ (n_ y8s6_) (n_ (0 : Int)) (-1 : Int)) ∧ ∀ (y1 : List Body × List Int × Unit × Unit × List Int × List Int × Int × Int × Int), let y1f0_ := Prod.fst y1; let y1s1_ := Prod.snd y1; let y1f1_ := Prod.fst (Prod.snd y1); let y1f4_ := Prod.fst (Prod.snd (Prod.snd (Prod.snd (Prod.snd y1)))); let y1f5_ := Prod.fst (Prod.snd (Prod.snd (Prod.snd (Prod.snd (Prod.snd y1))))); let y1s6_ := Prod.snd (Prod.snd (Prod.snd (Prod.snd (Prod.snd (Prod.snd y1))))); let y1f6_ := Prod.fst (Prod.snd (Prod.snd (Prod.snd (Prod.snd (Prod.snd (Prod.snd y1)))))); let y1s7_ := Prod.snd (Prod.snd (Prod.snd (Prod.snd (Prod.snd (Prod.snd (Prod.snd y1)))))); let y1f7_ := Prod.fst (Prod.snd (Prod.snd (Prod.snd (Prod.snd (Prod.snd (Prod.snd (Prod.snd y1))))))); let y1s8_ := Prod.snd (Prod.snd (Prod.snd (Prod.snd (Prod.snd (Prod.snd (Prod.snd (Prod.snd y1))))))); let A6_ := (Prod.snd (Prod.snd (Prod.snd y8s1_))); let A5_ := (Prod.snd y1s7_ + (1 : Int)); let A4_ := (↑(List.length y1f5_) : Int); let A3_ := (Prod.fst y1s6_ + (1 : Int)); let A7_ := (n_ (w_ A3_)); let A2_ := (Prod.snd A6_); Holds (Prod.fst y1 = y8f0_ ∧ y1f1_ = y8f1_ ∧ y1f4_ = Prod.fst A6_ ∧ y1f5_ = Prod.fst A2_ ∧ y1f6_ = Prod.snd A2_ ∧ (0 : Int) ≤ y1s8_ ∧ y1s8_ ≤ (↑(List.length (Prod.fst A2_)) : Int) ∧ AtInv y8f0_ (n_ (Prod.snd A2_)) (n_ y1s8_) y1f7_) → ifB (decide (Prod.snd y1s7_ < A4_)) (((0 : Int) ≤ y1s8_ ∧ y1s8_ < A4_) ∧ ((0 : Int) ≤ y1f6_ ∧ y1f6_ < (↑(List.length y1f1_) : Int)) ∧ ifB (Ty.ix Ty.int y1f5_ (n_ y1s8_) == Ty.ix Ty.int y1f1_ (n_ y1f6_)) (Holds (Prod.fst y1 = y8f0_ ∧ y1f1_ = y8f1_ ∧ y1f4_ = Prod.fst A6_ ∧ y1f5_ = Prod.fst A2_ ∧ y1f6_ = Prod.snd A2_ ∧ (0 : Int) ≤ w_ A5_ ∧ w_ A5_ ≤ (↑(List.length (Prod.fst A2_)) : Int) ∧ AtInv y8f0_ (n_ (Prod.snd A2_)) (n_ (w_ A5_)) y1s8_) ∧ n_ (A4_ - w_ A5_) < n_ (A4_ - y1s8_)) (Holds (Prod.fst y1 = y8f0_ ∧ y1f1_ = y8f1_ ∧ y1f4_ = Prod.fst A6_ ∧ y1f5_ = Prod.fst A2_ ∧ y1f6_ = Prod.snd A2_ ∧ (0 : Int) ≤ w_ A5_ ∧ w_ A5_ ≤ (↑(List.length (Prod.fst A2_)) : Int) ∧ AtInv y8f0_ (n_ (Prod.snd A2_)) (n_ (w_ A5_)) y1f7_) ∧ n_ (A4_ - w_ A5_) < n_ (A4_ - y1s8_))) (ifB (decide (Prod.fst y1s7_ < (0 : Int))) (((0 : Int) ≤ y1f6_ ∧ y1f6_ < (↑(List.length y1f1_) : Int)) ∧ (List.length y1f5_ + List.length [Ty.ix Ty.int y1f1_ (n_ y1f6_)]) * (8 : Nat) ≤ room ∧ (List.length y1f4_ + List.length [A4_]) * (8 : Nat) ≤ room ∧ Holds (Prod.fst y1 = xs ∧ y1f1_ = gs ∧ (0 : Int) ≤ w_ A3_ ∧ w_ A3_ ≤ (↑(List.length xs) : Int) ∧ y1f5_ ++ [Ty.ix Ty.int y1f1_ (n_ y1f6_)] = firstsI xs A7_ ∧ y1f4_ ++ [A4_] ++ List.drop A7_ (groupsX xs) = groupsX xs) ∧ n_ ((↑(List.length y1f0_) : Int) - w_ A3_) < n_ (A9_ - Prod.snd A2_)) ((List.length y1f4_ + List.length [y1f7_]) * (8 : Nat) ≤ room ∧ Holds (Prod.fst y1 = xs ∧ y1f1_ = gs ∧ (0 : Int) ≤ w_ A3_ ∧ w_ A3_ ≤ (↑(List.length xs) : Int) ∧ y1f5_ = firstsI xs A7_ ∧ y1f4_ ++ [y1f7_] ++ List.drop A7_ (groupsX xs) = groupsX xs) ∧ n_ ((↑(List.length y1f0_) : Int) - w_ A3_) < n_ (A9_ - Prod.snd A2_))))) (Q (SV.vec (2 : Nat)) [(false, Blk.vec Ty.body y8f0_), (false, Blk.vec Ty.int y8f1_), (true, Blk.vec Ty.int y8f4_)])) := by kernel_rfl

theorem ok_l7Number : FsOk Tryz.prog 132 fs_l7Number := fsOk_of tt_ok tabFs_nil mixed Tryz.func132 (by kernel_rfl) (by kernel_rfl) (by
    intro args LL p r HH h hp
    unfold fs_l7Number at h
    dsimp only at h
    split at h
    case h_2 => cases h
    rename_i xs gs
    simp only [Option.some.injEq, Prod.mk.injEq] at h
    obtain ⟨rfl, rfl, rfl⟩ := h
    refine ⟨by simp [Form, stays], (L_number), ?_⟩
    rw [vc_l7Number]
    try dsimp only
    obtain ⟨hl, hL⟩ := hp _ rfl
    have hgl : (groupsX xs).length = xs.length := by simp only [groupsX, length_gen]
    refine ⟨⟨(by trivial), (by trivial), by omega, by omega, rfl, rfl⟩, ?_⟩
    rintro ⟨xs', gs', u, v, out, fs, i⟩ ⟨h⟩
    dsimp only at h ⊢
    obtain ⟨rfl, rfl, i0, i1, rfl, h5⟩ := h
    have hs := congrArg List.length h5
    rw [List.length_append, List.length_drop] at hs
    have hfl := length_firstsI xs' i.toNat
    have hnl := num_le xs' i.toNat
    refine ifB_of (fun c => ?_) (fun c => ?_)
    · have c := of_decide_eq_true c
      have hi : i.toNat < xs'.length := by omega
      have e1 : (i + 1).toNat = i.toNat + 1 := by omega
      have w : IntKind.i64.wrap (i + 1) = i + 1 := wrap_small (by omega) (by omega)
      have hgi : Ty.ix .int gs' i.toNat = (cmX xs' i.toNat : Int) := hL.2 _ hi
      rw [groupsX_drop hi] at h5
      have hgo := gOf_all hi
      rw [w, e1]
      refine ⟨⟨i0, c⟩, ifB_of (fun d => ?_) (fun d => ⟨⟨(by trivial), (by trivial), (by trivial), (by trivial), (by trivial), by omega, by omega, .inl ⟨rfl, fun p hp => absurd hp (by simp)⟩⟩, ?_⟩)⟩
      · have f : freeB xs' i.toNat = false := by
          unfold freeB
          rw [d]
          rfl
        have l0 : Grp.lead (freeB xs') (cmX xs') i.toNat = false := by simp [Grp.lead, f]
        rw [f] at hgo
        refine ⟨by simp only [room, List.length_singleton]; omega, ⟨(by trivial), (by trivial), by omega, by omega, (firstsI_not l0).symm, ?_⟩, by omega⟩
        rw [hgo] at h5
        rw [List.append_assoc]
        exact h5
      · have f : freeB xs' i.toNat = true := by
          unfold freeB
          rw [d]
          rfl
        rw [f] at hgo
        have hgo : gOf xs' xs'.length i.toNat = (numX xs' (cmX xs' i.toNat) : Int) := hgo
        rintro ⟨xs2, gs2, u2, v2, out2, fs2, i2, a, k⟩ ⟨h⟩
        dsimp only at h ⊢
        obtain ⟨rfl, rfl, rfl, rfl, rfl, k0, k1, hA⟩ := h
        refine ifB_of (fun c2 => ?_) (fun c2 => ?_)
        · have c2 := of_decide_eq_true c2
          have e2 : (k + 1).toNat = k.toNat + 1 := by omega
          have w2 : IntKind.i64.wrap (k + 1) = k + 1 := wrap_small (by omega) (by omega)
          rw [w2, e2]
          refine ⟨⟨k0, c2⟩, ⟨i0, by rw [hL.1]; omega⟩, ifB_of (fun q => ⟨⟨(by trivial), (by trivial), (by trivial), (by trivial), (by trivial), by omega, by omega, ?_⟩, by omega⟩) (fun q => ⟨⟨(by trivial), (by trivial), (by trivial), (by trivial), (by trivial), by omega, by omega, at_miss hA ?_⟩, by omega⟩)⟩
          · have q := (eq_of_beq q).trans hgi
            have := at_hit (xs := xs2) (i := i2.toNat) (k := k.toNat) (by omega) q
            rwa [show ((k.toNat : Nat) : Int) = k by omega] at this
          · intro z
            exact beq_eq_false_iff_ne.1 q (z.trans hgi.symm)
        · have c2 := of_decide_eq_false c2
          rw [show k.toNat = (firstsI xs2 i2.toNat).length by omega] at hA
          rw [hgo] at h5
          rw [w, e1, hgi]
          rcases at_end hA f with ⟨q1, q2, q3⟩ | ⟨q1, q2, q3⟩
          · subst q1
            refine ifB_of (fun _ => ?_) (fun z => absurd (of_decide_eq_false z) (by omega))
            refine ⟨⟨i0, by rw [hL.1]; omega⟩, by simp only [room, List.length_singleton]; omega, by simp only [room, List.length_singleton]; omega, ⟨(by trivial), (by trivial), by omega, by omega, ?_, ?_⟩, by omega⟩
            · rw [firstsI_lead q3, q2]
            · rw [List.append_assoc, hfl]
              rw [q2] at h5
              exact h5
          · refine ifB_of (fun z => ?_) (fun _ => ?_)
            · have := of_decide_eq_true z
              omega
            · refine ⟨by simp only [room, List.length_singleton]; omega, ⟨(by trivial), (by trivial), by omega, by omega, (firstsI_not q3).symm, ?_⟩, by omega⟩
              rw [List.append_assoc, q1]
              exact h5
    · have c := of_decide_eq_false c
      rw [drop_end (by omega), List.append_nil] at h5
      rw [h5]
      exact ⟨(by trivial), (by trivial)⟩)

def LSgp1  : LS where
  S := List Body × List Contact × Unit × Unit × List Int × Int
  live := [(0, [none]), (1, [none]), (5, [some .int]), (6, [none])]
  shape := fun s => ([.vec 0, .vec 1, .vec 2, .int .i64 s.2.2.2.2.2], [(false, .vec .body s.1), (false, .vec .contact s.2.1), (true, .vec .int s.2.2.2.2.1)])
  get := fun v h => match v, h with
    | [.vec 0, .vec 1, .vec 2, .int .i64 i], [(false, .vec .body xs), (false, .vec .contact cs), (true, .vec .int out)] => some (xs, cs, (), (), out, i)
    | _, _ => none
  inv := fun s0 s => Holds (s.1 = s0.1 ∧ s.2.1 = s0.2.1 ∧ 0 ≤ s.2.2.2.2.2 ∧ s.2.2.2.2.2 ≤ s0.1.length ∧ s.2.2.2.2.1 = gen (fun j => (j : Int)) s.2.2.2.2.2.toNat)
  mu := fun s => ((s.1.length : Int) - s.2.2.2.2.2).toNat
  ok := by
    intro v h s hg
    try dsimp only at hg
    split at hg <;> cases hg
    rfl

def LSgp2  : LS where
  S := List Body × List Contact × Unit × Unit × List Int × Int
  live := [(0, [none]), (1, [none]), (5, [some .int]), (7, [none])]
  shape := fun s => ([.vec 0, .vec 1, .vec 2, .int .i64 s.2.2.2.2.2], [(false, .vec .body s.1), (false, .vec .contact s.2.1), (true, .vec .int s.2.2.2.2.1)])
  get := fun v h => match v, h with
    | [.vec 0, .vec 1, .vec 2, .int .i64 n], [(false, .vec .body xs), (false, .vec .contact cs), (true, .vec .int out)] => some (xs, cs, (), (), out, n)
    | _, _ => none
  inv := fun s0 s => Holds (s.1 = s0.1 ∧ s.2.1 = s0.2.1 ∧ 0 ≤ s.2.2.2.2.2 ∧ s.2.2.2.2.2 ≤ s0.1.length ∧ ∃ f, agree s0.1 s.2.2.2.2.1 f ∧ Grp.rounds (edgesX s0.1) (s0.1.length - s.2.2.2.2.2.toNat) f = Grp.rounds (edgesX s0.1) s0.1.length (fun j => (j : Int)))
  mu := fun s => ((s.1.length : Int) - s.2.2.2.2.2).toNat
  ok := by
    intro v h s hg
    try dsimp only at hg
    split at hg <;> cases hg
    rfl

def LSgp3  : LS where
  S := List Body × List Contact × Unit × Unit × List Int × Int × Int
  live := [(0, [none]), (1, [none]), (5, [some .int]), (7, [none]), (8, [none])]
  shape := fun s => ([.vec 0, .vec 1, .vec 2, .int .i64 s.2.2.2.2.2.1, .int .i64 s.2.2.2.2.2.2], [(false, .vec .body s.1), (false, .vec .contact s.2.1), (true, .vec .int s.2.2.2.2.1)])
  get := fun v h => match v, h with
    | [.vec 0, .vec 1, .vec 2, .int .i64 n, .int .i64 k], [(false, .vec .body xs), (false, .vec .contact cs), (true, .vec .int out)] => some (xs, cs, (), (), out, n, k)
    | _, _ => none
  inv := fun s0 s => Holds (s.1 = s0.1 ∧ s.2.1 = s0.2.1 ∧ s.2.2.2.2.2.1 = s0.2.2.2.2.2.1 ∧ 0 ≤ s.2.2.2.2.2.2 ∧ s.2.2.2.2.2.2 ≤ s0.2.1.length ∧ ∃ f, agree s0.1 s.2.2.2.2.1 f ∧ Grp.rounds (edgesX s0.1) (s0.1.length - (s0.2.2.2.2.2.1.toNat + 1)) ((edgesC s0.1 (s0.2.1.drop s.2.2.2.2.2.2.toNat)).foldl Grp.relax f) = Grp.rounds (edgesX s0.1) s0.1.length (fun j => (j : Int)))
  mu := fun s => ((s.2.1.length : Int) - s.2.2.2.2.2.2).toNat
  ok := by
    intro v h s hg
    try dsimp only at hg
    split at hg <;> cases hg
    rfl

def L_groupsS : Loops := fun n => match n with
  | 3 => some LSgp1
  | 7 => some LSgp2
  | 10 => some LSgp3
  | _ => none
noncomputable def fs_l7Groups : Fs := ⟨[], fun args H => match args, H with
  | [.vec 0, .vec 1], [(false, .vec .body xs), (false, .vec .contact cs)] => some ((some (xs.length ≤ 12 ∧ cs = contactsF xs)), .vec 2, [(false, .vec .body xs), (false, .vec .contact cs), (true, .vec .int (groupsX xs))])
  | _, _ => none⟩

theorem vc_l7Groups (xs : List Body) (cs : List Contact) (Q : SV → List Ent → Prop) :
    fnVC tt (look [(131, fs_l3Less), (132, fs_l7Number)]) (L_groupsS) Tryz.f97 [.vec 0, .vec 1] [(false, .vec .body xs), (false, .vec .contact cs)] Q =
    (let w_ := IntKind.wrap IntKind.i64; let n_ := Int.toNat; Holds (xs = xs ∧ cs = cs ∧ (0 : Int) ≤ (0 : Int) ∧ (0 : Int) ≤ (↑(List.length xs) : Int) ∧ [] = gen (fun j => (↑j : Int)) (n_ (0 : Int))) ∧ ∀ (y12 : List Body × List Contact × Unit × Unit × List Int × Int), let y12f0_ := Prod.fst y12; let y12s1_ := Prod.snd y12; let y12f1_ := Prod.fst (Prod.snd y12); let y12s4_ := Prod.snd (Prod.snd (Prod.snd (Prod.snd y12))); let y12f4_ := Prod.fst (Prod.snd (Prod.snd (Prod.snd (Prod.snd y12)))); let y12s5_ := Prod.snd (Prod.snd (Prod.snd (Prod.snd (Prod.snd y12)))); let A13_ := (↑(List.length y12f0_) : Int); Holds (Prod.fst y12 = xs ∧ y12f1_ = cs ∧ (0 : Int) ≤ y12s5_ ∧ y12s5_ ≤ (↑(List.length xs) : Int) ∧ y12f4_ = gen (fun j => (↑j : Int)) (n_ y12s5_)) → ifB (decide (Prod.snd y12s4_ < A13_)) ((List.length y12f4_ + List.length [y12s5_]) * (8 : Nat) ≤ room ∧ Holds (Prod.fst y12 = xs ∧ y12f1_ = cs ∧ (0 : Int) ≤ w_ (Prod.snd y12s4_ + (1 : Int)) ∧ w_ (Prod.snd y12s4_ + (1 : Int)) ≤ (↑(List.length xs) : Int) ∧ y12f4_ ++ [y12s5_] = gen (fun j => (↑j : Int)) (n_ (w_ (Prod.snd y12s4_ + (1 : Int))))) ∧ n_ (A13_ - w_ (Prod.snd y12s4_ + (1 : Int))) < n_ (A13_ - y12s5_)) (Holds (Prod.fst y12 = y12f0_ ∧ y12f1_ = y12f1_ ∧ (0 : Int) ≤ (0 : Int) ∧ (0 : Int) ≤ A13_ ∧ ∃ f, agree y12f0_ y12f4_ f ∧ Grp.rounds (edgesX y12f0_) (List.length y12f0_ - n_ (0 : Int)) f = Grp.rounds (edgesX y12f0_) (List.length y12f0_) fun j => (↑j : Int)) ∧ ∀ (y11 : List Body × List Contact × Unit × Unit × List Int × Int), let y11f0_ := Prod.fst y11; let y11f1_ := Prod.fst (Prod.snd y11); let y11s4_ := Prod.snd (Prod.snd (Prod.snd (Prod.snd y11))); let y11f4_ := Prod.fst (Prod.snd (Prod.snd (Prod.snd (Prod.snd y11)))); let y11s5_ := Prod.snd (Prod.snd (Prod.snd (Prod.snd (Prod.snd y11)))); Holds (Prod.fst y11 = y12f0_ ∧ y11f1_ = y12f1_ ∧ (0 : Int) ≤ y11s5_ ∧ y11s5_ ≤ A13_ ∧ ∃ f, agree y12f0_ y11f4_ f ∧ Grp.rounds (edgesX y12f0_) (List.length y12f0_ - n_ y11s5_) f = Grp.rounds (edgesX y12f0_) (List.length y12f0_) fun j => (↑j : Int)) → ifB (decide (Prod.snd y11s4_ < (↑(List.length y11f0_) : Int))) (Holds (Prod.fst y11 = y11f0_ ∧ y11f1_ = y11f1_ ∧ y11s5_ = y11s5_ ∧ (0 : Int) ≤ (0 : Int) ∧ (0 : Int) ≤ (↑(List.length y11f1_) : Int) ∧ ∃ f, agree y11f0_ y11f4_ f ∧ Grp.rounds (edgesX y11f0_) (List.length y11f0_ - (n_ y11s5_ + (1 : Nat))) (List.foldl Grp.relax f (edgesC y11f0_ (List.drop (n_ (0 : Int)) y11f1_))) = Grp.rounds (edgesX y11f0_) (List.length y11f0_) fun j => (↑j : Int)) ∧ ∀ (y1 : List Body × List Contact × Unit × Unit × List Int × Int × Int), let y1f0_ := Prod.fst y1; let y1s1_ := Prod.snd y1; let y1f1_ := Prod.fst (Prod.snd y1); let y1f4_ := Prod.fst (Prod.snd (Prod.snd (Prod.snd (Prod.snd y1)))); let y1s5_ := Prod.snd (Prod.snd (Prod.snd (Prod.snd (Prod.snd y1)))); let y1f5_ := Prod.fst (Prod.snd (Prod.snd (Prod.snd (Prod.snd (Prod.snd y1))))); let y1s6_ := Prod.snd (Prod.snd (Prod.snd (Prod.snd (Prod.snd (Prod.snd y1))))); let A10_ := (List.length y11f0_); let A9_ := (↑(List.length y11f1_) : Int); let A8_ := (↑(List.length y1f1_) : Int); let A4_ := (Prod.snd y1s5_ + (1 : Int)); let A5_ := (edgesC y11f0_ (List.drop (n_ (w_ A4_)) y11f1_)); let A3_ := y11s4_; let A7_ := (List.length y11f0_ - (n_ (Prod.snd A3_) + (1 : Nat))); let A2_ := (Ty.ix Ty.contact y1f1_ (n_ y1s6_)); let A6_ := (min (Ty.ix Ty.int y1f4_ (n_ (Contact.A A2_))) (Ty.ix Ty.int y1f4_ (n_ (Contact.B A2_)))); Holds (Prod.fst y1 = y11f0_ ∧ y1f1_ = y11f1_ ∧ y1f5_ = Prod.snd A3_ ∧ (0 : Int) ≤ y1s6_ ∧ y1s6_ ≤ A9_ ∧ ∃ f, agree y11f0_ y1f4_ f ∧ Grp.rounds (edgesX y11f0_) A7_ (List.foldl Grp.relax f (edgesC y11f0_ (List.drop (n_ y1s6_) y11f1_))) = Grp.rounds (edgesX y11f0_) A10_ fun j => (↑j : Int)) → ifB (decide (Prod.snd y1s5_ < A8_)) (((0 : Int) ≤ y1s6_ ∧ y1s6_ < A8_) ∧ ((0 : Int) ≤ Contact.A A2_ ∧ Contact.A A2_ < (↑(List.length y1f0_) : Int)) ∧ ifB (Body.Mass (Ty.ix Ty.body y1f0_ (n_ (Contact.A A2_))) == (0 : Int)) (Holds (Prod.fst y1 = y11f0_ ∧ y1f1_ = y11f1_ ∧ y1f5_ = Prod.snd A3_ ∧ (0 : Int) ≤ w_ A4_ ∧ w_ A4_ ≤ A9_ ∧ ∃ f, agree y11f0_ y1f4_ f ∧ Grp.rounds (edgesX y11f0_) A7_ (List.foldl Grp.relax f A5_) = Grp.rounds (edgesX y11f0_) A10_ fun j => (↑j : Int)) ∧ n_ (A8_ - w_ A4_) < n_ (A8_ - y1s6_)) (((0 : Int) ≤ Contact.B A2_ ∧ Contact.B A2_ < (↑(List.length y1f0_) : Int)) ∧ ifB (Body.Mass (Ty.ix Ty.body y1f0_ (n_ (Contact.B A2_))) == (0 : Int)) (Holds (Prod.fst y1 = y11f0_ ∧ y1f1_ = y11f1_ ∧ y1f5_ = Prod.snd A3_ ∧ (0 : Int) ≤ w_ A4_ ∧ w_ A4_ ≤ A9_ ∧ ∃ f, agree y11f0_ y1f4_ f ∧ Grp.rounds (edgesX y11f0_) A7_ (List.foldl Grp.relax f A5_) = Grp.rounds (edgesX y11f0_) A10_ fun j => (↑j : Int)) ∧ n_ (A8_ - w_ A4_) < n_ (A8_ - y1s6_)) (((0 : Int) ≤ Contact.A A2_ ∧ Contact.A A2_ < (↑(List.length y1f4_) : Int)) ∧ ((0 : Int) ≤ Contact.B A2_ ∧ Contact.B A2_ < (↑(List.length y1f4_) : Int)) ∧ ((0 : Int) ≤ Contact.A A2_ ∧ Contact.A A2_ < (↑(List.length y1f4_) : Int)) ∧ ((0 : Int) ≤ Contact.B A2_ ∧ Contact.B A2_ < (↑(List.length (List.set y1f4_ (n_ (Contact.A A2_)) A6_)) : Int)) ∧ Holds (Prod.fst y1 = y11f0_ ∧ y1f1_ = y11f1_ ∧ y1f5_ = Prod.snd A3_ ∧ (0 : Int) ≤ w_ A4_ ∧ w_ A4_ ≤ A9_ ∧ ∃ f, agree y11f0_ (List.set (List.set y1f4_ (n_ (Contact.A A2_)) A6_) (n_ (Contact.B A2_)) A6_) f ∧ Grp.rounds (edgesX y11f0_) A7_ (List.foldl Grp.relax f A5_) = Grp.rounds (edgesX y11f0_) A10_ fun j => (↑j : Int)) ∧ n_ (A8_ - w_ A4_) < n_ (A8_ - y1s6_)))) (Holds (Prod.fst y1 = y12f0_ ∧ y1f1_ = y12f1_ ∧ (0 : Int) ≤ w_ (Prod.fst y1s5_ + (1 : Int)) ∧ w_ (Prod.fst y1s5_ + (1 : Int)) ≤ A13_ ∧ ∃ f, agree y12f0_ y1f4_ f ∧ Grp.rounds (edgesX y12f0_) (List.length y12f0_ - n_ (w_ (Prod.fst y1s5_ + (1 : Int)))) f = Grp.rounds (edgesX y12f0_) (List.length y12f0_) fun j => (↑j : Int)) ∧ n_ ((↑(List.length y1f0_) : Int) - w_ (Prod.fst y1s5_ + (1 : Int))) < n_ ((↑A10_ : Int) - Prod.snd A3_))) ((List.length y11f0_ ≤ (12 : Nat) ∧ List.length y11f4_ = List.length y11f0_ ∧ ∀ (j : Nat), j < List.length y11f0_ → gi y11f4_ j = (↑(cmX y11f0_ j) : Int)) ∧ Q (SV.vec (2 : Nat)) [(false, Blk.vec Ty.body y11f0_), (false, Blk.vec Ty.contact y11f1_), (true, Blk.vec Ty.int (groupsX y11f0_))]))) := by kernel_rfl

theorem ok_l7Groups : FsOk Tryz.prog 97 fs_l7Groups := fsOk_of tt_ok (tabFs_cons ok_l3Less (tabFs_cons ok_l7Number tabFs_nil)) mixed Tryz.func97 (by kernel_rfl) (by kernel_rfl) (by
    intro args LL p r HH h hp
    unfold fs_l7Groups at h
    dsimp only at h
    split at h
    case h_2 => cases h
    rename_i xs cs
    simp only [Option.some.injEq, Prod.mk.injEq] at h
    obtain ⟨rfl, rfl, rfl⟩ := h
    refine ⟨by simp [Form, stays], (L_groupsS), ?_⟩
    rw [vc_l7Groups]
    try dsimp only
    obtain ⟨hl, hC⟩ := hp _ rfl
    have hq := length_contactsF hl
    rw [← hC] at hq
    refine ⟨⟨(by trivial), (by trivial), by omega, by omega, rfl⟩, ?_⟩
    rintro ⟨xs', cs', u, v, out, i⟩ ⟨h⟩
    dsimp only at h ⊢
    obtain ⟨rfl, rfl, i0, i1, h5⟩ := h
    have hs := congrArg List.length h5
    rw [length_gen] at hs
    refine ifB_of (fun c => ?_) (fun c => ?_)
    · have c := of_decide_eq_true c
      have e1 : (i + 1).toNat = i.toNat + 1 := by omega
      have w : IntKind.i64.wrap (i + 1) = i + 1 := wrap_small (by omega) (by omega)
      rw [w, e1]
      refine ⟨by simp only [room, List.length_singleton]; omega, ⟨(by trivial), (by trivial), by omega, by omega, ?_⟩, by omega⟩
      rw [gen_succ, h5, show ((i.toNat : Nat) : Int) = i by omega]
    · have c := of_decide_eq_false c
      have hag : agree xs' out (fun j => (j : Int)) := by
        refine ⟨by omega, fun j hj => ?_⟩
        rw [h5]
        exact ix_gen (T := .int) (by omega)
      refine ⟨⟨(by trivial), (by trivial), by omega, by omega, _, hag, rfl⟩, ?_⟩
      clear h5 hs c hag i0 i1
      rintro ⟨xs2, cs2, u2, v2, out2, n⟩ ⟨h⟩
      dsimp only at h ⊢
      obtain ⟨rfl, rfl, n0, n1, f, ha, hr⟩ := h
      refine ifB_of (fun c => ?_) (fun c => ?_)
      · have c := of_decide_eq_true c
        have e1 : (n + 1).toNat = n.toNat + 1 := by omega
        have w : IntKind.i64.wrap (n + 1) = n + 1 := wrap_small (by omega) (by omega)
        have hEd : edgesC xs2 cs2 = edgesX xs2 := by rw [hC]; rfl
        refine ⟨⟨(by trivial), (by trivial), (by trivial), by omega, by omega, f, ha, ?_⟩, ?_⟩
        · rw [← hr, show xs2.length - n.toNat = (xs2.length - (n.toNat + 1)) + 1 by omega]
          show Grp.rounds (edgesX xs2) (xs2.length - (n.toNat + 1)) ((edgesC xs2 cs2).foldl Grp.relax f) = _
          rw [hEd]
          rfl
        clear ha hr f
        rintro ⟨xs3, cs3, u3, v3, out3, n3, k⟩ ⟨h⟩
        dsimp only at h ⊢
        obtain ⟨rfl, rfl, rfl, k0, k1, f, ha, hr⟩ := h
        refine ifB_of (fun c2 => ?_) (fun c2 => ?_)
        · have c2 := of_decide_eq_true c2
          have hk : k.toNat < cs3.length := by omega
          have e2 : (k + 1).toNat = k.toNat + 1 := by omega
          have w2 : IntKind.i64.wrap (k + 1) = k + 1 := wrap_small (by omega) (by omega)
          have hc : 0 ≤ (Ty.ix .contact cs3 k.toNat).A ∧ (Ty.ix .contact cs3 k.toNat).A < xs3.length ∧ 0 ≤ (Ty.ix .contact cs3 k.toNat).B ∧ (Ty.ix .contact cs3 k.toNat).B < xs3.length := by
            have := contact_ok0 (xs := xs3) (i := k.toNat) (by rw [← hC]; exact hk)
            rw [← hC] at this
            exact ⟨this.1, this.2.1, this.2.2.1, this.2.2.2.1⟩
          obtain ⟨a0, a1, b0, b1⟩ := hc
          rw [edgesC_drop hk] at hr
          rw [w2, e2]
          have stay : (freeB xs3 (Ty.ix .contact cs3 k.toNat).A.toNat && freeB xs3 (Ty.ix .contact cs3 k.toNat).B.toNat) = false → ∃ f, agree xs3 out3 f ∧ Grp.rounds (edgesX xs3) (xs3.length - (n3.toNat + 1)) ((edgesC xs3 (cs3.drop (k.toNat + 1))).foldl Grp.relax f) = Grp.rounds (edgesX xs3) xs3.length (fun j => (j : Int)) := by
            intro z
            rw [z] at hr
            exact ⟨f, ha, hr⟩
          refine ⟨⟨k0, c2⟩, ⟨a0, a1⟩, ifB_of (fun d1 => ⟨⟨(by trivial), (by trivial), (by trivial), by omega, by omega, stay ?_⟩, by omega⟩) (fun d1 => ⟨⟨b0, b1⟩, ifB_of (fun d2 => ⟨⟨(by trivial), (by trivial), (by trivial), by omega, by omega, stay ?_⟩, by omega⟩) (fun d2 => ?_)⟩)⟩
          · unfold freeB
            rw [d1]
            rfl
          · unfold freeB
            rw [d2, Bool.not_true, Bool.and_false]
          · have fA : freeB xs3 (Ty.ix .contact cs3 k.toNat).A.toNat = true := by unfold freeB; rw [d1]; rfl
            have fB : freeB xs3 (Ty.ix .contact cs3 k.toNat).B.toNat = true := by unfold freeB; rw [d2]; rfl
            rw [fA, fB] at hr
            have hl3 := ha.1
            refine ⟨⟨a0, by omega⟩, ⟨b0, by omega⟩, ⟨a0, by omega⟩, ⟨b0, by rw [List.length_set]; omega⟩, ⟨(by trivial), (by trivial), (by trivial), by omega, by omega, _, agree_relax ha (by omega) (by omega), hr⟩, by omega⟩
        · have c2 := of_decide_eq_false c2
          rw [drop_end (by omega)] at hr
          have hr : Grp.rounds (edgesX xs3) (xs3.length - (n3.toNat + 1)) f = _ := hr
          rw [w, e1]
          exact ⟨⟨(by trivial), (by trivial), by omega, by omega, f, ha, hr⟩, by omega⟩
      · have c := of_decide_eq_false c
        rw [show xs2.length - n.toNat = 0 by omega] at hr
        exact ⟨⟨hl, lab_done ha hr⟩, (by trivial), (by trivial)⟩)

def LSsaw  : LS where
  S := List Body × List Int × Unit × Unit × List Bool × Int
  live := [(0, [none]), (1, [none]), (5, [some .bool]), (6, [none])]
  shape := fun s => ([.vec 0, .vec 1, .vec 2, .int .i64 s.2.2.2.2.2], [(false, .vec .body s.1), (false, .vec .int s.2.1), (true, .vec .bool s.2.2.2.2.1)])
  get := fun v h => match v, h with
    | [.vec 0, .vec 1, .vec 2, .int .i64 i], [(false, .vec .body xs), (false, .vec .int gs), (true, .vec .bool out)] => some (xs, gs, (), (), out, i)
    | _, _ => none
  inv := fun s0 s => Holds (s.1 = s0.1 ∧ s.2.1 = s0.2.1 ∧ 0 ≤ s.2.2.2.2.2 ∧ s.2.2.2.2.2 ≤ s0.1.length ∧ s.2.2.2.2.1 = awkF s0.1 s.2.2.2.2.2.toNat)
  mu := fun s => ((s.1.length : Int) - s.2.2.2.2.2).toNat
  ok := by
    intro v h s hg
    try dsimp only at hg
    split at hg <;> cases hg
    rfl

def L_sawake : Loops := fun n => match n with
  | 3 => some LSsaw
  | _ => none
noncomputable def fs_l7Awake : Fs := ⟨[], fun args H => match args, H with
  | [.vec 0, .vec 1], [(false, .vec .body xs), (false, .vec .int gs)] => some ((some (bodiesOk xs = true ∧ gs = groupsX xs)), .vec 2, [(false, .vec .body xs), (false, .vec .int gs), (true, .vec .bool (awkF xs xs.length))])
  | _, _ => none⟩

theorem vc_l7Awake (xs : List Body) (gs : List Int) (Q : SV → List Ent → Prop) :
    fnVC tt (look [(71, fs_l6Sleeps)]) (L_sawake) Tryz.f98 [.vec 0, .vec 1] [(false, .vec .body xs), (false, .vec .int gs)] Q =
    (let w_ := IntKind.wrap IntKind.i64; let n_ := Int.toNat; let ii_ := Ty.ix Ty.int; Holds (xs = xs ∧ gs = gs ∧ (0 : Int) ≤ (0 : Int) ∧ (0 : Int) ≤ (↑(List.length xs) : Int) ∧ [] = awkF xs (n_ (0 : Int))) ∧ ∀ (y1 : List Body × List Int × Unit × Unit × List Bool × Int), let y1f0_ := Prod.fst y1; let y1s1_ := Prod.snd y1; let y1f1_ := Prod.fst (Prod.snd y1); let y1s4_ := Prod.snd (Prod.snd (Prod.snd (Prod.snd y1))); let y1f4_ := Prod.fst (Prod.snd (Prod.snd (Prod.snd (Prod.snd y1)))); let y1s5_ := Prod.snd (Prod.snd (Prod.snd (Prod.snd (Prod.snd y1)))); let A9_ := (Prod.fst y1s4_ ++ [false]); let A8_ := (↑(List.length xs) : Int); let A7_ := (↑(List.length y1f1_) : Int); let A4_ := (n_ (ii_ y1f1_ (n_ y1s5_))); let A3_ := (↑(List.length y1f0_) : Int); let A2_ := (Prod.snd y1s4_ + (1 : Int)); let A6_ := (A3_ - w_ A2_); let A5_ := (n_ (w_ A2_)); Holds (Prod.fst y1 = xs ∧ y1f1_ = gs ∧ (0 : Int) ≤ y1s5_ ∧ y1s5_ ≤ A8_ ∧ y1f4_ = awkF xs (n_ y1s5_)) → ifB (decide (Prod.snd y1s4_ < A3_)) (((0 : Int) ≤ y1s5_ ∧ y1s5_ < A7_) ∧ ifB (ii_ y1f1_ (n_ y1s5_) == (↑(List.length y1f4_) : Int)) ((List.length y1f4_ + List.length [false]) * (1 : Nat) ≤ room ∧ ((0 : Int) ≤ y1s5_ ∧ y1s5_ < A7_) ∧ ifB (decide (ii_ y1f1_ (n_ y1s5_) ≥ (0 : Int))) (((0 : Int) ≤ y1s5_ ∧ y1s5_ < A7_) ∧ ((0 : Int) ≤ y1s5_ ∧ y1s5_ < A7_) ∧ ((0 : Int) ≤ ii_ y1f1_ (n_ y1s5_) ∧ ii_ y1f1_ (n_ y1s5_) < (↑(List.length A9_) : Int)) ∧ ifB (Ty.ix Ty.bool A9_ A4_) (((0 : Int) ≤ ii_ y1f1_ (n_ y1s5_) ∧ ii_ y1f1_ (n_ y1s5_) < (↑(List.length A9_) : Int)) ∧ Holds (Prod.fst y1 = xs ∧ y1f1_ = gs ∧ (0 : Int) ≤ w_ A2_ ∧ w_ A2_ ≤ A8_ ∧ List.set A9_ A4_ true = awkF xs A5_) ∧ n_ A6_ < n_ (A3_ - y1s5_)) (((0 : Int) ≤ y1s5_ ∧ y1s5_ < A3_) ∧ ((0 : Int) ≤ ii_ y1f1_ (n_ y1s5_) ∧ ii_ y1f1_ (n_ y1s5_) < (↑(List.length A9_) : Int)) ∧ Holds (Prod.fst y1 = xs ∧ y1f1_ = gs ∧ (0 : Int) ≤ w_ A2_ ∧ w_ A2_ ≤ A8_ ∧ (List.set A9_ A4_ !decide (Body.Quiet (Ty.ix Ty.body y1f0_ (n_ y1s5_)) ≥ (8 : Int))) = awkF xs A5_) ∧ n_ A6_ < n_ (A3_ - y1s5_))) (Holds (Prod.fst y1 = xs ∧ y1f1_ = gs ∧ (0 : Int) ≤ w_ A2_ ∧ w_ A2_ ≤ A8_ ∧ y1f4_ ++ [false] = awkF xs A5_) ∧ n_ A6_ < n_ (A3_ - y1s5_))) (((0 : Int) ≤ y1s5_ ∧ y1s5_ < A7_) ∧ ifB (decide (ii_ y1f1_ (n_ y1s5_) ≥ (0 : Int))) (((0 : Int) ≤ y1s5_ ∧ y1s5_ < A7_) ∧ ((0 : Int) ≤ y1s5_ ∧ y1s5_ < A7_) ∧ ((0 : Int) ≤ ii_ y1f1_ (n_ y1s5_) ∧ ii_ y1f1_ (n_ y1s5_) < (↑(List.length y1f4_) : Int)) ∧ ifB (Ty.ix Ty.bool y1f4_ A4_) (((0 : Int) ≤ ii_ y1f1_ (n_ y1s5_) ∧ ii_ y1f1_ (n_ y1s5_) < (↑(List.length y1f4_) : Int)) ∧ Holds (Prod.fst y1 = xs ∧ y1f1_ = gs ∧ (0 : Int) ≤ w_ A2_ ∧ w_ A2_ ≤ A8_ ∧ List.set y1f4_ A4_ true = awkF xs A5_) ∧ n_ A6_ < n_ (A3_ - y1s5_)) (((0 : Int) ≤ y1s5_ ∧ y1s5_ < A3_) ∧ ((0 : Int) ≤ ii_ y1f1_ (n_ y1s5_) ∧ ii_ y1f1_ (n_ y1s5_) < (↑(List.length y1f4_) : Int)) ∧ Holds (Prod.fst y1 = xs ∧ y1f1_ = gs ∧ (0 : Int) ≤ w_ A2_ ∧ w_ A2_ ≤ A8_ ∧ (List.set y1f4_ A4_ !decide (Body.Quiet (Ty.ix Ty.body y1f0_ (n_ y1s5_)) ≥ (8 : Int))) = awkF xs A5_) ∧ n_ A6_ < n_ (A3_ - y1s5_))) (Holds (Prod.fst y1 = xs ∧ y1f1_ = gs ∧ (0 : Int) ≤ w_ A2_ ∧ w_ A2_ ≤ A8_ ∧ y1f4_ = awkF xs A5_) ∧ n_ A6_ < n_ (A3_ - y1s5_)))) (Q (SV.vec (2 : Nat)) [(false, Blk.vec Ty.body y1f0_), (false, Blk.vec Ty.int y1f1_), (true, Blk.vec Ty.bool y1f4_)])) := by kernel_rfl

theorem ok_l7Awake : FsOk Tryz.prog 98 fs_l7Awake := fsOk_of tt_ok (tabFs_cons ok_l6Sleeps tabFs_nil) mixed Tryz.func98 (by kernel_rfl) (by kernel_rfl) (by
    intro args LL p r HH h hp
    unfold fs_l7Awake at h
    dsimp only at h
    split at h
    case h_2 => cases h
    rename_i xs gs
    simp only [Option.some.injEq, Prod.mk.injEq] at h
    obtain ⟨rfl, rfl, rfl⟩ := h
    refine ⟨by simp [Form, stays], (L_sawake), ?_⟩
    rw [vc_l7Awake]
    try dsimp only
    obtain ⟨hok, hG⟩ := hp _ rfl
    have hl := bodiesOk_len hok
    have hgl : (groupsX xs).length = xs.length := by simp only [groupsX, length_gen]
    refine ⟨⟨(by trivial), (by trivial), by omega, by omega, rfl⟩, ?_⟩
    rintro ⟨xs', gs', u, v, out, i⟩ ⟨h⟩
    dsimp only at h ⊢
    obtain ⟨rfl, rfl, i0, i1, rfl⟩ := h
    subst hG
    refine ifB_of (fun c => ?_) (fun c => ?_)
    · have c := of_decide_eq_true c
      have hi : i.toNat < xs'.length := by omega
      have e1 : (i + 1).toNat = i.toNat + 1 := by omega
      have w : IntKind.i64.wrap (i + 1) = i + 1 := wrap_small (by omega) (by omega)
      have hg : Ty.ix .int (groupsX xs') i.toNat = gOf xs' xs'.length i.toNat := ix_gen (T := .int) hi
      have hle := length_awkF xs' i.toNat
      have hll := lead_len hi
      have hga := gOf_all hi
      have hns := num_succ xs' i.toNat
      have hnl := num_le xs' i.toNat
      have hqq : decide ((Ty.ix .body xs' i.toNat).Quiet ≥ 8) = ((Ty.ix .body xs' i.toNat).Quiet == 8) := by
        have h1 := bodiesOk_each hok hi
        simp only [bodyOk, Bool.and_eq_true, isIn, decide_eq_true_eq] at h1
        have h8 := h1.1.2
        rw [Bool.eq_iff_iff]
        simp only [decide_eq_true_eq, beq_iff_eq]
        omega
      rw [w, e1, hg, hle, hqq]
      cases f : freeB xs' i.toNat with
      | false =>
        rw [f] at hga
        have hga : gOf xs' xs'.length i.toNat = -1 := hga
        rw [hga]
        have fin : awkF xs' i.toNat = awkF xs' (i.toNat + 1) := (awk_fixed f).symm
        refine ⟨⟨i0, by omega⟩, ifB_of (fun d => ?_) (fun d => ⟨⟨i0, by omega⟩, ifB_of (fun d2 => ?_) (fun d2 => ⟨⟨(by trivial), (by trivial), by omega, by omega, fin⟩, by omega⟩)⟩)⟩
        · have d : (-1 : Int) = (numX xs' i.toNat : Int) := eq_of_beq d
          omega
        · exact absurd d2 (by decide)
      | true =>
        rw [f] at hga
        have hga : gOf xs' xs'.length i.toNat = (numX xs' (cmX xs' i.toNat) : Int) := hga
        have hin := num_in f
        rw [hga] at hll ⊢
        have hpos : ¬ decide ((numX xs' (cmX xs' i.toNat) : Int) ≥ 0) = false := by
          rw [decide_eq_true (by omega)]
          simp
        have same0 : ∀ {out : List Bool} {m : Nat} {v : Bool}, m < out.length → Ty.ix .bool out m = v → out.set m v = out := by
          rintro out m v hm rfl
          exact set_ix (T := .bool) out hm
        have key : ∀ {out : List Bool}, (bif !((Ty.ix .body xs' i.toNat).Quiet == 8) then out.set (numX xs' (cmX xs' i.toNat)) true else out) = awkF xs' (i.toNat + 1) → numX xs' (cmX xs' i.toNat) < out.length → ∀ b : Bool, Ty.ix .bool out (numX xs' (cmX xs' i.toNat)) = b →
            out.set (numX xs' (cmX xs' i.toNat)) (bif b then true else !((Ty.ix .body xs' i.toNat).Quiet == 8)) = awkF xs' (i.toNat + 1) := by
          intro out h1 h2 b h3
          rw [← h1]
          cases q : (Ty.ix .body xs' i.toNat).Quiet == 8
          · cases b <;> rfl
          · cases b
            · exact same0 h2 h3
            · exact same0 h2 h3
        refine ⟨⟨i0, by omega⟩, ifB_of (fun d => ⟨by simp only [room, List.length_singleton]; omega, ⟨i0, by omega⟩, ifB_of (fun _ => ⟨⟨i0, by omega⟩, ⟨i0, by omega⟩, ⟨by omega, ?_⟩, ifB_of (fun d3 => ⟨⟨by omega, ?_⟩, ⟨(by trivial), (by trivial), by omega, by omega, ?_⟩, by omega⟩) (fun d3 => ⟨⟨i0, c⟩, ⟨by omega, ?_⟩, ⟨(by trivial), (by trivial), by omega, by omega, ?_⟩, by omega⟩)⟩) (fun d2 => absurd d2 hpos)⟩)
          (fun d => ⟨⟨i0, by omega⟩, ifB_of (fun _ => ⟨⟨i0, by omega⟩, ⟨i0, by omega⟩, ⟨by omega, ?_⟩, ifB_of (fun d3 => ⟨⟨by omega, ?_⟩, ⟨(by trivial), (by trivial), by omega, by omega, ?_⟩, by omega⟩) (fun d3 => ⟨⟨i0, c⟩, ⟨by omega, ?_⟩, ⟨(by trivial), (by trivial), by omega, by omega, ?_⟩, by omega⟩)⟩) (fun d2 => absurd d2 hpos)⟩)⟩
        all_goals
          have d : Grp.lead (freeB xs') (cmX xs') i.toNat = _ := hll.symm.trans d
          rw [d] at hns
        case refine_1 | refine_2 | refine_4 =>
          simp only [cond_true] at hns
          exact Int.ofNat_lt.2 (by rw [List.length_append, hle, List.length_singleton]; omega)
        case refine_3 =>
          simp only [cond_true] at hns
          exact key (awk_free f d rfl).symm (by simp only [cond_true]; rw [List.length_append, hle, List.length_singleton]; omega) true d3
        case refine_5 =>
          simp only [cond_true] at hns
          exact key (awk_free f d rfl).symm (by simp only [cond_true]; rw [List.length_append, hle, List.length_singleton]; omega) false d3
        case refine_6 | refine_7 | refine_9 =>
          simp only [cond_false] at hns
          exact Int.ofNat_lt.2 (by omega)
        case refine_8 =>
          simp only [cond_false] at hns
          have := awk_free f d rfl
          simp only [cond_false, List.append_nil] at this
          exact key this.symm (by omega) true d3
        case refine_10 =>
          simp only [cond_false] at hns
          have := awk_free f d rfl
          simp only [cond_false, List.append_nil] at this
          exact key this.symm (by omega) false d3
    · have c := of_decide_eq_false c
      rw [show i.toNat = xs'.length by omega]
      exact ⟨(by trivial), (by trivial)⟩)

end
end Go.Proofs.YtnahfbjdicjdpaaGreat.Sym

namespace Go.Proofs.YtnahfbjdicjdpaaGreat.Sym
open Go
set_option linter.unusedVariables false
set_option linter.unusedSimpArgs false
set_option maxRecDepth 100000
noncomputable section

theorem quiet_ok2 {xs : List Body} (h : bodiesOk xs = true) {k : Nat} (hk : k < xs.length) : decide ((Ty.ix .body xs k).Quiet ≥ 8) = ((Ty.ix .body xs k).Quiet == 8) := by
  have := (bok_iff.1 (bodiesOk_each h hk)).2.2.2.2.2.2.2.1
  rw [Bool.eq_iff_iff]
  simp only [decide_eq_true_eq, beq_iff_eq]
  omega
theorem moves_ok2 {xs : List Body} (h : bodiesOk xs = true) {k : Nat} (hk : k < xs.length) : moves (Ty.ix .body xs k) = (decide ((Ty.ix .body xs k).Mass > 0) && !decide ((Ty.ix .body xs k).Quiet ≥ 8)) := moves_iff (bodiesOk_each h hk)
theorem wakeS_stay {xs : List Body} {gs : List Int} {ws : List Bool} {k : Nat} (h : ((Ty.ix .body xs k).Quiet == 8 && Ty.ix .bool ws (gi gs k).toNat) = false) : wakeS gs ws k (Ty.ix .body xs k) = Ty.ix .body xs k := by
  unfold wakeS
  rw [h]
  rfl
def LSl9w  : LS where
  S := List Body × List Int × List Bool × Unit × Unit × List Body × Int
  live := [(1, [none]), (2, [none]), (7, [some .body]), (8, [none])]
  shape := fun s => ([.vec 1, .vec 2, .vec 3, .int .i64 s.2.2.2.2.2.2], [(false, .vec .body s.1), (false, .vec .int s.2.1), (false, .vec .bool s.2.2.1), (true, .vec .body s.2.2.2.2.2.1)])
  get := fun v h => match v, h with
    | [.vec 1, .vec 2, .vec 3, .int .i64 i], [(false, .vec .body xs), (false, .vec .int gs), (false, .vec .bool ws), (true, .vec .body ys)] => some (xs, gs, ws, (), (), ys, i)
    | _, _ => none
  inv := fun s0 s => Holds (s.1 = s0.1 ∧ s.2.1 = s0.2.1 ∧ s.2.2.1 = s0.2.2.1 ∧ 0 ≤ s.2.2.2.2.2.2 ∧ s.2.2.2.2.2.2 ≤ s0.1.length ∧ s.2.2.2.2.2.1 = fill (fun e => wakeS s0.2.1 s0.2.2.1 e (Ty.ix .body s0.1 e)) s0.1 s.2.2.2.2.2.2.toNat)
  mu := fun s => ((s.1.length : Int) - s.2.2.2.2.2.2).toNat
  ok := by
    intro v h s hg
    try dsimp only at hg
    split at hg <;> cases hg
    rfl

def L_l9w : Loops := fun n => match n with
  | 3 => some LSl9w
  | _ => none
noncomputable def fs_l9Wake : Fs := ⟨[], fun args H => match args, H with
  | [.vec 0, .vec 1, .vec 2], [(false, .vec .body xs), (false, .vec .int gs), (false, .vec .bool ws)] => some ((some (bodiesOk xs = true ∧ gs = groupsX xs ∧ ws = awkF xs xs.length)), .vec 3, [(false, .vec .body xs), (false, .vec .int gs), (false, .vec .bool ws), (true, .vec .body (wokenF xs))])
  | _, _ => none⟩

theorem vc_l9Wake (xs : List Body) (gs : List Int) (ws : List Bool) (Q : SV → List Ent → Prop) :
    fnVC tt (look [(67, fs_specCopyB), (71, fs_l6Sleeps)]) (L_l9w) Tryz.f99 [.vec 0, .vec 1, .vec 2] [(false, .vec .body xs), (false, .vec .int gs), (false, .vec .bool ws)] Q =
    (let w_ := IntKind.wrap IntKind.i64; let n_ := Int.toNat; let ib_ := Ty.ix Ty.body; List.length xs ≤ (1048576 : Nat) ∧ Holds (xs = xs ∧ gs = gs ∧ ws = ws ∧ (0 : Int) ≤ (0 : Int) ∧ (0 : Int) ≤ (↑(List.length xs) : Int) ∧ xs = fill (fun e => wakeS gs ws e (ib_ xs e)) xs (n_ (0 : Int))) ∧ ∀ (y1 : List Body × List Int × List Bool × Unit × Unit × List Body × Int), let y1f0_ := Prod.fst y1; let y1s1_ := Prod.snd y1; let y1f1_ := Prod.fst (Prod.snd y1); let y1f2_ := Prod.fst (Prod.snd (Prod.snd y1)); let y1s5_ := Prod.snd (Prod.snd (Prod.snd (Prod.snd (Prod.snd y1)))); let y1f5_ := Prod.fst (Prod.snd (Prod.snd (Prod.snd (Prod.snd (Prod.snd y1))))); let y1s6_ := Prod.snd (Prod.snd (Prod.snd (Prod.snd (Prod.snd (Prod.snd y1))))); let A5_ := ((↑(List.length y1f0_) : Int) - y1s6_); let A2_ := (Prod.snd y1s5_ + (1 : Int)); let A4_ := (n_ (w_ A2_)); let A3_ := ((↑(List.length y1f0_) : Int) - w_ A2_); Holds (Prod.fst y1 = xs ∧ y1f1_ = gs ∧ y1f2_ = ws ∧ (0 : Int) ≤ y1s6_ ∧ y1s6_ ≤ (↑(List.length xs) : Int) ∧ y1f5_ = fill (fun e => wakeS gs ws e (ib_ xs e)) xs (n_ y1s6_)) → ifB (decide (Prod.snd y1s5_ < (↑(List.length y1f5_) : Int))) (((0 : Int) ≤ y1s6_ ∧ y1s6_ < (↑(List.length y1f1_) : Int)) ∧ ifB (decide (Ty.ix Ty.int y1f1_ (n_ y1s6_) ≥ (0 : Int))) (((0 : Int) ≤ y1s6_ ∧ y1s6_ < (↑(List.length y1f1_) : Int)) ∧ ((0 : Int) ≤ Ty.ix Ty.int y1f1_ (n_ y1s6_) ∧ Ty.ix Ty.int y1f1_ (n_ y1s6_) < (↑(List.length y1f2_) : Int)) ∧ ifB (Ty.ix Ty.bool y1f2_ (n_ (Ty.ix Ty.int y1f1_ (n_ y1s6_)))) (((0 : Int) ≤ y1s6_ ∧ y1s6_ < (↑(List.length y1f5_) : Int)) ∧ ifB (decide (Body.Quiet (ib_ y1f5_ (n_ y1s6_)) ≥ (8 : Int))) (((0 : Int) ≤ y1s6_ ∧ y1s6_ < (↑(List.length y1f5_) : Int)) ∧ Holds (Prod.fst y1 = xs ∧ y1f1_ = gs ∧ y1f2_ = ws ∧ (0 : Int) ≤ w_ A2_ ∧ w_ A2_ ≤ (↑(List.length xs) : Int) ∧ setC Ty.body y1f5_ (n_ y1s6_) ((0 : Nat) + (11 : Nat)) [SV.int IntKind.i64 (0 : Int)] = fill (fun e => wakeS gs ws e (ib_ xs e)) xs A4_) ∧ n_ A3_ < n_ A5_) (Holds (Prod.fst y1 = xs ∧ y1f1_ = gs ∧ y1f2_ = ws ∧ (0 : Int) ≤ w_ A2_ ∧ w_ A2_ ≤ (↑(List.length xs) : Int) ∧ y1f5_ = fill (fun e => wakeS gs ws e (ib_ xs e)) xs A4_) ∧ n_ A3_ < n_ A5_)) (Holds (Prod.fst y1 = xs ∧ y1f1_ = gs ∧ y1f2_ = ws ∧ (0 : Int) ≤ w_ A2_ ∧ w_ A2_ ≤ (↑(List.length xs) : Int) ∧ y1f5_ = fill (fun e => wakeS gs ws e (ib_ xs e)) xs A4_) ∧ n_ A3_ < n_ A5_)) (Holds (Prod.fst y1 = xs ∧ y1f1_ = gs ∧ y1f2_ = ws ∧ (0 : Int) ≤ w_ A2_ ∧ w_ A2_ ≤ (↑(List.length xs) : Int) ∧ y1f5_ = fill (fun e => wakeS gs ws e (ib_ xs e)) xs A4_) ∧ n_ A3_ < n_ A5_)) (Q (SV.vec (3 : Nat)) [(false, Blk.vec Ty.body y1f0_), (false, Blk.vec Ty.int y1f1_), (false, Blk.vec Ty.bool y1f2_), (true, Blk.vec Ty.body y1f5_)])) := by kernel_rfl

theorem ok_l9Wake : FsOk Tryz.prog 99 fs_l9Wake := fsOk_of tt_ok (tabFs_cons ok_specCopyB (tabFs_cons ok_l6Sleeps tabFs_nil)) mixed Tryz.func99 (by kernel_rfl) (by kernel_rfl) (by
    intro args LL p r HH h hp
    unfold fs_l9Wake at h
    dsimp only at h
    split at h
    case h_2 => cases h
    rename_i xs gs ws
    simp only [Option.some.injEq, Prod.mk.injEq] at h
    obtain ⟨rfl, rfl, rfl⟩ := h
    refine ⟨by simp [Form, stays], (L_l9w), ?_⟩
    rw [vc_l9Wake]
    try dsimp only
    obtain ⟨hok, hG, hW⟩ := hp _ rfl
    have hl := bodiesOk_len hok
    have hgl : (groupsX xs).length = xs.length := by simp only [groupsX, length_gen]
    have hwl := length_awkF xs xs.length
    refine ⟨by omega, ⟨(by trivial), (by trivial), (by trivial), by omega, by omega, (fill_zero _ _).symm⟩, ?_⟩
    rintro ⟨xs', gs', ws', u, v, ys, i⟩ ⟨h⟩
    dsimp only at h ⊢
    obtain ⟨rfl, rfl, rfl, i0, i1, h5⟩ := h
    subst hG hW
    have hyl : ys.length = xs'.length := by rw [h5]; exact length_fill _ _ (by omega)
    refine ifB_of (fun c => ?_) (fun c => ?_)
    · have c := of_decide_eq_true c
      have hi : i.toNat < xs'.length := by omega
      have e1 : (i + 1).toNat = i.toNat + 1 := by omega
      have w : IntKind.i64.wrap (i + 1) = i + 1 := wrap_small (by omega) (by omega)
      have hf := (fill_ix h5 hi).2
      have hq := quiet_ok2 hok hi
      have hgi : Ty.ix .int (groupsX xs') i.toNat = gOf xs' xs'.length i.toNat := ix_gen (T := .int) hi
      rw [w, e1, hf, hq]
      have stay : ((Ty.ix .body xs' i.toNat).Quiet == 8 && Ty.ix .bool (awkF xs' xs'.length) (gi (groupsX xs') i.toNat).toNat) = false → ys = fill (fun e => wakeS (groupsX xs') (awkF xs' xs'.length) e (Ty.ix .body xs' e)) xs' (i.toNat + 1) := fun z => fill_stay h5 hi (wakeS_stay z)
      refine ⟨⟨i0, by omega⟩, ifB_of (fun d => ⟨⟨i0, by omega⟩, ⟨of_decide_eq_true d, ?_⟩, ifB_of (fun d2 => ⟨⟨i0, c⟩, ifB_of (fun d3 => ⟨⟨i0, c⟩, ⟨(by trivial), (by trivial), (by trivial), by omega, by omega, ?_⟩, by omega⟩) (fun d3 => ⟨⟨(by trivial), (by trivial), (by trivial), by omega, by omega, stay ?_⟩, by omega⟩)⟩) (fun d2 => ⟨⟨(by trivial), (by trivial), (by trivial), by omega, by omega, stay ?_⟩, by omega⟩)⟩) (fun d => ⟨⟨(by trivial), (by trivial), (by trivial), by omega, by omega, stay ?_⟩, by omega⟩)⟩
      · have f := group_free hi (show 0 ≤ gi (groupsX xs') i.toNat from of_decide_eq_true d)
        rw [hgi, gOf_all hi, f]
        have h1 := num_in f
        have h2 := Grp.num_mono (freeB xs') (cmX xs') (show i.toNat + 1 ≤ xs'.length from hi)
        have h3 : numX xs' (cmX xs' i.toNat) < (awkF xs' xs'.length).length := by rw [hwl]; exact Nat.lt_of_lt_of_le h1 h2
        exact Int.ofNat_lt.2 h3
      · have d2 : Ty.ix .bool (awkF xs' xs'.length) (gi (groupsX xs') i.toNat).toNat = true := d2
        rw [setC_quiet, hf]
        refine fill_go h5 hi ?_
        unfold wakeS
        rw [d3, d2]
        rfl
      · rw [d3, Bool.false_and]
      · have d2 : Ty.ix .bool (awkF xs' xs'.length) (gi (groupsX xs') i.toNat).toNat = false := d2
        rw [d2, Bool.and_false]
      · have d : ¬ Ty.ix .int (groupsX xs') i.toNat ≥ 0 := of_decide_eq_false d
        cases q : (Ty.ix .body xs' i.toNat).Quiet == 8 with
        | false => rw [Bool.false_and]
        | true =>
          have f := groups_in hok hi q
          rw [hgi, gOf_all hi, f] at d
          exact absurd (Int.natCast_nonneg _) d
    · have c := of_decide_eq_false c
      rw [fill_map (f := wakeS (groupsX xs') (awkF xs' xs'.length)) h5 (by omega)]
      exact ⟨(by trivial), (by trivial)⟩)

def LSl9pl  : LS where
  S := List Body × Int × List Body × Int
  live := [(1, [none]), (5, [some .body]), (6, [none])]
  shape := fun s => ([.int .i64 s.2.1, .vec 1, .int .i64 s.2.2.2], [(false, .vec .body s.1), (true, .vec .body s.2.2.1)])
  get := fun v h => match v, h with
    | [.int .i64 pull, .vec 1, .int .i64 i], [(false, .vec .body xs), (true, .vec .body ys)] => some (xs, pull, ys, i)
    | _, _ => none
  inv := fun s0 s => Holds (s.1 = s0.1 ∧ s.2.1 = s0.2.1 ∧ 0 ≤ s.2.2.2 ∧ s.2.2.2 ≤ s0.1.length ∧ s.2.2.1 = fill (fun e => pullS s0.2.1 e (Ty.ix .body s0.1 e)) s0.1 s.2.2.2.toNat)
  mu := fun s => ((s.1.length : Int) - s.2.2.2).toNat
  ok := by
    intro v h s hg
    try dsimp only at hg
    split at hg <;> cases hg
    rfl

def L_l9pl : Loops := fun n => match n with
  | 3 => some LSl9pl
  | _ => none
noncomputable def fs_l9Pull : Fs := ⟨[], fun args H => match args, H with
  | [.vec 0, .int .i64 pull], [(false, .vec .body xs)] => some ((some (bodiesOk xs = true ∧ 0 ≤ pull ∧ pull ≤ 2560)), .vec 1, [(false, .vec .body xs), (true, .vec .body (mapX (pullS pull) xs))])
  | _, _ => none⟩

theorem vc_l9Pull (xs : List Body) (pull : Int) (Q : SV → List Ent → Prop) :
    fnVC tt (look [(67, fs_specCopyB), (71, fs_l6Sleeps), (127, fs_specWithin)]) (L_l9pl) Tryz.f102 [.vec 0, .int .i64 pull] [(false, .vec .body xs)] Q =
    (let w_ := IntKind.wrap IntKind.i64; let n_ := Int.toNat; let ib_ := Ty.ix Ty.body; List.length xs ≤ (1048576 : Nat) ∧ Holds (xs = xs ∧ pull = pull ∧ (0 : Int) ≤ (0 : Int) ∧ (0 : Int) ≤ (↑(List.length xs) : Int) ∧ xs = fill (fun e => pullS pull e (ib_ xs e)) xs (n_ (0 : Int))) ∧ ∀ (y1 : List Body × Int × List Body × Int), let y1f0_ := Prod.fst y1; let y1s1_ := Prod.snd y1; let y1f1_ := Prod.fst (Prod.snd y1); let y1s2_ := Prod.snd (Prod.snd y1); let y1f2_ := Prod.fst (Prod.snd (Prod.snd y1)); let y1s3_ := Prod.snd (Prod.snd (Prod.snd y1)); let A4_ := (↑(List.length y1f0_) : Int); let A3_ := (Prod.snd y1s2_ + (1 : Int)); let A2_ := (ib_ y1f2_ (n_ y1s3_)); Holds (Prod.fst y1 = xs ∧ y1f1_ = pull ∧ (0 : Int) ≤ y1s3_ ∧ y1s3_ ≤ (↑(List.length xs) : Int) ∧ y1f2_ = fill (fun e => pullS pull e (ib_ xs e)) xs (n_ y1s3_)) → ifB (decide (Prod.snd y1s2_ < (↑(List.length y1f2_) : Int))) (((0 : Int) ≤ y1s3_ ∧ y1s3_ < (↑(List.length y1f2_) : Int)) ∧ ifB (decide (Body.Mass A2_ > (0 : Int))) (ifB (!decide (Body.Quiet A2_ ≥ (8 : Int))) (((0 : Int) ≤ y1s3_ ∧ y1s3_ < (↑(List.length y1f2_) : Int)) ∧ Holds (Prod.fst y1 = xs ∧ y1f1_ = pull ∧ (0 : Int) ≤ w_ A3_ ∧ w_ A3_ ≤ (↑(List.length xs) : Int) ∧ List.set y1f2_ (n_ y1s3_) (Body.mk (Body.Id A2_) (Body.Shape A2_) (Body.At A2_) (Vec.mk (Vec.X (Body.Drive A2_)) (withinS (w_ (Vec.Y (Body.Drive A2_) - w_ (Prod.fst y1s1_ * Body.Mass A2_))) (20000000 : Int))) (Body.Mass A2_) (Body.Bounce A2_) (Body.Rub A2_) (Body.Quiet A2_)) = fill (fun e => pullS pull e (ib_ xs e)) xs (n_ (w_ A3_))) ∧ n_ (A4_ - w_ A3_) < n_ (A4_ - y1s3_)) (Holds (Prod.fst y1 = xs ∧ y1f1_ = pull ∧ (0 : Int) ≤ w_ A3_ ∧ w_ A3_ ≤ (↑(List.length xs) : Int) ∧ y1f2_ = fill (fun e => pullS pull e (ib_ xs e)) xs (n_ (w_ A3_))) ∧ n_ (A4_ - w_ A3_) < n_ (A4_ - y1s3_))) (Holds (Prod.fst y1 = xs ∧ y1f1_ = pull ∧ (0 : Int) ≤ w_ A3_ ∧ w_ A3_ ≤ (↑(List.length xs) : Int) ∧ y1f2_ = fill (fun e => pullS pull e (ib_ xs e)) xs (n_ (w_ A3_))) ∧ n_ (A4_ - w_ A3_) < n_ (A4_ - y1s3_))) (Q (SV.vec (1 : Nat)) [(false, Blk.vec Ty.body y1f0_), (true, Blk.vec Ty.body y1f2_)])) := by kernel_rfl

theorem ok_l9Pull : FsOk Tryz.prog 102 fs_l9Pull := fsOk_of tt_ok (tabFs_cons ok_specCopyB (tabFs_cons ok_l6Sleeps (tabFs_cons ok_specWithin tabFs_nil))) mixed Tryz.func102 (by kernel_rfl) (by kernel_rfl) (by
    intro args LL p r HH h hp
    unfold fs_l9Pull at h
    dsimp only at h
    split at h
    case h_2 => cases h
    rename_i pull xs
    simp only [Option.some.injEq, Prod.mk.injEq] at h
    obtain ⟨rfl, rfl, rfl⟩ := h
    refine ⟨by simp [Form, stays], (L_l9pl), ?_⟩
    rw [vc_l9Pull]
    try dsimp only
    obtain ⟨hok, p0, p1⟩ := hp _ rfl
    have hl := bodiesOk_len hok
    refine ⟨by omega, ⟨(by trivial), (by trivial), by omega, by omega, (fill_zero _ _).symm⟩, ?_⟩
    rintro ⟨xs', pl, ys, i⟩ ⟨h⟩
    dsimp only at h ⊢
    obtain ⟨rfl, rfl, i0, i1, h5⟩ := h
    have hyl : ys.length = xs'.length := by rw [h5]; exact length_fill _ _ (by omega)
    refine ifB_of (fun c => ?_) (fun c => ?_)
    · have c := of_decide_eq_true c
      have hi : i.toNat < xs'.length := by omega
      have e1 : (i + 1).toNat = i.toNat + 1 := by omega
      have w : IntKind.i64.wrap (i + 1) = i + 1 := wrap_small (by omega) (by omega)
      have hf := (fill_ix h5 hi).2
      have hb := bok_iff.1 (bodiesOk_each hok hi)
      have hmv := moves_ok2 hok hi
      rw [w, e1, hf]
      refine ⟨⟨i0, c⟩, ifB_of (fun d => ifB_of (fun d2 => ⟨⟨i0, c⟩, ⟨(by trivial), (by trivial), by omega, by omega, fill_go h5 hi ?_⟩, by omega⟩) (fun d2 => ⟨⟨(by trivial), (by trivial), by omega, by omega, fill_stay h5 hi ?_⟩, by omega⟩)) (fun d => ⟨⟨(by trivial), (by trivial), by omega, by omega, fill_stay h5 hi ?_⟩, by omega⟩)⟩
      · rw [d, d2] at hmv
        have hm := mul_le_mul0 p0 p1 hb.2.2.2.2.1.1 hb.2.2.2.2.1.2
        have hd := hb.2.2.2.1
        have e : withinS (W ((Ty.ix .body xs' i.toNat).Drive.Y - W (pl * (Ty.ix .body xs' i.toNat).Mass))) 20000000 = max (W ((Ty.ix .body xs' i.toNat).Drive.Y - W (pl * (Ty.ix .body xs' i.toNat).Mass))) (-20000000) := by
          rw [withinS_drive, withinI_drive, show W (pl * (Ty.ix .body xs' i.toNat).Mass) = pl * (Ty.ix .body xs' i.toNat).Mass from W_small (by omega) (by omega), W_small (by omega) (by omega)]
          unfold clampTo
          omega
        have e : withinS (IntKind.i64.wrap ((Ty.ix .body xs' i.toNat).Drive.Y - IntKind.i64.wrap (pl * (Ty.ix .body xs' i.toNat).Mass))) 20000000 = _ := e
        rw [e]
        unfold pullS
        rw [hmv]
        rfl
      · rw [d, d2] at hmv
        unfold pullS
        rw [hmv]
        rfl
      · rw [d] at hmv
        unfold pullS
        rw [hmv]
        rfl
    · have c := of_decide_eq_false c
      rw [fill_map (f := pullS pl) h5 (by omega)]
      exact ⟨(by trivial), (by trivial)⟩)

def LSl9lv  : LS where
  S := List Body × List Contact × Unit × Unit × List Contact × Int
  live := [(0, [none]), (1, [none]), (5, [some .contact]), (6, [none])]
  shape := fun s => ([.vec 0, .vec 1, .vec 2, .int .i64 s.2.2.2.2.2], [(false, .vec .body s.1), (false, .vec .contact s.2.1), (true, .vec .contact s.2.2.2.2.1)])
  get := fun v h => match v, h with
    | [.vec 0, .vec 1, .vec 2, .int .i64 i], [(false, .vec .body xs), (false, .vec .contact cs), (true, .vec .contact live)] => some (xs, cs, (), (), live, i)
    | _, _ => none
  inv := fun s0 s => Holds (s.1 = s0.1 ∧ s.2.1 = s0.2.1 ∧ 0 ≤ s.2.2.2.2.2 ∧ s.2.2.2.2.2 ≤ s0.2.1.length ∧ s.2.2.2.2.1 ++ liveF s0.1 (s0.2.1.drop s.2.2.2.2.2.toNat) = liveF s0.1 s0.2.1)
  mu := fun s => ((s.2.1.length : Int) - s.2.2.2.2.2).toNat
  ok := by
    intro v h s hg
    try dsimp only at hg
    split at hg <;> cases hg
    rfl

def L_l9lv : Loops := fun n => match n with
  | 3 => some LSl9lv
  | _ => none
noncomputable def fs_l9Live : Fs := ⟨[], fun args H => match args, H with
  | [.vec 0, .vec 1], [(false, .vec .body xs), (false, .vec .contact cs)] => some ((some (bodiesOk xs = true ∧ CtsOk xs.length cs)), .vec 2, [(false, .vec .body xs), (false, .vec .contact cs), (true, .vec .contact (liveF xs cs))])
  | _, _ => none⟩

theorem vc_l9Live (xs : List Body) (cs : List Contact) (Q : SV → List Ent → Prop) :
    fnVC tt (look [(71, fs_l6Sleeps)]) (L_l9lv) Tryz.f100 [.vec 0, .vec 1] [(false, .vec .body xs), (false, .vec .contact cs)] Q =
    (let w_ := IntKind.wrap IntKind.i64; let n_ := Int.toNat; let ic_ := Ty.ix Ty.contact; Holds (xs = xs ∧ cs = cs ∧ (0 : Int) ≤ (0 : Int) ∧ (0 : Int) ≤ (↑(List.length cs) : Int) ∧ [] ++ liveF xs (List.drop (n_ (0 : Int)) cs) = liveF xs cs) ∧ ∀ (y1 : List Body × List Contact × Unit × Unit × List Contact × Int), let y1f0_ := Prod.fst y1; let y1s1_ := Prod.snd y1; let y1f1_ := Prod.fst (Prod.snd y1); let y1s4_ := Prod.snd (Prod.snd (Prod.snd (Prod.snd y1))); let y1f4_ := Prod.fst (Prod.snd (Prod.snd (Prod.snd (Prod.snd y1)))); let y1s5_ := Prod.snd (Prod.snd (Prod.snd (Prod.snd (Prod.snd y1)))); let A8_ := (List.length y1f4_ + List.length [ic_ y1f1_ (n_ y1s5_)]); let A7_ := (↑(List.length cs) : Int); let A4_ := (ic_ y1f1_ (n_ y1s5_)); let A9_ := (Ty.ix Ty.body y1f0_ (n_ (Contact.B A4_))); let A3_ := (↑(List.length y1f1_) : Int); let A2_ := (Prod.snd y1s4_ + (1 : Int)); let A6_ := (A3_ - w_ A2_); let A5_ := (List.drop (n_ (w_ A2_)) cs); Holds (Prod.fst y1 = xs ∧ y1f1_ = cs ∧ (0 : Int) ≤ y1s5_ ∧ y1s5_ ≤ A7_ ∧ y1f4_ ++ liveF xs (List.drop (n_ y1s5_) cs) = liveF xs cs) → ifB (decide (Prod.snd y1s4_ < A3_)) (((0 : Int) ≤ y1s5_ ∧ y1s5_ < A3_) ∧ ((0 : Int) ≤ Contact.A A4_ ∧ Contact.A A4_ < (↑(List.length y1f0_) : Int)) ∧ ((0 : Int) ≤ y1s5_ ∧ y1s5_ < A3_) ∧ ((0 : Int) ≤ Contact.B A4_ ∧ Contact.B A4_ < (↑(List.length y1f0_) : Int)) ∧ ifB (decide (Body.Mass (Ty.ix Ty.body y1f0_ (n_ (Contact.A A4_))) > (0 : Int))) (ifB (!decide (Body.Quiet (Ty.ix Ty.body y1f0_ (n_ (Contact.A A4_))) ≥ (8 : Int))) (((0 : Int) ≤ y1s5_ ∧ y1s5_ < A3_) ∧ A8_ * (40 : Nat) ≤ room ∧ Holds (Prod.fst y1 = xs ∧ y1f1_ = cs ∧ (0 : Int) ≤ w_ A2_ ∧ w_ A2_ ≤ A7_ ∧ y1f4_ ++ [ic_ y1f1_ (n_ y1s5_)] ++ liveF xs A5_ = liveF xs cs) ∧ n_ A6_ < n_ (A3_ - y1s5_)) (ifB (decide (Body.Mass A9_ > (0 : Int))) (ifB (!decide (Body.Quiet A9_ ≥ (8 : Int))) (((0 : Int) ≤ y1s5_ ∧ y1s5_ < A3_) ∧ A8_ * (40 : Nat) ≤ room ∧ Holds (Prod.fst y1 = xs ∧ y1f1_ = cs ∧ (0 : Int) ≤ w_ A2_ ∧ w_ A2_ ≤ A7_ ∧ y1f4_ ++ [ic_ y1f1_ (n_ y1s5_)] ++ liveF xs A5_ = liveF xs cs) ∧ n_ A6_ < n_ (A3_ - y1s5_)) (Holds (Prod.fst y1 = xs ∧ y1f1_ = cs ∧ (0 : Int) ≤ w_ A2_ ∧ w_ A2_ ≤ A7_ ∧ y1f4_ ++ liveF xs A5_ = liveF xs cs) ∧ n_ A6_ < n_ (A3_ - y1s5_))) (Holds (Prod.fst y1 = xs ∧ y1f1_ = cs ∧ (0 : Int) ≤ w_ A2_ ∧ w_ A2_ ≤ A7_ ∧ y1f4_ ++ liveF xs A5_ = liveF xs cs) ∧ n_ A6_ < n_ (A3_ - y1s5_)))) (ifB (decide (Body.Mass A9_ > (0 : Int))) (ifB (!decide (Body.Quiet A9_ ≥ (8 : Int))) (((0 : Int) ≤ y1s5_ ∧ y1s5_ < A3_) ∧ A8_ * (40 : Nat) ≤ room ∧ Holds (Prod.fst y1 = xs ∧ y1f1_ = cs ∧ (0 : Int) ≤ w_ A2_ ∧ w_ A2_ ≤ A7_ ∧ y1f4_ ++ [ic_ y1f1_ (n_ y1s5_)] ++ liveF xs A5_ = liveF xs cs) ∧ n_ A6_ < n_ (A3_ - y1s5_)) (Holds (Prod.fst y1 = xs ∧ y1f1_ = cs ∧ (0 : Int) ≤ w_ A2_ ∧ w_ A2_ ≤ A7_ ∧ y1f4_ ++ liveF xs A5_ = liveF xs cs) ∧ n_ A6_ < n_ (A3_ - y1s5_))) (Holds (Prod.fst y1 = xs ∧ y1f1_ = cs ∧ (0 : Int) ≤ w_ A2_ ∧ w_ A2_ ≤ A7_ ∧ y1f4_ ++ liveF xs A5_ = liveF xs cs) ∧ n_ A6_ < n_ (A3_ - y1s5_)))) (Q (SV.vec (2 : Nat)) [(false, Blk.vec Ty.body y1f0_), (false, Blk.vec Ty.contact y1f1_), (true, Blk.vec Ty.contact y1f4_)])) := by kernel_rfl

theorem ok_l9Live : FsOk Tryz.prog 100 fs_l9Live := fsOk_of tt_ok (tabFs_cons ok_l6Sleeps tabFs_nil) mixed Tryz.func100 (by kernel_rfl) (by kernel_rfl) (by
    intro args LL p r HH h hp
    unfold fs_l9Live at h
    dsimp only at h
    split at h
    case h_2 => cases h
    rename_i xs cs
    simp only [Option.some.injEq, Prod.mk.injEq] at h
    obtain ⟨rfl, rfl, rfl⟩ := h
    refine ⟨by simp [Form, stays], (L_l9lv), ?_⟩
    rw [vc_l9Live]
    try dsimp only
    obtain ⟨hok, hct⟩ := hp _ rfl
    have hl := bodiesOk_len hok
    have hc0 := hct.1
    refine ⟨⟨(by trivial), (by trivial), by omega, by omega, (by trivial)⟩, ?_⟩
    rintro ⟨xs', cs', u, v, live, i⟩ ⟨h⟩
    dsimp only at h ⊢
    obtain ⟨rfl, rfl, i0, i1, h7⟩ := h
    have hll : (liveF xs' cs').length ≤ cs'.length := List.length_filter_le _ _
    have h7l := congrArg List.length h7
    rw [List.length_append] at h7l
    refine ifB_of (fun c => ?_) (fun c => ?_)
    · have c := of_decide_eq_true c
      have hik : i.toNat < cs'.length := by omega
      have e1 : (i + 1).toNat = i.toNat + 1 := by omega
      have w : IntKind.i64.wrap (i + 1) = i + 1 := wrap_small (by omega) (by omega)
      obtain ⟨a0, a1, b0, b1, _⟩ := hct.2 _ hik
      rw [liveF_drop hik, moves_ok2 hok (show (Ty.ix .contact cs' i.toNat).A.toNat < xs'.length by omega), moves_ok2 hok (show (Ty.ix .contact cs' i.toNat).B.toNat < xs'.length by omega)] at h7
      rw [w, e1]
      have yes : ∀ {us : List Contact}, us = [Ty.ix .contact cs' i.toNat] → live ++ (us ++ liveF xs' (cs'.drop (i.toNat + 1))) = liveF xs' cs' → live ++ [Ty.ix .contact cs' i.toNat] ++ liveF xs' (cs'.drop (i.toNat + 1)) = liveF xs' cs' := by
        rintro us rfl h
        rw [← h, List.append_assoc]
      refine ⟨⟨i0, c⟩, ⟨a0, a1⟩, ⟨i0, c⟩, ⟨b0, b1⟩, ifB_of (fun d1 => ifB_of (fun d2 => ⟨⟨i0, c⟩, by simp only [room, List.length_singleton]; omega, ⟨(by trivial), (by trivial), by omega, by omega, ?_⟩, by omega⟩)
        (fun d2 => ifB_of (fun d3 => ifB_of (fun d4 => ⟨⟨i0, c⟩, by simp only [room, List.length_singleton]; omega, ⟨(by trivial), (by trivial), by omega, by omega, ?_⟩, by omega⟩) (fun d4 => ⟨⟨(by trivial), (by trivial), by omega, by omega, ?_⟩, by omega⟩)) (fun d3 => ⟨⟨(by trivial), (by trivial), by omega, by omega, ?_⟩, by omega⟩)))
        (fun d1 => ifB_of (fun d3 => ifB_of (fun d4 => ⟨⟨i0, c⟩, by simp only [room, List.length_singleton]; omega, ⟨(by trivial), (by trivial), by omega, by omega, ?_⟩, by omega⟩) (fun d4 => ⟨⟨(by trivial), (by trivial), by omega, by omega, ?_⟩, by omega⟩)) (fun d3 => ⟨⟨(by trivial), (by trivial), by omega, by omega, ?_⟩, by omega⟩))⟩
      · rw [d1, d2] at h7
        exact yes rfl h7
      · rw [d1, d2, d3, d4] at h7
        exact yes rfl h7
      · rw [d1, d2, d3, d4] at h7
        exact h7
      · rw [d1, d2, d3] at h7
        exact h7
      · rw [d1, d3, d4] at h7
        exact yes rfl h7
      · rw [d1, d3, d4] at h7
        exact h7
      · rw [d1, d3] at h7
        exact h7
    · have c := of_decide_eq_false c
      rw [drop_end (by omega)] at h7
      have h7 : live = liveF xs' cs' := by simpa [liveF] using h7
      rw [h7]
      exact ⟨(by trivial), (by trivial)⟩)

def LSl9mv  : LS where
  S := List Body × List Body × Int
  live := [(3, [some .body]), (4, [none])]
  shape := fun s => ([.vec 1, .int .i64 s.2.2], [(false, .vec .body s.1), (true, .vec .body s.2.1)])
  get := fun v h => match v, h with
    | [.vec 1, .int .i64 i], [(false, .vec .body xs), (true, .vec .body ys)] => some (xs, ys, i)
    | _, _ => none
  inv := fun s0 s => Holds (s.1 = s0.1 ∧ 0 ≤ s.2.2 ∧ s.2.2 ≤ s0.1.length ∧ s.2.1 = fill (fun e => goS e (Ty.ix .body s0.1 e)) s0.1 s.2.2.toNat)
  mu := fun s => ((s.1.length : Int) - s.2.2).toNat
  ok := by
    intro v h s hg
    try dsimp only at hg
    split at hg <;> cases hg
    rfl

def L_l9mv : Loops := fun n => match n with
  | 3 => some LSl9mv
  | _ => none
noncomputable def fs_l9Moves : Fs := ⟨[], fun args H => match args, H with
  | [.vec 0], [(false, .vec .body xs)] => some ((some (bodiesOk xs = true)), .vec 1, [(false, .vec .body xs), (true, .vec .body (mapX goS xs))])
  | _, _ => none⟩

theorem vc_l9Moves (xs : List Body) (Q : SV → List Ent → Prop) :
    fnVC tt (look [(67, fs_specCopyB), (71, fs_l6Sleeps), (136, fs_specSpeed), (135, fs_specMoveB)]) (L_l9mv) Tryz.f104 [.vec 0] [(false, .vec .body xs)] Q =
    (let w_ := IntKind.wrap IntKind.i64; let n_ := Int.toNat; let ib_ := Ty.ix Ty.body; List.length xs ≤ (1048576 : Nat) ∧ Holds (xs = xs ∧ (0 : Int) ≤ (0 : Int) ∧ (0 : Int) ≤ (↑(List.length xs) : Int) ∧ xs = fill (fun e => goS e (ib_ xs e)) xs (n_ (0 : Int))) ∧ ∀ (y1 : List Body × List Body × Int), let y1f0_ := Prod.fst y1; let y1s1_ := Prod.snd y1; let y1f1_ := Prod.fst (Prod.snd y1); let y1s2_ := Prod.snd (Prod.snd y1); let A5_ := (ib_ y1f1_ (n_ y1s2_)); let A4_ := (↑(List.length y1f0_) : Int); let A3_ := (↑(List.length y1f1_) : Int); let A2_ := (Prod.snd y1s1_ + (1 : Int)); Holds (Prod.fst y1 = xs ∧ (0 : Int) ≤ y1s2_ ∧ y1s2_ ≤ (↑(List.length xs) : Int) ∧ y1f1_ = fill (fun e => goS e (ib_ xs e)) xs (n_ y1s2_)) → ifB (decide (Prod.snd y1s1_ < A3_)) (((0 : Int) ≤ y1s2_ ∧ y1s2_ < A3_) ∧ ifB (decide (Body.Mass A5_ > (0 : Int))) (((0 : Int) ≤ y1s2_ ∧ y1s2_ < A3_) ∧ ifB (!decide (Body.Quiet A5_ ≥ (8 : Int))) (((0 : Int) ≤ y1s2_ ∧ y1s2_ < A3_) ∧ ((0 : Int) ≤ y1s2_ ∧ y1s2_ < A3_) ∧ ((0 : Int) ≤ y1s2_ ∧ y1s2_ < A3_) ∧ Holds (Prod.fst y1 = xs ∧ (0 : Int) ≤ w_ A2_ ∧ w_ A2_ ≤ (↑(List.length xs) : Int) ∧ List.set y1f1_ (n_ y1s2_) (moveB A5_ (speed A5_)) = fill (fun e => goS e (ib_ xs e)) xs (n_ (w_ A2_))) ∧ n_ (A4_ - w_ A2_) < n_ (A4_ - y1s2_)) (Holds (Prod.fst y1 = xs ∧ (0 : Int) ≤ w_ A2_ ∧ w_ A2_ ≤ (↑(List.length xs) : Int) ∧ y1f1_ = fill (fun e => goS e (ib_ xs e)) xs (n_ (w_ A2_))) ∧ n_ (A4_ - w_ A2_) < n_ (A4_ - y1s2_))) (Holds (Prod.fst y1 = xs ∧ (0 : Int) ≤ w_ A2_ ∧ w_ A2_ ≤ (↑(List.length xs) : Int) ∧ y1f1_ = fill (fun e => goS e (ib_ xs e)) xs (n_ (w_ A2_))) ∧ n_ (A4_ - w_ A2_) < n_ (A4_ - y1s2_))) (Q (SV.vec (1 : Nat)) [(false, Blk.vec Ty.body y1f0_), (true, Blk.vec Ty.body y1f1_)])) := by kernel_rfl

theorem ok_l9Moves : FsOk Tryz.prog 104 fs_l9Moves := fsOk_of tt_ok (tabFs_cons ok_specCopyB (tabFs_cons ok_l6Sleeps (tabFs_cons ok_specSpeed (tabFs_cons ok_specMoveB tabFs_nil)))) mixed Tryz.func104 (by kernel_rfl) (by kernel_rfl) (by
    intro args LL p r HH h hp
    unfold fs_l9Moves at h
    dsimp only at h
    split at h
    case h_2 => cases h
    rename_i xs
    simp only [Option.some.injEq, Prod.mk.injEq] at h
    obtain ⟨rfl, rfl, rfl⟩ := h
    refine ⟨by simp [Form, stays], (L_l9mv), ?_⟩
    rw [vc_l9Moves]
    try dsimp only
    have hok := hp _ rfl
    have hl := bodiesOk_len hok
    refine ⟨by omega, ⟨(by trivial), by omega, by omega, (fill_zero _ _).symm⟩, ?_⟩
    rintro ⟨xs', ys, i⟩ ⟨h⟩
    dsimp only at h ⊢
    obtain ⟨rfl, i0, i1, h5⟩ := h
    have hyl : ys.length = xs'.length := by rw [h5]; exact length_fill _ _ (by omega)
    refine ifB_of (fun c => ?_) (fun c => ?_)
    · have c := of_decide_eq_true c
      have hi : i.toNat < xs'.length := by omega
      have e1 : (i + 1).toNat = i.toNat + 1 := by omega
      have w : IntKind.i64.wrap (i + 1) = i + 1 := wrap_small (by omega) (by omega)
      have hf := (fill_ix h5 hi).2
      have hmv := moves_ok2 hok hi
      rw [w, e1, hf]
      refine ⟨⟨i0, c⟩, ifB_of (fun d => ⟨⟨i0, c⟩, ifB_of (fun d2 => ⟨⟨i0, c⟩, ⟨i0, c⟩, ⟨i0, c⟩, ⟨(by trivial), by omega, by omega, fill_go h5 hi ?_⟩, by omega⟩) (fun d2 => ⟨⟨(by trivial), by omega, by omega, fill_stay h5 hi ?_⟩, by omega⟩)⟩) (fun d => ⟨⟨(by trivial), by omega, by omega, fill_stay h5 hi ?_⟩, by omega⟩)⟩
      · rw [d, d2] at hmv
        unfold goS
        rw [hmv]
        rfl
      · rw [d, d2] at hmv
        unfold goS
        rw [hmv]
        rfl
      · rw [d] at hmv
        unfold goS
        rw [hmv]
        rfl
    · have c := of_decide_eq_false c
      rw [fill_map (f := goS) h5 (by omega)]
      exact ⟨(by trivial), (by trivial)⟩)

def LSl9q  : LS where
  S := List Body × List Body × Unit × List Body × Int
  live := [(1, [none]), (5, [some .body]), (6, [none])]
  shape := fun s => ([.vec 1, .vec 2, .int .i64 s.2.2.2.2], [(false, .vec .body s.1), (false, .vec .body s.2.1), (true, .vec .body s.2.2.2.1)])
  get := fun v h => match v, h with
    | [.vec 1, .vec 2, .int .i64 i], [(false, .vec .body xs), (false, .vec .body was), (true, .vec .body ys)] => some (xs, was, (), ys, i)
    | _, _ => none
  inv := fun s0 s => Holds (s.1 = s0.1 ∧ s.2.1 = s0.2.1 ∧ 0 ≤ s.2.2.2.2 ∧ s.2.2.2.2 ≤ s0.1.length ∧ s.2.2.2.1 = fill (fun e => quietS s0.2.1 e (Ty.ix .body s0.1 e)) s0.1 s.2.2.2.2.toNat)
  mu := fun s => ((s.1.length : Int) - s.2.2.2.2).toNat
  ok := by
    intro v h s hg
    try dsimp only at hg
    split at hg <;> cases hg
    rfl

def L_l9q : Loops := fun n => match n with
  | 3 => some LSl9q
  | _ => none
noncomputable def fs_l9Quiet : Fs := ⟨[], fun args H => match args, H with
  | [.vec 0, .vec 1], [(false, .vec .body xs), (false, .vec .body was)] => some ((some (bodiesOk xs = true ∧ bodiesOk was = true ∧ was.length = xs.length)), .vec 2, [(false, .vec .body xs), (false, .vec .body was), (true, .vec .body (mapX (quietS was) xs))])
  | _, _ => none⟩

theorem vc_l9Quiet (xs : List Body) (was : List Body) (Q : SV → List Ent → Prop) :
    fnVC tt (look [(67, fs_specCopyB), (71, fs_l6Sleeps), (136, fs_specSpeed), (62, fs_l1In), (131, fs_l3Less)]) (L_l9q) Tryz.f106 [.vec 0, .vec 1] [(false, .vec .body xs), (false, .vec .body was)] Q =
    (let w_ := IntKind.wrap IntKind.i64; let s_ := SV.int IntKind.i64; let n_ := Int.toNat; let ib_ := Ty.ix Ty.body; List.length xs ≤ (1048576 : Nat) ∧ Holds (xs = xs ∧ was = was ∧ (0 : Int) ≤ (0 : Int) ∧ (0 : Int) ≤ (↑(List.length xs) : Int) ∧ xs = fill (fun e => quietS was e (ib_ xs e)) xs (n_ (0 : Int))) ∧ ∀ (y1 : List Body × List Body × Unit × List Body × Int), let y1f0_ := Prod.fst y1; let y1s1_ := Prod.snd y1; let y1f1_ := Prod.fst (Prod.snd y1); let y1s3_ := Prod.snd (Prod.snd (Prod.snd y1)); let y1f3_ := Prod.fst (Prod.snd (Prod.snd (Prod.snd y1))); let y1s4_ := Prod.snd (Prod.snd (Prod.snd (Prod.snd y1))); let A8_ := (↑(List.length y1f3_) : Int); let A7_ := (ib_ y1f3_ (n_ y1s4_)); let A6_ := (↑(List.length xs) : Int); let A5_ := ((↑(List.length y1f0_) : Int) - y1s4_); let A2_ := (Prod.snd y1s3_ + (1 : Int)); let A4_ := (n_ (w_ A2_)); let A3_ := ((↑(List.length y1f0_) : Int) - w_ A2_); Holds (Prod.fst y1 = xs ∧ y1f1_ = was ∧ (0 : Int) ≤ y1s4_ ∧ y1s4_ ≤ A6_ ∧ y1f3_ = fill (fun e => quietS was e (ib_ xs e)) xs (n_ y1s4_)) → ifB (decide (Prod.snd y1s3_ < A8_)) (((0 : Int) ≤ y1s4_ ∧ y1s4_ < A8_) ∧ ifB (Body.Mass A7_ == (0 : Int)) (Holds (Prod.fst y1 = xs ∧ y1f1_ = was ∧ (0 : Int) ≤ w_ A2_ ∧ w_ A2_ ≤ A6_ ∧ y1f3_ = fill (fun e => quietS was e (ib_ xs e)) xs A4_) ∧ n_ A3_ < n_ A5_) (((0 : Int) ≤ y1s4_ ∧ y1s4_ < A8_) ∧ ifB (decide (Body.Quiet A7_ ≥ (8 : Int))) (Holds (Prod.fst y1 = xs ∧ y1f1_ = was ∧ (0 : Int) ≤ w_ A2_ ∧ w_ A2_ ≤ A6_ ∧ y1f3_ = fill (fun e => quietS was e (ib_ xs e)) xs A4_) ∧ n_ A3_ < n_ A5_) (((0 : Int) ≤ y1s4_ ∧ y1s4_ < A8_) ∧ ((0 : Int) ≤ y1s4_ ∧ y1s4_ < A8_) ∧ ifB (isIn (Vec.X (speed A7_)) (-8 : Int) (8 : Int)) (ifB (isIn (Vec.Y (speed A7_)) (-8 : Int) (8 : Int)) (((0 : Int) ≤ y1s4_ ∧ y1s4_ < (↑(List.length y1f1_) : Int)) ∧ ((0 : Int) ≤ y1s4_ ∧ y1s4_ < (↑(List.length (setC Ty.body y1f3_ (n_ y1s4_) ((0 : Nat) + (11 : Nat)) [s_ (0 : Int)])) : Int)) ∧ Holds (Prod.fst y1 = xs ∧ y1f1_ = was ∧ (0 : Int) ≤ w_ A2_ ∧ w_ A2_ ≤ A6_ ∧ setC Ty.body (setC Ty.body y1f3_ (n_ y1s4_) ((0 : Nat) + (11 : Nat)) [s_ (0 : Int)]) (n_ y1s4_) ((0 : Nat) + (11 : Nat)) [s_ (min (w_ (Body.Quiet (ib_ y1f1_ (n_ y1s4_)) + (1 : Int))) (7 : Int))] = fill (fun e => quietS was e (ib_ xs e)) xs A4_) ∧ n_ A3_ < n_ A5_) (Holds (Prod.fst y1 = xs ∧ y1f1_ = was ∧ (0 : Int) ≤ w_ A2_ ∧ w_ A2_ ≤ A6_ ∧ setC Ty.body y1f3_ (n_ y1s4_) ((0 : Nat) + (11 : Nat)) [s_ (0 : Int)] = fill (fun e => quietS was e (ib_ xs e)) xs A4_) ∧ n_ A3_ < n_ A5_)) (Holds (Prod.fst y1 = xs ∧ y1f1_ = was ∧ (0 : Int) ≤ w_ A2_ ∧ w_ A2_ ≤ A6_ ∧ setC Ty.body y1f3_ (n_ y1s4_) ((0 : Nat) + (11 : Nat)) [s_ (0 : Int)] = fill (fun e => quietS was e (ib_ xs e)) xs A4_) ∧ n_ A3_ < n_ A5_)))) (Q (SV.vec (2 : Nat)) [(false, Blk.vec Ty.body y1f0_), (false, Blk.vec Ty.body y1f1_), (true, Blk.vec Ty.body y1f3_)])) := by kernel_rfl

theorem ok_l9Quiet : FsOk Tryz.prog 106 fs_l9Quiet := fsOk_of tt_ok (tabFs_cons ok_specCopyB (tabFs_cons ok_l6Sleeps (tabFs_cons ok_specSpeed (tabFs_cons ok_l1In (tabFs_cons ok_l3Less tabFs_nil))))) mixed Tryz.func106 (by kernel_rfl) (by kernel_rfl) (by
    intro args LL p r HH h hp
    unfold fs_l9Quiet at h
    dsimp only at h
    split at h
    case h_2 => cases h
    rename_i xs was
    simp only [Option.some.injEq, Prod.mk.injEq] at h
    obtain ⟨rfl, rfl, rfl⟩ := h
    refine ⟨by simp [Form, stays], (L_l9q), ?_⟩
    rw [vc_l9Quiet]
    try dsimp only
    obtain ⟨hok, hok2, hl2⟩ := hp _ rfl
    have hl := bodiesOk_len hok
    refine ⟨by omega, ⟨(by trivial), (by trivial), by omega, by omega, (fill_zero _ _).symm⟩, ?_⟩
    rintro ⟨xs', was', u, ys, i⟩ ⟨h⟩
    dsimp only at h ⊢
    obtain ⟨rfl, rfl, i0, i1, h5⟩ := h
    have hyl : ys.length = xs'.length := by rw [h5]; exact length_fill _ _ (by omega)
    refine ifB_of (fun c => ?_) (fun c => ?_)
    · have c := of_decide_eq_true c
      have hi : i.toNat < xs'.length := by omega
      have e1 : (i + 1).toNat = i.toNat + 1 := by omega
      have w : IntKind.i64.wrap (i + 1) = i + 1 := wrap_small (by omega) (by omega)
      have hf := (fill_ix h5 hi).2
      have hq := quiet_ok2 hok hi
      rw [w, e1, setC_quiet, setC_quiet, ix_set_self_body _ _ (by omega), List.set_set, hf, hq]
      refine ⟨⟨i0, c⟩, ifB_of (fun d => ⟨⟨(by trivial), (by trivial), by omega, by omega, fill_stay h5 hi ?_⟩, by omega⟩) (fun d => ⟨⟨i0, c⟩, ifB_of (fun d2 => ⟨⟨(by trivial), (by trivial), by omega, by omega, fill_stay h5 hi ?_⟩, by omega⟩) (fun d2 => ⟨⟨i0, c⟩, ⟨i0, c⟩, ifB_of (fun d3 => ifB_of (fun d4 => ⟨⟨i0, by omega⟩, ⟨i0, by rw [List.length_set]; exact c⟩, ⟨(by trivial), (by trivial), by omega, by omega, fill_go h5 hi ?_⟩, by omega⟩) (fun d4 => ⟨⟨(by trivial), (by trivial), by omega, by omega, fill_go h5 hi ?_⟩, by omega⟩)) (fun d3 => ⟨⟨(by trivial), (by trivial), by omega, by omega, fill_go h5 hi ?_⟩, by omega⟩)⟩)⟩)⟩
      all_goals
        unfold quietS moves
      · rw [d]
        rfl
      · rw [d, d2]
        rfl
      · rw [d, d2, d3, d4]
        rfl
      · rw [d, d2, d3, d4]
        rfl
      · rw [d, d2, d3]
        rfl
    · have c := of_decide_eq_false c
      rw [fill_map (f := quietS was') h5 (by omega)]
      exact ⟨(by trivial), (by trivial)⟩)

/-- In the groups from g on that are awake none sleeps. -/
def LowF (gs : List Int) (ws : List Bool) (g : Nat) (xs : List Body) : Prop := ∀ k, k < xs.length → (g : Int) ≤ gi gs k → Ty.ix .bool ws (gi gs k).toNat = true → (Ty.ix .body xs k).Quiet ≤ 7
def LSl9s1 (zs : List Body) : LS where
  S := List Body × List Int × List Bool × Unit × Unit × List Body × Int
  live := [(1, [none]), (2, [none]), (7, [some .body]), (8, [none])]
  shape := fun s => ([.vec 1, .vec 2, .vec 3, .int .i64 s.2.2.2.2.2.2], [(false, .vec .body s.1), (false, .vec .int s.2.1), (false, .vec .bool s.2.2.1), (true, .vec .body s.2.2.2.2.2.1)])
  get := fun v h => match v, h with
    | [.vec 1, .vec 2, .vec 3, .int .i64 g], [(false, .vec .body xs), (false, .vec .int gs), (false, .vec .bool ws), (true, .vec .body ys)] => some (xs, gs, ws, (), (), ys, g)
    | _, _ => none
  inv := fun s0 s => Holds (s.1 = s0.1 ∧ s.2.1 = s0.2.1 ∧ s.2.2.1 = s0.2.2.1 ∧ 0 ≤ s.2.2.2.2.2.2 ∧ s.2.2.2.2.2.2 ≤ s0.2.2.1.length ∧ s.2.2.2.2.2.1.length = zs.length ∧ LowF s0.2.1 s0.2.2.1 s.2.2.2.2.2.2.toNat s.2.2.2.2.2.1 ∧ settleF s0.2.1 s.2.2.2.2.2.2.toNat (s0.2.2.1.drop s.2.2.2.2.2.2.toNat) s.2.2.2.2.2.1 = settleF s0.2.1 0 s0.2.2.1 zs)
  mu := fun s => ((s.2.2.1.length : Int) - s.2.2.2.2.2.2).toNat
  ok := by
    intro v h s hg
    try dsimp only at hg
    split at hg <;> cases hg
    rfl

def LSl9s2  : LS where
  S := List Body × List Int × List Bool × Unit × Unit × List Body × Int × Bool × Int
  live := [(1, [none]), (2, [none]), (7, [some .body]), (8, [none]), (9, [none]), (10, [none])]
  shape := fun s => ([.vec 1, .vec 2, .vec 3, .int .i64 s.2.2.2.2.2.2.1, .bool s.2.2.2.2.2.2.2.1, .int .i64 s.2.2.2.2.2.2.2.2], [(false, .vec .body s.1), (false, .vec .int s.2.1), (false, .vec .bool s.2.2.1), (true, .vec .body s.2.2.2.2.2.1)])
  get := fun v h => match v, h with
    | [.vec 1, .vec 2, .vec 3, .int .i64 g, .bool all, .int .i64 i], [(false, .vec .body xs), (false, .vec .int gs), (false, .vec .bool ws), (true, .vec .body ys)] => some (xs, gs, ws, (), (), ys, g, all, i)
    | _, _ => none
  inv := fun s0 s => Holds (s.1 = s0.1 ∧ s.2.1 = s0.2.1 ∧ s.2.2.1 = s0.2.2.1 ∧ s.2.2.2.2.2.1 = s0.2.2.2.2.2.1 ∧ s.2.2.2.2.2.2.1 = s0.2.2.2.2.2.2.1 ∧ 0 ≤ s.2.2.2.2.2.2.2.2 ∧ s.2.2.2.2.2.2.2.2 ≤ s0.2.2.2.2.2.1.length ∧ s.2.2.2.2.2.2.2.1 = stillG s0.2.2.2.2.2.1 s0.2.1 s0.2.2.2.2.2.2.1 s.2.2.2.2.2.2.2.2.toNat)
  mu := fun s => ((s.2.2.2.2.2.1.length : Int) - s.2.2.2.2.2.2.2.2).toNat
  ok := by
    intro v h s hg
    try dsimp only at hg
    split at hg <;> cases hg
    rfl

def LSl9s3  : LS where
  S := List Body × List Int × List Bool × Unit × Unit × List Body × Int × Bool × Int
  live := [(1, [none]), (2, [none]), (7, [some .body]), (8, [none]), (9, [none]), (11, [none])]
  shape := fun s => ([.vec 1, .vec 2, .vec 3, .int .i64 s.2.2.2.2.2.2.1, .bool s.2.2.2.2.2.2.2.1, .int .i64 s.2.2.2.2.2.2.2.2], [(false, .vec .body s.1), (false, .vec .int s.2.1), (false, .vec .bool s.2.2.1), (true, .vec .body s.2.2.2.2.2.1)])
  get := fun v h => match v, h with
    | [.vec 1, .vec 2, .vec 3, .int .i64 g, .bool all, .int .i64 i], [(false, .vec .body xs), (false, .vec .int gs), (false, .vec .bool ws), (true, .vec .body ys)] => some (xs, gs, ws, (), (), ys, g, all, i)
    | _, _ => none
  inv := fun s0 s => Holds (s.1 = s0.1 ∧ s.2.1 = s0.2.1 ∧ s.2.2.1 = s0.2.2.1 ∧ s.2.2.2.2.2.2.1 = s0.2.2.2.2.2.2.1 ∧ s.2.2.2.2.2.2.2.1 = s0.2.2.2.2.2.2.2.1 ∧ 0 ≤ s.2.2.2.2.2.2.2.2 ∧ s.2.2.2.2.2.2.2.2 ≤ s0.2.2.2.2.2.1.length ∧ s.2.2.2.2.2.1 = fill (bedAt s0.2.2.2.2.2.1 s0.2.1 s0.2.2.2.2.2.2.1 s0.2.2.2.2.2.2.2.1) s0.2.2.2.2.2.1 s.2.2.2.2.2.2.2.2.toNat)
  mu := fun s => ((s.2.2.2.2.2.1.length : Int) - s.2.2.2.2.2.2.2.2).toNat
  ok := by
    intro v h s hg
    try dsimp only at hg
    split at hg <;> cases hg
    rfl

def L_l9s (zs : List Body) : Loops := fun n => match n with
  | 3 => some (LSl9s1 zs)
  | 8 => some LSl9s2
  | 12 => some LSl9s3
  | _ => none
noncomputable def fs_l9Sleep : Fs := ⟨[], fun args H => match args, H with
  | [.vec 0, .vec 1, .vec 2], [(false, .vec .body xs), (false, .vec .int gs), (false, .vec .bool ws)] => some ((some (xs.length ≤ 12 ∧ gs.length = xs.length ∧ ws.length ≤ 12 ∧ LowG gs ws xs)), .vec 3, [(false, .vec .body xs), (false, .vec .int gs), (false, .vec .bool ws), (true, .vec .body (settleF gs 0 ws xs))])
  | _, _ => none⟩

theorem vc_l9Sleep (xs : List Body) (gs : List Int) (ws : List Bool) (Q : SV → List Ent → Prop) :
    fnVC tt (look [(67, fs_specCopyB)]) (L_l9s xs) Tryz.f105 [.vec 0, .vec 1, .vec 2] [(false, .vec .body xs), (false, .vec .int gs), (false, .vec .bool ws)] Q =
    (let w_ := IntKind.wrap IntKind.i64; let s_ := SV.int IntKind.i64; let n_ := Int.toNat; List.length xs ≤ (1048576 : Nat) ∧ Holds (xs = xs ∧ gs = gs ∧ ws = ws ∧ (0 : Int) ≤ (0 : Int) ∧ (0 : Int) ≤ (↑(List.length ws) : Int) ∧ List.length xs = List.length xs ∧ LowF gs ws (n_ (0 : Int)) xs ∧ settleF gs (n_ (0 : Int)) (List.drop (n_ (0 : Int)) ws) xs = settleF gs (0 : Nat) ws xs) ∧ ∀ (y14 : List Body × List Int × List Bool × Unit × Unit × List Body × Int), let y14f0_ := Prod.fst y14; let y14s1_ := Prod.snd y14; let y14f1_ := Prod.fst (Prod.snd y14); let y14f2_ := Prod.fst (Prod.snd (Prod.snd y14)); let y14s5_ := Prod.snd (Prod.snd (Prod.snd (Prod.snd (Prod.snd y14)))); let y14f5_ := Prod.fst (Prod.snd (Prod.snd (Prod.snd (Prod.snd (Prod.snd y14))))); let y14s6_ := Prod.snd (Prod.snd (Prod.snd (Prod.snd (Prod.snd (Prod.snd y14))))); let A16_ := (↑(List.length y14f2_) : Int); let A15_ := (n_ (w_ (Prod.snd y14s5_ + (1 : Int)))); Holds (Prod.fst y14 = xs ∧ y14f1_ = gs ∧ y14f2_ = ws ∧ (0 : Int) ≤ y14s6_ ∧ y14s6_ ≤ (↑(List.length ws) : Int) ∧ List.length y14f5_ = List.length xs ∧ LowF gs ws (n_ y14s6_) y14f5_ ∧ settleF gs (n_ y14s6_) (List.drop (n_ y14s6_) ws) y14f5_ = settleF gs (0 : Nat) ws xs) → ifB (decide (Prod.snd y14s5_ < A16_)) (((0 : Int) ≤ y14s6_ ∧ y14s6_ < A16_) ∧ ifB (!Ty.ix Ty.bool y14f2_ (n_ y14s6_)) (Holds (Prod.fst y14 = xs ∧ y14f1_ = gs ∧ y14f2_ = ws ∧ (0 : Int) ≤ w_ (Prod.snd y14s5_ + (1 : Int)) ∧ w_ (Prod.snd y14s5_ + (1 : Int)) ≤ (↑(List.length ws) : Int) ∧ List.length y14f5_ = List.length xs ∧ LowF gs ws A15_ y14f5_ ∧ settleF gs A15_ (List.drop A15_ ws) y14f5_ = settleF gs (0 : Nat) ws xs) ∧ n_ (A16_ - w_ (Prod.snd y14s5_ + (1 : Int))) < n_ (A16_ - y14s6_)) (Holds (Prod.fst y14 = y14f0_ ∧ y14f1_ = y14f1_ ∧ y14f2_ = y14f2_ ∧ y14f5_ = y14f5_ ∧ y14s6_ = y14s6_ ∧ (0 : Int) ≤ (0 : Int) ∧ (0 : Int) ≤ (↑(List.length y14f5_) : Int) ∧ true = stillG y14f5_ y14f1_ y14s6_ (n_ (0 : Int))) ∧ ∀ (y9 : List Body × List Int × List Bool × Unit × Unit × List Body × Int × Bool × Int), let y9f0_ := Prod.fst y9; let y9s1_ := Prod.snd y9; let y9f1_ := Prod.fst (Prod.snd y9); let y9f2_ := Prod.fst (Prod.snd (Prod.snd y9)); let y9f5_ := Prod.fst (Prod.snd (Prod.snd (Prod.snd (Prod.snd (Prod.snd y9))))); let y9f6_ := Prod.fst (Prod.snd (Prod.snd (Prod.snd (Prod.snd (Prod.snd (Prod.snd y9)))))); let y9s7_ := Prod.snd (Prod.snd (Prod.snd (Prod.snd (Prod.snd (Prod.snd (Prod.snd y9)))))); let y9f7_ := Prod.fst (Prod.snd (Prod.snd (Prod.snd (Prod.snd (Prod.snd (Prod.snd (Prod.snd y9))))))); let y9s8_ := Prod.snd (Prod.snd (Prod.snd (Prod.snd (Prod.snd (Prod.snd (Prod.snd (Prod.snd y9))))))); let A12_ := (↑(List.length y9f5_) : Int); let A11_ := (Prod.snd y9s7_ + (1 : Int)); let A10_ := y14s5_; let A13_ := (↑(List.length (Prod.fst A10_)) : Int); Holds (Prod.fst y9 = y14f0_ ∧ y9f1_ = y14f1_ ∧ y9f2_ = y14f2_ ∧ y9f5_ = Prod.fst A10_ ∧ y9f6_ = Prod.snd A10_ ∧ (0 : Int) ≤ y9s8_ ∧ y9s8_ ≤ A13_ ∧ y9f7_ = stillG (Prod.fst A10_) y14f1_ (Prod.snd A10_) (n_ y9s8_)) → ifB (decide (Prod.snd y9s7_ < A12_)) (ifB y9f7_ (((0 : Int) ≤ y9s8_ ∧ y9s8_ < (↑(List.length y9f1_) : Int)) ∧ ifB (Ty.ix Ty.int y9f1_ (n_ y9s8_) != y9f6_) (Holds (Prod.fst y9 = y14f0_ ∧ y9f1_ = y14f1_ ∧ y9f2_ = y14f2_ ∧ y9f5_ = Prod.fst A10_ ∧ y9f6_ = Prod.snd A10_ ∧ (0 : Int) ≤ w_ A11_ ∧ w_ A11_ ≤ A13_ ∧ true = stillG (Prod.fst A10_) y14f1_ (Prod.snd A10_) (n_ (w_ A11_))) ∧ n_ (A12_ - w_ A11_) < n_ (A12_ - y9s8_)) (((0 : Int) ≤ y9s8_ ∧ y9s8_ < A12_) ∧ Holds (Prod.fst y9 = y14f0_ ∧ y9f1_ = y14f1_ ∧ y9f2_ = y14f2_ ∧ y9f5_ = Prod.fst A10_ ∧ y9f6_ = Prod.snd A10_ ∧ (0 : Int) ≤ w_ A11_ ∧ w_ A11_ ≤ A13_ ∧ decide (Body.Quiet (Ty.ix Ty.body y9f5_ (n_ y9s8_)) ≥ (7 : Int)) = stillG (Prod.fst A10_) y14f1_ (Prod.snd A10_) (n_ (w_ A11_))) ∧ n_ (A12_ - w_ A11_) < n_ (A12_ - y9s8_))) (Holds (Prod.fst y9 = y14f0_ ∧ y9f1_ = y14f1_ ∧ y9f2_ = y14f2_ ∧ y9f5_ = Prod.fst A10_ ∧ y9f6_ = Prod.snd A10_ ∧ (0 : Int) ≤ w_ A11_ ∧ w_ A11_ ≤ A13_ ∧ false = stillG (Prod.fst A10_) y14f1_ (Prod.snd A10_) (n_ (w_ A11_))) ∧ n_ (A12_ - w_ A11_) < n_ (A12_ - y9s8_))) (Holds (Prod.fst y9 = y9f0_ ∧ y9f1_ = y9f1_ ∧ y9f2_ = y9f2_ ∧ y9f6_ = y9f6_ ∧ y9f7_ = y9f7_ ∧ (0 : Int) ≤ (0 : Int) ∧ (0 : Int) ≤ A12_ ∧ y9f5_ = fill (bedAt y9f5_ y9f1_ y9f6_ y9f7_) y9f5_ (n_ (0 : Int))) ∧ ∀ (y1 : List Body × List Int × List Bool × Unit × Unit × List Body × Int × Bool × Int), let y1f0_ := Prod.fst y1; let y1s1_ := Prod.snd y1; let y1f1_ := Prod.fst (Prod.snd y1); let y1f2_ := Prod.fst (Prod.snd (Prod.snd y1)); let y1f5_ := Prod.fst (Prod.snd (Prod.snd (Prod.snd (Prod.snd (Prod.snd y1))))); let y1s6_ := Prod.snd (Prod.snd (Prod.snd (Prod.snd (Prod.snd (Prod.snd y1))))); let y1f6_ := Prod.fst (Prod.snd (Prod.snd (Prod.snd (Prod.snd (Prod.snd (Prod.snd y1)))))); let y1s7_ := Prod.snd (Prod.snd (Prod.snd (Prod.snd (Prod.snd (Prod.snd (Prod.snd y1)))))); let y1f7_ := Prod.fst (Prod.snd (Prod.snd (Prod.snd (Prod.snd (Prod.snd (Prod.snd (Prod.snd y1))))))); let y1s8_ := Prod.snd (Prod.snd (Prod.snd (Prod.snd (Prod.snd (Prod.snd (Prod.snd (Prod.snd y1))))))); let A7_ := (n_ (w_ (Prod.fst y1s6_ + (1 : Int)))); let A6_ := (↑(List.length y1f5_) : Int); let A5_ := (setC Ty.body y1f5_ (n_ y1s8_) ((0 : Nat) + (11 : Nat)) [s_ (8 : Int)]); let A4_ := (Prod.snd y1s7_ + (1 : Int)); let A2_ := (Prod.snd (Prod.snd (Prod.snd (Prod.snd y9s1_)))); let A8_ := (↑(List.length (Prod.fst A2_)) : Int); let A3_ := (bedAt (Prod.fst A2_) y9f1_ (Prod.fst (Prod.snd A2_)) (Prod.fst (Prod.snd (Prod.snd A2_)))); Holds (Prod.fst y1 = y9f0_ ∧ y1f1_ = y9f1_ ∧ y1f2_ = y9f2_ ∧ y1f6_ = Prod.fst (Prod.snd A2_) ∧ y1f7_ = Prod.fst (Prod.snd (Prod.snd A2_)) ∧ (0 : Int) ≤ y1s8_ ∧ y1s8_ ≤ A8_ ∧ y1f5_ = fill A3_ (Prod.fst A2_) (n_ y1s8_)) → ifB (decide (Prod.snd y1s7_ < A6_)) (ifB y1f7_ (((0 : Int) ≤ y1s8_ ∧ y1s8_ < (↑(List.length y1f1_) : Int)) ∧ ifB (Ty.ix Ty.int y1f1_ (n_ y1s8_) == y1f6_) (((0 : Int) ≤ y1s8_ ∧ y1s8_ < A6_) ∧ ((0 : Int) ≤ y1s8_ ∧ y1s8_ < (↑(List.length A5_) : Int)) ∧ Holds (Prod.fst y1 = y9f0_ ∧ y1f1_ = y9f1_ ∧ y1f2_ = y9f2_ ∧ y1f6_ = Prod.fst (Prod.snd A2_) ∧ y1f7_ = Prod.fst (Prod.snd (Prod.snd A2_)) ∧ (0 : Int) ≤ w_ A4_ ∧ w_ A4_ ≤ A8_ ∧ setC Ty.body A5_ (n_ y1s8_) ((0 : Nat) + (6 : Nat)) [s_ (0 : Int), s_ (0 : Int)] = fill A3_ (Prod.fst A2_) (n_ (w_ A4_))) ∧ n_ ((↑(List.length (setC Ty.body A5_ (n_ y1s8_) ((0 : Nat) + (6 : Nat)) [s_ (0 : Int), s_ (0 : Int)])) : Int) - w_ A4_) < n_ (A6_ - y1s8_)) (Holds (Prod.fst y1 = y9f0_ ∧ y1f1_ = y9f1_ ∧ y1f2_ = y9f2_ ∧ y1f6_ = Prod.fst (Prod.snd A2_) ∧ y1f7_ = Prod.fst (Prod.snd (Prod.snd A2_)) ∧ (0 : Int) ≤ w_ A4_ ∧ w_ A4_ ≤ A8_ ∧ y1f5_ = fill A3_ (Prod.fst A2_) (n_ (w_ A4_))) ∧ n_ (A6_ - w_ A4_) < n_ (A6_ - y1s8_))) (Holds (Prod.fst y1 = y9f0_ ∧ y1f1_ = y9f1_ ∧ y1f2_ = y9f2_ ∧ y1f6_ = Prod.fst (Prod.snd A2_) ∧ y1f7_ = Prod.fst (Prod.snd (Prod.snd A2_)) ∧ (0 : Int) ≤ w_ A4_ ∧ w_ A4_ ≤ A8_ ∧ y1f5_ = fill A3_ (Prod.fst A2_) (n_ (w_ A4_))) ∧ n_ (A6_ - w_ A4_) < n_ (A6_ - y1s8_))) (Holds (Prod.fst y1 = xs ∧ y1f1_ = gs ∧ y1f2_ = ws ∧ (0 : Int) ≤ w_ (Prod.fst y1s6_ + (1 : Int)) ∧ w_ (Prod.fst y1s6_ + (1 : Int)) ≤ (↑(List.length ws) : Int) ∧ List.length y1f5_ = List.length xs ∧ LowF gs ws A7_ y1f5_ ∧ settleF gs A7_ (List.drop A7_ ws) y1f5_ = settleF gs (0 : Nat) ws xs) ∧ n_ ((↑(List.length y1f2_) : Int) - w_ (Prod.fst y1s6_ + (1 : Int))) < n_ (A16_ - Prod.snd A10_))))) (Q (SV.vec (3 : Nat)) [(false, Blk.vec Ty.body y14f0_), (false, Blk.vec Ty.int y14f1_), (false, Blk.vec Ty.bool y14f2_), (true, Blk.vec Ty.body y14f5_)])) := by kernel_rfl

theorem ok_l9Sleep : FsOk Tryz.prog 105 fs_l9Sleep := fsOk_of tt_ok (tabFs_cons ok_specCopyB tabFs_nil) mixed Tryz.func105 (by kernel_rfl) (by kernel_rfl) (by
    intro args LL p r HH h hp
    unfold fs_l9Sleep at h
    dsimp only at h
    split at h
    case h_2 => cases h
    rename_i xs gs ws
    simp only [Option.some.injEq, Prod.mk.injEq] at h
    obtain ⟨rfl, rfl, rfl⟩ := h
    refine ⟨by simp [Form, stays], (L_l9s xs), ?_⟩
    rw [vc_l9Sleep]
    try dsimp only
    obtain ⟨hl, hgl, hwl, hlow⟩ := hp _ rfl
    have low0 : LowF gs ws 0 xs := fun k hk h1 h2 => hlow k hk (by omega) h2
    refine ⟨by omega, ⟨(by trivial), (by trivial), (by trivial), by omega, by omega, (by trivial), low0, (by trivial)⟩, ?_⟩
    rintro ⟨xs', gs', ws', u, v, ys, g⟩ ⟨h⟩
    dsimp only at h ⊢
    obtain ⟨rfl, rfl, rfl, g0, g1, g2, g3, g4⟩ := h
    refine ifB_of (fun c => ?_) (fun c => ?_)
    · have c := of_decide_eq_true c
      have hg : g.toNat < ws'.length := by omega
      have e1 : (g + 1).toNat = g.toNat + 1 := by omega
      have w1 : IntKind.i64.wrap (g + 1) = g + 1 := wrap_small (by omega) (by omega)
      rw [drop_ix (T := .bool) hg] at g4
      have eg : ((g.toNat : Nat) : Int) = g := by omega
      refine ⟨⟨g0, c⟩, ifB_of (fun d => ?_) (fun d => ⟨⟨(by trivial), (by trivial), (by trivial), (by trivial), (by trivial), by omega, by omega, (by trivial)⟩, ?_⟩)⟩
      · rw [w1, e1]
        have d := not_true d
        refine ⟨⟨(by trivial), (by trivial), (by trivial), by omega, by omega, g2, fun k hk h1 h2 => g3 k hk (by omega) h2, ?_⟩, by omega⟩
        rw [← g4, d]
        show settleF gs' (g.toNat + 1) (ws'.drop (g.toNat + 1)) ys = settleF gs' (g.toNat + 1) (ws'.drop (g.toNat + 1)) (settleOne ys gs' (g.toNat : Nat) false)
        congr 1
        unfold settleOne bedAt
        simp only [Bool.false_and, cond_false]
        exact (gen_ix (T := .body) ys).symm
      have d := not_false d
      rintro ⟨xs2, gs2, ws2, u2, v2, ys2, gg, all, i⟩ ⟨h⟩
      dsimp only at h ⊢
      obtain ⟨rfl, rfl, rfl, rfl, rfl, i0, i1, rfl⟩ := h
      refine ifB_of (fun c2 => ?_) (fun c2 => ?_)
      · have c2 := of_decide_eq_true c2
        have hi : i.toNat < ys2.length := by omega
        have e2 : (i + 1).toNat = i.toNat + 1 := by omega
        have w2 : IntKind.i64.wrap (i + 1) = i + 1 := wrap_small (by omega) (by omega)
        rw [w2, e2]
        have hst : stillG ys2 gs2 gg (i.toNat + 1) = (stillG ys2 gs2 gg i.toNat && (!(gi gs2 i.toNat == gg) || (Ty.ix .body ys2 i.toNat).Quiet == 7)) := rfl
        rw [hst]
        refine ifB_of (fun q => ⟨⟨i0, by omega⟩, ifB_of (fun q2 => ⟨⟨(by trivial), (by trivial), (by trivial), (by trivial), (by trivial), by omega, by omega, ?_⟩, by omega⟩) (fun q2 => ⟨⟨i0, c2⟩, ⟨(by trivial), (by trivial), (by trivial), (by trivial), (by trivial), by omega, by omega, ?_⟩, by omega⟩)⟩) (fun q => ⟨⟨(by trivial), (by trivial), (by trivial), (by trivial), (by trivial), by omega, by omega, ?_⟩, by omega⟩)
        · have q2 : (!(gi gs2 i.toNat == gg)) = true := q2
          rw [q, q2]
          rfl
        · have q2 : (!(gi gs2 i.toNat == gg)) = false := q2
          have q3 : gi gs2 i.toNat = gg := eq_of_beq (not_false q2)
          have h7 := g3 i.toNat hi (by rw [q3]; omega) (by rw [q3]; exact d)
          rw [q, q2]
          show decide ((Ty.ix .body ys2 i.toNat).Quiet ≥ 7) = ((Ty.ix .body ys2 i.toNat).Quiet == 7)
          rw [Bool.eq_iff_iff]
          simp only [decide_eq_true_eq, beq_iff_eq]
          omega
        · rw [q]
          rfl
      · have c2 := of_decide_eq_false c2
        have ei : i.toNat = ys2.length := by omega
        rw [ei]
        refine ⟨⟨(by trivial), (by trivial), (by trivial), (by trivial), (by trivial), by omega, by omega, (fill_zero _ _).symm⟩, ?_⟩
        clear c2 i0 i1 ei
        rintro ⟨xs3, gs3, ws3, u3, v3, zs, g3', all, k⟩ ⟨h⟩
        dsimp only at h ⊢
        obtain ⟨rfl, rfl, rfl, rfl, rfl, k0, k1, h5⟩ := h
        have hzl : zs.length = ys2.length := by rw [h5]; exact length_fill _ _ (by omega)
        refine ifB_of (fun c3 => ?_) (fun c3 => ?_)
        · have c3 := of_decide_eq_true c3
          generalize stillG ys2 gs3 g3' ys2.length = A at h5 ⊢
          have hi : k.toNat < ys2.length := by omega
          have e2 : (k + 1).toNat = k.toNat + 1 := by omega
          have w2 : IntKind.i64.wrap (k + 1) = k + 1 := wrap_small (by omega) (by omega)
          have hf := (fill_ix h5 hi).2
          rw [w2, e2, setC_quiet, setC_drive, ix_set_self_body _ _ (by omega), List.set_set, hf]
          refine ifB_of (fun q => ⟨⟨k0, by omega⟩, ifB_of (fun q2 => ⟨⟨k0, c3⟩, ⟨k0, by rw [List.length_set]; exact c3⟩, ⟨(by trivial), (by trivial), (by trivial), (by trivial), (by trivial), by omega, by omega, fill_go h5 hi ?_⟩, by rw [List.length_set]; omega⟩) (fun q2 => ⟨⟨(by trivial), (by trivial), (by trivial), (by trivial), (by trivial), by omega, by omega, fill_stay h5 hi ?_⟩, by omega⟩)⟩) (fun q => ⟨⟨(by trivial), (by trivial), (by trivial), (by trivial), (by trivial), by omega, by omega, fill_stay h5 hi ?_⟩, by omega⟩)
          · have q2 : (gi gs3 k.toNat == g3') = true := q2
            unfold bedAt
            rw [q, q2]
            rfl
          · have q2 : (gi gs3 k.toNat == g3') = false := q2
            unfold bedAt
            rw [q2, Bool.and_false]
            rfl
          · unfold bedAt
            rw [q, Bool.false_and]
            rfl
        · have c3 := of_decide_eq_false c3
          rw [show k.toNat = ys2.length by omega, fill_end _ _ rfl] at h5
          have hz : zs = settleOne ys2 gs3 (g3'.toNat : Nat) true := by
            unfold settleOne
            rw [eg, Bool.true_and]
            exact h5
          rw [w1, e1]
          have g4' := g4
          rw [d] at g4'
          refine ⟨⟨(by trivial), (by trivial), (by trivial), by omega, by omega, by omega, fun j hj h1 h2 => ?_, ?_⟩, by omega⟩
          · rw [hz, length_settleOne] at hj
            rw [hz, ix_settleOne hj]
            have hne : (gi gs3 j == (g3'.toNat : Int)) = false := beq_eq_false_iff_ne.2 (by omega)
            unfold bedAt
            rw [hne, Bool.and_false]
            exact g3 j hj (by omega) h2
          · rw [hz]
            exact g4'
    · have c := of_decide_eq_false c
      rw [drop_end (by omega)] at g4
      have g4 : ys = _ := g4
      rw [g4]
      exact ⟨(by trivial), (by trivial)⟩)

theorem contactsF_ctok {xs : List Body} (h : xs.length ≤ 12) : CtsOk xs.length (contactsF xs) := by
  have h1 := length_contactsF h
  refine ⟨by omega, fun k hk => ?_⟩
  have hm : Ty.ix .contact (contactsF xs) k ∈ contactsF xs := List.mem_of_getElem? (ix_get (T := .contact) hk)
  obtain ⟨a, b, q1, q2, q3, _⟩ := mem_contactsF hm
  rw [q3]
  refine ⟨?_, ?_, ?_, ?_, ?_⟩ <;> dsimp only <;> omega
noncomputable def fs_l9Step : Fs := ⟨[], fun args H => match args, H with
  | [.vec 0, .int .i64 pull], [(false, .vec .body xs)] => some ((some (bodiesOk xs = true ∧ 0 ≤ pull ∧ pull ≤ 2560)), .vec 1, [(false, .vec .body xs), (true, .vec .body (stepF xs pull))])
  | _, _ => none⟩

theorem vc_l9Step (xs : List Body) (pull : Int) (Q : SV → List Ent → Prop) :
    fnVC tt (look [(96, fs_l7Contacts), (97, fs_l7Groups), (98, fs_l7Awake), (99, fs_l9Wake), (100, fs_l9Live), (102, fs_l9Pull), (101, fs_specAll), (104, fs_l9Moves), (103, fs_specAparts), (106, fs_l9Quiet), (105, fs_l9Sleep)]) L0 Tryz.f63 [.vec 0, .int .i64 pull] [(false, .vec .body xs)] Q =
    (let ic_ := Ty.ix Ty.contact; let A1_ := (liveF (wokenF xs) (contactsF xs)); let A2_ := (mapX goS (pushAllF (mapX (pullS pull) (wokenF xs)) A1_)); bodiesOk xs = true ∧ (List.length xs ≤ (12 : Nat) ∧ contactsF xs = contactsF xs) ∧ (bodiesOk xs = true ∧ groupsX xs = groupsX xs) ∧ (bodiesOk xs = true ∧ groupsX xs = groupsX xs ∧ awkF xs (List.length xs) = awkF xs (List.length xs)) ∧ (bodiesOk (wokenF xs) = true ∧ List.length (contactsF xs) ≤ (144 : Nat) ∧ ∀ (k : Nat), k < List.length (contactsF xs) → (0 : Int) ≤ Contact.A (ic_ (contactsF xs) k) ∧ Contact.A (ic_ (contactsF xs) k) < (↑(List.length (wokenF xs)) : Int) ∧ (0 : Int) ≤ Contact.B (ic_ (contactsF xs) k) ∧ Contact.B (ic_ (contactsF xs) k) < (↑(List.length (wokenF xs)) : Int) ∧ Contact.A (ic_ (contactsF xs) k) ≠ Contact.B (ic_ (contactsF xs) k)) ∧ (bodiesOk (wokenF xs) = true ∧ (0 : Int) ≤ pull ∧ pull ≤ (2560 : Int)) ∧ ((∀ (k : Nat), k < List.length (mapX (pullS pull) (wokenF xs)) → POk (Ty.ix Ty.body (mapX (pullS pull) (wokenF xs)) k)) ∧ List.length (mapX (pullS pull) (wokenF xs)) ≤ (12 : Nat) ∧ List.length A1_ ≤ (144 : Nat) ∧ ∀ (k : Nat), k < List.length A1_ → (0 : Int) ≤ Contact.A (ic_ A1_ k) ∧ Contact.A (ic_ A1_ k) < (↑(List.length (mapX (pullS pull) (wokenF xs))) : Int) ∧ (0 : Int) ≤ Contact.B (ic_ A1_ k) ∧ Contact.B (ic_ A1_ k) < (↑(List.length (mapX (pullS pull) (wokenF xs))) : Int) ∧ Contact.A (ic_ A1_ k) ≠ Contact.B (ic_ A1_ k)) ∧ bodiesOk (pushAllF (mapX (pullS pull) (wokenF xs)) A1_) = true ∧ ((∀ (k : Nat), k < List.length A2_ → POk (Ty.ix Ty.body A2_ k)) ∧ List.length A2_ ≤ (12 : Nat) ∧ List.length A1_ ≤ (144 : Nat) ∧ ∀ (k : Nat), k < List.length A1_ → (0 : Int) ≤ Contact.A (ic_ A1_ k) ∧ Contact.A (ic_ A1_ k) < (↑(List.length A2_) : Int) ∧ (0 : Int) ≤ Contact.B (ic_ A1_ k) ∧ Contact.B (ic_ A1_ k) < (↑(List.length A2_) : Int) ∧ Contact.A (ic_ A1_ k) ≠ Contact.B (ic_ A1_ k)) ∧ (bodiesOk (apartF A2_ A1_) = true ∧ bodiesOk (wokenF xs) = true ∧ List.length (wokenF xs) = List.length (apartF A2_ A1_)) ∧ (List.length (mapX (quietS (wokenF xs)) (apartF A2_ A1_)) ≤ (12 : Nat) ∧ List.length (groupsX xs) = List.length (mapX (quietS (wokenF xs)) (apartF A2_ A1_)) ∧ List.length (awkF xs (List.length xs)) ≤ (12 : Nat) ∧ ∀ (k : Nat), k < List.length (mapX (quietS (wokenF xs)) (apartF A2_ A1_)) → (0 : Int) ≤ gi (groupsX xs) k → Ty.ix Ty.bool (awkF xs (List.length xs)) (Int.toNat (gi (groupsX xs) k)) = true → Body.Quiet (Ty.ix Ty.body (mapX (quietS (wokenF xs)) (apartF A2_ A1_)) k) ≤ (7 : Int)) ∧ Q (SV.vec (1 : Nat)) [(false, Blk.vec Ty.body xs), (true, Blk.vec Ty.body (settleF (groupsX xs) (0 : Nat) (awkF xs (List.length xs)) (mapX (quietS (wokenF xs)) (apartF A2_ A1_))))]) := by kernel_rfl

theorem ok_l9Step : FsOk Tryz.prog 63 fs_l9Step := fsOk_of tt_ok (tabFs_cons ok_l7Contacts (tabFs_cons ok_l7Groups (tabFs_cons ok_l7Awake (tabFs_cons ok_l9Wake (tabFs_cons ok_l9Live (tabFs_cons ok_l9Pull (tabFs_cons ok_specAll (tabFs_cons ok_l9Moves (tabFs_cons ok_specAparts (tabFs_cons ok_l9Quiet (tabFs_cons ok_l9Sleep tabFs_nil))))))))))) mixed Tryz.func63 (by kernel_rfl) (by kernel_rfl) (by
    intro args LL p r HH h hp
    unfold fs_l9Step at h
    dsimp only at h
    split at h
    case h_2 => cases h
    rename_i pull xs
    simp only [Option.some.injEq, Prod.mk.injEq] at h
    obtain ⟨rfl, rfl, rfl⟩ := h
    refine ⟨by simp [Form, stays], L0, ?_⟩
    rw [vc_l9Step]
    try dsimp only
    obtain ⟨hok, p0, p1⟩ := hp _ rfl
    have hl := bodiesOk_len hok
    have hco := contactsF_ctok hl
    have hlv := live_same (pull := pull) hl
    rw [hlv]
    have hll : CtsOk xs.length (liveX xs pull) := live_ok hl
    have hP := ok_pulledF hok p0 p1
    refine ⟨hok, ⟨hl, rfl⟩, ⟨hok, rfl⟩, ⟨hok, rfl, rfl⟩, ⟨ok_wokenF hok, by rw [length_wokenF]; exact hco⟩, ⟨ok_wokenF hok, p0, p1⟩, ⟨allP_ok hP, by rw [length_mapX, length_wokenF]; exact hl, by rw [length_mapX, length_wokenF]; exact hll⟩, ok_pushedF hok p0 p1,
      ⟨allP_ok (ok_movedF hok p0 p1), by rw [length_mapX, length_pushAllF, length_mapX, length_wokenF]; exact hl, by rw [length_mapX, length_pushAllF, length_mapX, length_wokenF]; exact hll⟩,
      ⟨ok_apartX hok p0 p1, ok_wokenF hok, by rw [length_apartF, length_mapX, length_pushAllF, length_mapX, length_wokenF]⟩, ⟨?_, ?_, ?_, low_quietX hok⟩, (by trivial), (by trivial)⟩
    · rw [length_mapX, length_apartF, length_mapX, length_pushAllF, length_mapX, length_wokenF]
      exact hl
    · rw [length_mapX, length_apartF, length_mapX, length_pushAllF, length_mapX, length_wokenF]
      simp only [groupsX, length_gen]
    · have := length_awkF xs xs.length
      have := num_le xs xs.length
      omega)

end
end Go.Proofs.YtnahfbjdicjdpaaGreat.Sym

namespace Go.Proofs.YtnahfbjdicjdpaaGreat.Sym
open Go
set_option linter.unusedVariables false
set_option linter.unusedSimpArgs false
set_option maxRecDepth 100000

noncomputable def pairC (xs : List Body) (c : Contact) : Pair := ⟨(Ty.ix .body xs c.A.toNat).Id, (Ty.ix .body xs c.B.toNat).Id⟩
noncomputable def pairsC (xs : List Body) (cs : List Contact) : List Pair := cs.map (pairC xs)
noncomputable def stepPairs (xs : List Body) : List Pair := pairsC xs (contactsOf xs)
theorem pairsC_drop {xs : List Body} {cs : List Contact} {i : Nat} (h : i < cs.length) : pairsC xs (cs.drop i) = pairC xs (Ty.ix .contact cs i) :: pairsC xs (cs.drop (i + 1)) := by
  rw [drop_ix (T := .contact) h]
  rfl
theorem length_pairsC (xs : List Body) (cs : List Contact) : (pairsC xs cs).length = cs.length := by simp [pairsC]
theorem ix_mem {T : Ty} {xs : List T.El} {i : Nat} (h : i < xs.length) : T.ix xs i ∈ xs := by
  have := ix_get (T := T) h
  exact List.mem_of_getElem? this
theorem contact_ok {xs : List Body} {i : Nat} (h : i < (contactsF xs).length) : 0 ≤ (Ty.ix .contact (contactsF xs) i).A ∧ (Ty.ix .contact (contactsF xs) i).A < xs.length ∧ 0 ≤ (Ty.ix .contact (contactsF xs) i).B ∧ (Ty.ix .contact (contactsF xs) i).B < xs.length ∧ (Ty.ix .contact (contactsF xs) i).A < (Ty.ix .contact (contactsF xs) i).B := by
  obtain ⟨a, b, h1, h2, h3, _⟩ := mem_contactsF (ix_mem (T := .contact) h)
  rw [h3]
  dsimp only
  omega
def LSl9p  : LS where
  S := List Body × Unit × List Pair × List Contact × Int
  live := [(0, [none]), (3, [some .pair]), (4, [some .contact]), (5, [none])]
  shape := fun s => ([.vec 0, .vec 1, .vec 2, .int .i64 s.2.2.2.2], [(false, .vec .body s.1), (true, .vec .pair s.2.2.1), (true, .vec .contact s.2.2.2.1)])
  get := fun v h => match v, h with
    | [.vec 0, .vec 1, .vec 2, .int .i64 i], [(false, .vec .body xs), (true, .vec .pair out), (true, .vec .contact cs)] => some (xs, (), out, cs, i)
    | _, _ => none
  inv := fun s0 s => Holds (s.1 = s0.1 ∧ s.2.2.2.1 = s0.2.2.2.1 ∧ 0 ≤ s.2.2.2.2 ∧ s.2.2.2.2 ≤ s0.2.2.2.1.length ∧ s.2.2.1 ++ pairsC s0.1 (s0.2.2.2.1.drop s.2.2.2.2.toNat) = pairsC s0.1 s0.2.2.2.1)
  mu := fun s => ((s.2.2.2.1.length : Int) - s.2.2.2.2).toNat
  ok := by
    intro v h s hg
    try dsimp only at hg
    split at hg <;> cases hg
    rfl

def L_l9p : Loops := fun n => match n with
  | 4 => some LSl9p
  | _ => none
noncomputable def fs_l9Pairs : Fs := ⟨[], fun args H => match args, H with
  | [.vec 0], [(false, .vec .body xs)] => some ((some (bodiesOk xs = true)), .vec 1, [(false, .vec .body xs), (true, .vec .pair (pairsC xs (contactsF xs)))])
  | _, _ => none⟩

theorem vc_l9Pairs (xs : List Body) (Q : SV → List Ent → Prop) :
    fnVC tt (look [(96, fs_l7Contacts)]) (L_l9p) Tryz.f76 [.vec 0] [(false, .vec .body xs)] Q =
    (let w_ := IntKind.wrap IntKind.i64; let n_ := Int.toNat; bodiesOk xs = true ∧ Holds (xs = xs ∧ contactsF xs = contactsF xs ∧ (0 : Int) ≤ (0 : Int) ∧ (0 : Int) ≤ (↑(List.length (contactsF xs)) : Int) ∧ [] ++ pairsC xs (List.drop (n_ (0 : Int)) (contactsF xs)) = pairsC xs (contactsF xs)) ∧ ∀ (y1 : List Body × Unit × List Pair × List Contact × Int), let y1f0_ := Prod.fst y1; let y1s1_ := Prod.snd y1; let y1f2_ := Prod.fst (Prod.snd (Prod.snd y1)); let y1s3_ := Prod.snd (Prod.snd (Prod.snd y1)); let y1f3_ := Prod.fst (Prod.snd (Prod.snd (Prod.snd y1))); let y1s4_ := Prod.snd (Prod.snd (Prod.snd (Prod.snd y1))); let A3_ := (↑(List.length y1f3_) : Int); let A2_ := (Ty.ix Ty.contact y1f3_ (n_ y1s4_)); Holds (Prod.fst y1 = xs ∧ y1f3_ = contactsF xs ∧ (0 : Int) ≤ y1s4_ ∧ y1s4_ ≤ (↑(List.length (contactsF xs)) : Int) ∧ y1f2_ ++ pairsC xs (List.drop (n_ y1s4_) (contactsF xs)) = pairsC xs (contactsF xs)) → ifB (decide (Prod.snd y1s3_ < A3_)) (((0 : Int) ≤ y1s4_ ∧ y1s4_ < A3_) ∧ ((0 : Int) ≤ Contact.A A2_ ∧ Contact.A A2_ < (↑(List.length y1f0_) : Int)) ∧ ((0 : Int) ≤ y1s4_ ∧ y1s4_ < A3_) ∧ ((0 : Int) ≤ Contact.B A2_ ∧ Contact.B A2_ < (↑(List.length y1f0_) : Int)) ∧ (List.length y1f2_ + List.length [Pair.mk (Body.Id (Ty.ix Ty.body y1f0_ (n_ (Contact.A A2_)))) (Body.Id (Ty.ix Ty.body y1f0_ (n_ (Contact.B A2_))))]) * (16 : Nat) ≤ room ∧ Holds (Prod.fst y1 = xs ∧ y1f3_ = contactsF xs ∧ (0 : Int) ≤ w_ (Prod.snd y1s3_ + (1 : Int)) ∧ w_ (Prod.snd y1s3_ + (1 : Int)) ≤ (↑(List.length (contactsF xs)) : Int) ∧ y1f2_ ++ [Pair.mk (Body.Id (Ty.ix Ty.body y1f0_ (n_ (Contact.A A2_)))) (Body.Id (Ty.ix Ty.body y1f0_ (n_ (Contact.B A2_))))] ++ pairsC xs (List.drop (n_ (w_ (Prod.snd y1s3_ + (1 : Int)))) (contactsF xs)) = pairsC xs (contactsF xs)) ∧ n_ (A3_ - w_ (Prod.snd y1s3_ + (1 : Int))) < n_ (A3_ - y1s4_)) (Q (SV.vec (1 : Nat)) [(false, Blk.vec Ty.body y1f0_), (true, Blk.vec Ty.pair y1f2_)])) := by kernel_rfl

theorem ok_l9Pairs : FsOk Tryz.prog 76 fs_l9Pairs := fsOk_of tt_ok (tabFs_cons ok_l7Contacts tabFs_nil) mixed Tryz.func76 (by kernel_rfl) (by kernel_rfl) (by
    intro args LL p r HH h hp
    unfold fs_l9Pairs at h
    dsimp only at h
    split at h
    case h_2 => cases h
    rename_i xs
    simp only [Option.some.injEq, Prod.mk.injEq] at h
    obtain ⟨rfl, rfl, rfl⟩ := h
    refine ⟨by simp [Form, stays], (L_l9p), ?_⟩
    rw [vc_l9Pairs]
    try dsimp only
    have hok := hp _ rfl
    have hl := bodiesOk_len hok
    have hq := length_contactsF hl
    refine ⟨hok, ⟨(by trivial), (by trivial), by omega, by omega, (by trivial)⟩, ?_⟩
    rintro ⟨xs', u, out, cs, i⟩ ⟨h⟩
    dsimp only at h ⊢
    obtain ⟨rfl, rfl, i0, i1, i2⟩ := h
    have hs2 := congrArg List.length i2
    rw [List.length_append, length_pairsC, length_pairsC, List.length_drop] at hs2
    refine ifB_of (fun c3 => ?_) (fun c3 => ?_)
    · have c3 := of_decide_eq_true c3
      have e1 : (i + 1).toNat = i.toNat + 1 := by omega
      have w : IntKind.i64.wrap (i + 1) = i + 1 := wrap_small (by omega) (by omega)
      have hi : i.toNat < (contactsF xs').length := by omega
      rw [pairsC_drop hi] at i2
      rw [w, e1]
      have hc := contact_ok hi
      refine ⟨⟨i0, c3⟩, ⟨hc.1, hc.2.1⟩, ⟨i0, c3⟩, ⟨hc.2.2.1, hc.2.2.2.1⟩, by simp only [room, List.length_singleton]; omega, ⟨(by trivial), (by trivial), by omega, by omega, ?_⟩, by omega⟩
      rw [← i2, List.append_assoc]
      rfl
    · have c3 := of_decide_eq_false c3
      rw [drop_end (by omega)] at i2
      rw [← i2]
      simp [pairsC])

def LSi9p  : LS where
  S := List Body × Unit × List Pair × List Contact × Int × Int
  live := [(0, [none]), (3, [some .pair]), (7, [some .contact]), (8, [none]), (9, [none])]
  shape := fun s => ([.vec 0, .vec 1, .vec 2, .int .i64 s.2.2.2.2.1, .int .i64 s.2.2.2.2.2], [(false, .vec .body s.1), (true, .vec .pair s.2.2.1), (true, .vec .contact s.2.2.2.1)])
  get := fun v h => match v, h with
    | [.vec 0, .vec 1, .vec 2, .int .i64 n, .int .i64 i], [(false, .vec .body xs), (true, .vec .pair out), (true, .vec .contact cs)] => some (xs, (), out, cs, n, i)
    | _, _ => none
  inv := fun s0 s => Holds (s.1 = s0.1 ∧ s.2.2.2.1 = s0.2.2.2.1 ∧ s.2.2.2.2.1 = s0.2.2.2.1.length ∧ 0 ≤ s.2.2.2.2.2 ∧ s.2.2.2.2.2 ≤ s0.2.2.2.1.length ∧ s.2.2.1 ++ pairsC s0.1 (s0.2.2.2.1.drop s.2.2.2.2.2.toNat) = pairsC s0.1 s0.2.2.2.1)
  mu := fun s => ((s.2.2.2.1.length : Int) - s.2.2.2.2.2).toNat
  ok := by
    intro v h s hg
    try dsimp only at hg
    split at hg <;> cases hg
    rfl

def L_i9p : Loops := fun n => match n with
  | 3 => some LSi9p
  | _ => none
theorem contact_ok' {xs : List Body} {i : Nat} (h : i < (contactsOf xs).length) : 0 ≤ (Ty.ix .contact (contactsOf xs) i).A ∧ (Ty.ix .contact (contactsOf xs) i).A < xs.length ∧ 0 ≤ (Ty.ix .contact (contactsOf xs) i).B ∧ (Ty.ix .contact (contactsOf xs) i).B < xs.length ∧ (Ty.ix .contact (contactsOf xs) i).A < (Ty.ix .contact (contactsOf xs) i).B := by
  unfold contactsOf at h ⊢
  cases q : bodiesOk xs with
  | true => rw [q] at h; exact contact_ok h
  | false => rw [q] at h; simp at h
noncomputable def fs_implStepPairs : Fs := ⟨[], fun args H => match args, H with
  | [.vec 0], [(false, .vec .body xs)] => some ((some (xs.length ≤ 1048576)), .vec 1, [(false, .vec .body xs), (true, .vec .pair (stepPairs xs))])
  | _, _ => none⟩

theorem vc_implStepPairs (xs : List Body) (Q : SV → List Ent → Prop) :
    fnVC tt (look [(21, fs_implContacts)]) (L_i9p) Tryz.f38 [.vec 0] [(false, .vec .body xs)] Q =
    (let w_ := IntKind.wrap IntKind.i64; let n_ := Int.toNat; List.length xs ≤ (1048576 : Nat) ∧ Holds (xs = xs ∧ contactsOf xs = contactsOf xs ∧ (↑(List.length (contactsOf xs)) : Int) = (↑(List.length (contactsOf xs)) : Int) ∧ (0 : Int) ≤ (0 : Int) ∧ (0 : Int) ≤ (↑(List.length (contactsOf xs)) : Int) ∧ [] ++ pairsC xs (List.drop (n_ (0 : Int)) (contactsOf xs)) = pairsC xs (contactsOf xs)) ∧ ∀ (y1 : List Body × Unit × List Pair × List Contact × Int × Int), let y1f0_ := Prod.fst y1; let y1s1_ := Prod.snd y1; let y1f2_ := Prod.fst (Prod.snd (Prod.snd y1)); let y1f3_ := Prod.fst (Prod.snd (Prod.snd (Prod.snd y1))); let y1s4_ := Prod.snd (Prod.snd (Prod.snd (Prod.snd y1))); let y1f4_ := Prod.fst (Prod.snd (Prod.snd (Prod.snd (Prod.snd y1)))); let y1s5_ := Prod.snd (Prod.snd (Prod.snd (Prod.snd (Prod.snd y1)))); let A3_ := (↑(List.length (contactsOf xs)) : Int); let A2_ := (Ty.ix Ty.contact y1f3_ (n_ y1s5_)); Holds (Prod.fst y1 = xs ∧ y1f3_ = contactsOf xs ∧ y1f4_ = A3_ ∧ (0 : Int) ≤ y1s5_ ∧ y1s5_ ≤ A3_ ∧ y1f2_ ++ pairsC xs (List.drop (n_ y1s5_) (contactsOf xs)) = pairsC xs (contactsOf xs)) → ifB (decide (Prod.snd y1s4_ < y1f4_)) (((0 : Int) ≤ y1s5_ ∧ y1s5_ < (↑(List.length y1f3_) : Int)) ∧ ((0 : Int) ≤ Contact.A A2_ ∧ Contact.A A2_ < (↑(List.length y1f0_) : Int)) ∧ ((0 : Int) ≤ Contact.B A2_ ∧ Contact.B A2_ < (↑(List.length y1f0_) : Int)) ∧ (List.length y1f2_ + List.length [Pair.mk (Body.Id (Ty.ix Ty.body y1f0_ (n_ (Contact.A A2_)))) (Body.Id (Ty.ix Ty.body y1f0_ (n_ (Contact.B A2_))))]) * (16 : Nat) ≤ room ∧ Holds (Prod.fst y1 = xs ∧ y1f3_ = contactsOf xs ∧ y1f4_ = A3_ ∧ (0 : Int) ≤ w_ (Prod.snd y1s4_ + (1 : Int)) ∧ w_ (Prod.snd y1s4_ + (1 : Int)) ≤ A3_ ∧ y1f2_ ++ [Pair.mk (Body.Id (Ty.ix Ty.body y1f0_ (n_ (Contact.A A2_)))) (Body.Id (Ty.ix Ty.body y1f0_ (n_ (Contact.B A2_))))] ++ pairsC xs (List.drop (n_ (w_ (Prod.snd y1s4_ + (1 : Int)))) (contactsOf xs)) = pairsC xs (contactsOf xs)) ∧ n_ ((↑(List.length y1f3_) : Int) - w_ (Prod.snd y1s4_ + (1 : Int))) < n_ ((↑(List.length y1f3_) : Int) - y1s5_)) (Q (SV.vec (1 : Nat)) [(false, Blk.vec Ty.body y1f0_), (true, Blk.vec Ty.pair y1f2_)])) := by kernel_rfl

theorem ok_implStepPairs : FsOk Tryz.prog 38 fs_implStepPairs := fsOk_of tt_ok (tabFs_cons ok_implContacts tabFs_nil) mixed Tryz.func38 (by kernel_rfl) (by kernel_rfl) (by
    intro args LL p r HH h hp
    unfold fs_implStepPairs at h
    dsimp only at h
    split at h
    case h_2 => cases h
    rename_i xs
    simp only [Option.some.injEq, Prod.mk.injEq] at h
    obtain ⟨rfl, rfl, rfl⟩ := h
    refine ⟨by simp [Form, stays], (L_i9p), ?_⟩
    rw [vc_implStepPairs]
    try dsimp only
    have hb := hp _ rfl
    have hq := length_contactsOf xs
    refine ⟨hb, ⟨(by trivial), (by trivial), (by trivial), by omega, by omega, (by trivial)⟩, ?_⟩
    rintro ⟨xs', u, out, cs, n, i⟩ ⟨h⟩
    dsimp only at h ⊢
    obtain ⟨rfl, rfl, rfl, i0, i1, i2⟩ := h
    have hs2 := congrArg List.length i2
    rw [List.length_append, length_pairsC, length_pairsC, List.length_drop] at hs2
    refine ifB_of (fun c3 => ?_) (fun c3 => ?_)
    · have c3 := of_decide_eq_true c3
      have e1 : (i + 1).toNat = i.toNat + 1 := by omega
      have w : IntKind.i64.wrap (i + 1) = i + 1 := wrap_small (by omega) (by omega)
      have hi : i.toNat < (contactsOf xs').length := by omega
      rw [pairsC_drop hi] at i2
      rw [w, e1]
      have hc := contact_ok' hi
      refine ⟨⟨i0, c3⟩, ⟨hc.1, hc.2.1⟩, ⟨hc.2.2.1, hc.2.2.2.1⟩, by simp only [room, List.length_singleton]; omega, ⟨(by trivial), (by trivial), (by trivial), by omega, by omega, ?_⟩, by omega⟩
      rw [← i2, List.append_assoc]
      rfl
    · have c3 := of_decide_eq_false c3
      rw [drop_end (by omega)] at i2
      unfold stepPairs
      rw [← i2]
      simp [pairsC])

theorem length_stepPairs (xs : List Body) : (stepPairs xs).length ≤ 144 := by
  unfold stepPairs
  rw [length_pairsC]
  exact length_contactsOf xs
end Go.Proofs.YtnahfbjdicjdpaaGreat.Sym

namespace Go.Proofs.YtnahfbjdicjdpaaGreat.Sym
open Go
set_option linter.unusedVariables false
set_option linter.unusedSimpArgs false

theorem ofL_over {U : Ty} {zs ts : List U.El} {R : List Ent} :
    updH (ofL ((true, .vec U zs) :: R)) [(0, true, .dead), (R.length + 1, true, .vec U ts)] = ofL ((true, .dead) :: (R ++ [(true, .vec U ts)])) := by
  funext k
  rw [updH_two]
  by_cases h0 : k = 0
  · subst h0; simp [ofL]
  · rw [if_neg h0]
    obtain ⟨m, rfl⟩ : ∃ m, k = m + 1 := ⟨k - 1, by omega⟩
    by_cases h1 : m = R.length
    · subst h1; simp [ofL]
    · rw [if_neg (by omega)]
      simp only [ofL, List.getElem?_cons_succ]
      by_cases h2 : m < R.length
      · rw [List.getElem?_append_left h2]
      · rw [List.getElem?_eq_none (by omega), List.getElem?_eq_none (by simp; omega)]

theorem fsem_retake {P : Program} {f : Nat} {args : List SV} {L R : List Ent} {U : Ty} {zs : List U.El} {n : Nat} (h : FSem P f args L (.sl 0 0 n) ((true, .vec U zs) :: R)) :
    FSem P f args L (.vec (R.length + 1)) ((true, .dead) :: (R ++ [(true, .vec U (zs.take n))])) := by
  refine ⟨?_, ?_, ?_, ?_, ?_⟩
  · have := h.len
    simp only [List.length_cons, List.length_append, List.length_nil] at this ⊢
    omega
  · intro k b hk
    have := h.keep k b hk
    cases k with
    | zero => simp at this
    | succ k =>
      simp only [List.getElem?_cons_succ] at this ⊢
      rw [List.getElem?_append_left (List.getElem?_eq_some_iff.1 this).1]
      exact this
  · intro k b hk
    obtain ⟨b', h1, h2⟩ := h.wrt k b hk
    cases k with
    | zero => exact ⟨.dead, rfl, by cases b <;> trivial⟩
    | succ k =>
      simp only [List.getElem?_cons_succ] at h1 ⊢
      refine ⟨b', ?_, h2⟩
      rw [List.getElem?_append_left (List.getElem?_eq_some_iff.1 h1).1]
      exact h1
  · intro k e hk he
    cases k with
    | zero => simp at he; subst he; rfl
    | succ k =>
      simp only [List.getElem?_cons_succ] at he
      by_cases hlt : k < R.length
      · rw [List.getElem?_append_left hlt] at he
        exact h.new (k + 1) e hk (by simpa using he)
      · rw [List.getElem?_append_right (by omega)] at he
        have := List.mem_of_getElem? he
        simp at this
        subst this
        rfl
  · intro wr env w us hh hnew hc
    refine (h.run wr env w us hh hnew hc).mono ?_
    rintro e w' ⟨v, env', rfl, hsame, hr, hv, hfr⟩
    have h0 : ofL ((true, Blk.vec U zs) :: R) 0 = some (true, .vec U zs) := rfl
    simp only [conc, conc2, concC, h0] at hv
    obtain ⟨hn, x, rfl, hx⟩ := hv
    obtain ⟨hcap, hrest⟩ := hr.blk 0 true _ h0
    have hno : ofL ((true, Blk.vec U zs) :: R) (R.length + 1) = none := by simp [ofL]
    have hlen : (zs.take n).length = n := by simp; omega
    have hov := hr.over (w' := w') (zs := zs.take n) h0 hno (x := (x, (env' 0).2)) (fun _ _ _ => rfl) (fun k hk => hnew k (Nat.le_trans hfr.size hk)) (fun H' => by
        refine ⟨by simp [envSet]; omega, ?_⟩
        rcases hrest with hz | ⟨b, off, E, vs, fz, hb1, hheap, hsize, hlies, hfz⟩
        · exact .inl (by simp [envSet, hz])
        · by_cases hz : (env' 0).2 = 0
          · exact .inl (by simp [envSet, hz])
          right
          rcases hx with hx | hx
          · exact absurd hx hz
          rw [hb1] at hx
          simp only [Option.map_some, Nat.zero_mul, add_addr, Nat.add_zero] at hx
          refine ⟨b, off, E, vs, fz, by simp [envSet, hx], hheap, by simpa [envSet] using hsize, ?_, hfz⟩
          intro e he o ho
          rw [hlen] at he
          have := hlies e (by omega) o ho
          have hix : U.ix (zs.take n) e = U.ix zs e := by simp [Ty.ix, List.getD, List.getElem?_take, he]
          rw [hix]
          exact this) (fun y hy => by
        left
        simp only [own, envSet, if_true] at hy ⊢
        split at hy
        · cases hy
        · rename_i hz
          rw [if_neg hz]
          rcases hx with hx | hx
          · exact absurd hx hz
          · rw [hx] at hy
            cases hb : (env' 0).1 with
            | none => rw [hb] at hy; simp at hy
            | some q => rw [hb] at hy; simp [Addr.add] at hy ⊢; exact hy)
    rw [ofL_over] at hov
    refine ⟨_, _, rfl, ?_, hov.2, ?_, hfr⟩
    · intro j hj
      have hl := h.len
      simp only [List.length_cons] at hl
      simp only [envSet]
      rw [if_neg (by omega)]
      exact hsame j hj
    · have : ofL ((true, Blk.dead) :: (R ++ [(true, Blk.vec U (zs.take n))])) (R.length + 1) = some (true, .vec U (zs.take n)) := by simp [ofL]
      simp only [conc, conc2, concC, this, hlen, envSet, if_true, Nat.sub_zero]

theorem fsOk_retake {P : Program} {f : Nat} {fs fs' : Fs} (h : FsOk P f fs) (hr : ∀ args L p r L', fs'.ev args L = some (p, r, L') → ∃ (U : Ty) (zs : List U.El) (R : List Ent) (n : Nat),
    fs.ev args L = some (p, .sl 0 0 n, (true, .vec U zs) :: R) ∧ r = .vec (R.length + 1) ∧ L' = (true, .dead) :: (R ++ [(true, .vec U (zs.take n))])) : FsOk P f fs' :=
  ⟨h.enter, fun args L p r L' he hp => by
    obtain ⟨U, zs, R, n, h1, rfl, rfl⟩ := hr args L p r L' he
    exact fsem_retake (h.sem args L p _ _ h1 hp)⟩

end Go.Proofs.YtnahfbjdicjdpaaGreat.Sym

namespace Go.Proofs.YtnahfbjdicjdpaaGreat.Sym
open Go
set_option linter.unusedVariables false
set_option linter.unusedSimpArgs false
set_option maxRecDepth 100000

/-- How many at the beginning of a list have something. -/
def pref {α : Type} (p : α → Bool) (xs : List α) : Nat := (xs.takeWhile p).length
theorem pref_eq {T : Ty} {p : T.El → Bool} : ∀ {xs : List T.El} {k : Nat}, k ≤ xs.length → (∀ e, e < k → p (T.ix xs e) = true) → (k < xs.length → p (T.ix xs k) = false) → pref p xs = k
  | [], k, h, _, _ => by simp at h; subst h; rfl
  | x :: r, 0, _, _, h2 => by
    have h3 : p x = false := h2 (by simp)
    simp [pref, List.takeWhile, h3]
  | x :: r, k + 1, h, h1, h2 => by
    have hx : p x = true := h1 0 (by omega)
    have h3 := pref_eq (xs := r) (k := k) (by simpa using h) (fun e he => h1 (e + 1) (by omega)) (fun hk => h2 (by simpa using hk))
    simp only [pref] at h3
    simp [pref, List.takeWhile, hx, h3]
theorem pref_spec {T : Ty} {p : T.El → Bool} : ∀ (xs : List T.El), pref p xs ≤ xs.length ∧ (∀ e, e < pref p xs → p (T.ix xs e) = true) ∧ (pref p xs < xs.length → p (T.ix xs (pref p xs)) = false)
  | [] => ⟨by simp [pref], fun e h => by simp [pref] at h, fun h => by simp at h⟩
  | x :: r => by
    cases hx : p x with
    | false =>
      have e : pref p (x :: r) = 0 := by simp [pref, List.takeWhile, hx]
      rw [e]
      exact ⟨by simp, fun e h => by omega, fun _ => hx⟩
    | true =>
      obtain ⟨h1, h2, h3⟩ := pref_spec r
      have e : pref p (x :: r) = pref p r + 1 := by simp [pref, List.takeWhile, hx]
      rw [e]
      refine ⟨by simpa using h1, fun e h => ?_, fun h => h3 (by simpa using h)⟩
      cases e with
      | zero => exact hx
      | succ e => exact h2 e (by omega)

end Go.Proofs.YtnahfbjdicjdpaaGreat.Sym

namespace Go.Proofs.YtnahfbjdicjdpaaGreat.Sym
open Go
set_option linter.unusedVariables false
set_option linter.unusedSimpArgs false
set_option maxRecDepth 100000

theorem filter_drop {T : Ty} (p : T.El → Bool) {xs : List T.El} {i : Nat} (h : i < xs.length) : (xs.drop i).filter p = (bif p (T.ix xs i) then [T.ix xs i] else []) ++ (xs.drop (i + 1)).filter p := by
  rw [drop_ix (T := T) h]
  cases q : p (T.ix xs i) <;> simp [List.filter, q]
def eqP (a b : Pair) : Bool := a.A == b.A && a.B == b.B
theorem eqP_iff {a b : Pair} : eqP a b = true ↔ a = b := by
  obtain ⟨a1, a2⟩ := a
  obtain ⟨b1, b2⟩ := b
  simp [eqP]
def hasP (ps : List Pair) (p : Pair) : Bool := ps.any fun q => eqP q p
theorem hasP_true {ps : List Pair} {p : Pair} : hasP ps p = true ↔ p ∈ ps := by
  simp only [hasP, List.any_eq_true, eqP_iff]
  exact ⟨fun ⟨x, h, e⟩ => e ▸ h, fun h => ⟨p, h, rfl⟩⟩
theorem hasP_false {ps : List Pair} {p : Pair} (h : ∀ e, e < ps.length → eqP (Ty.ix .pair ps e) p = false) : hasP ps p = false := by
  cases q : hasP ps p with
  | false => rfl
  | true =>
    have hm := hasP_true.1 q
    obtain ⟨i, hi, e⟩ := List.mem_iff_getElem.1 hm
    have := h i hi
    rw [ix_eq (T := .pair) (List.getElem?_eq_getElem hi), e, eqP_iff.2 rfl] at this
    cases this
theorem hasP_at {ps : List Pair} {p : Pair} {i : Nat} (hi : i < ps.length) (h : eqP (Ty.ix .pair ps i) p = true) : hasP ps p = true := by
  refine hasP_true.2 ?_
  rw [← eqP_iff.1 h]
  exact List.mem_of_getElem? (ix_get (T := .pair) hi)
def newF (was now : List Pair) : List Pair := now.filter fun p => !hasP was p
theorem newF_drop {was now : List Pair} {i : Nat} (h : i < now.length) : newF was (now.drop i) = (bif !hasP was (Ty.ix .pair now i) then [Ty.ix .pair now i] else []) ++ newF was (now.drop (i + 1)) := filter_drop (T := .pair) _ h
theorem length_newF (was now : List Pair) : (newF was now).length ≤ now.length := List.length_filter_le _ _
def LSl4In  : LS where
  S := List Pair × Unit × Pair × Int
  live := [(0, [none]), (3, [none]), (5, [none])]
  shape := fun s => ([.vec 0, .ptr 1 0 0, .int .i64 s.2.2.2], [(false, .vec .pair s.1), (true, .box [.int .i64 s.2.2.1.A, .int .i64 s.2.2.1.B])])
  get := fun v h => match v, h with
    | [.vec 0, .ptr 1 0 0, .int .i64 i], [(false, .vec .pair ps), (true, .box [.int .i64 pA, .int .i64 pB])] => some (ps, (), (Pair.mk pA pB), i)
    | _, _ => none
  inv := fun s0 s => Holds (s.1 = s0.1 ∧ s.2.2.1 = s0.2.2.1 ∧ 0 ≤ s.2.2.2 ∧ s.2.2.2 ≤ s0.1.length ∧ (∀ e, e < s.2.2.2.toNat → eqP (Ty.ix .pair s0.1 e) s0.2.2.1 = false))
  mu := fun s => ((s.1.length : Int) - s.2.2.2).toNat
  ok := by
    intro v h s hg
    try dsimp only at hg
    split at hg <;> cases hg
    rfl

def L_l4In : Loops := fun n => match n with
  | 2 => some LSl4In
  | _ => none
noncomputable def fs_l4In : Fs := ⟨[], fun args H => match args, H with
  | [.vec 0, .agg [.int .i64 pA, .int .i64 pB]], [(false, .vec .pair ps)] => some ((some (ps.length ≤ 1048576)), .bool (hasP ps (Pair.mk pA pB)), [(false, .vec .pair ps)])
  | _, _ => none⟩

theorem vc_l4In (ps : List Pair) (pA : Int) (pB : Int) (Q : SV → List Ent → Prop) :
    fnVC tt (look []) (L_l4In) Tryz.f118 [.vec 0, .agg [.int .i64 pA, .int .i64 pB]] [(false, .vec .pair ps)] Q =
    (Holds (ps = ps ∧ Pair.mk pA pB = Pair.mk pA pB ∧ (0 : Int) ≤ (0 : Int) ∧ (0 : Int) ≤ (↑(List.length ps) : Int) ∧ ∀ (e : Nat), e < Int.toNat (0 : Int) → eqP (Ty.ix Ty.pair ps e) (Pair.mk pA pB) = false) ∧ ∀ (x : List Pair × Unit × Pair × Int), Holds (Prod.fst x = ps ∧ Prod.fst (Prod.snd (Prod.snd x)) = Pair.mk pA pB ∧ (0 : Int) ≤ Prod.snd (Prod.snd (Prod.snd x)) ∧ Prod.snd (Prod.snd (Prod.snd x)) ≤ (↑(List.length ps) : Int) ∧ ∀ (e : Nat), e < Int.toNat (Prod.snd (Prod.snd (Prod.snd x))) → eqP (Ty.ix Ty.pair ps e) (Pair.mk pA pB) = false) → ifB (decide (Prod.snd (Prod.snd (Prod.snd x)) < (↑(List.length (Prod.fst x)) : Int))) (((0 : Int) ≤ Prod.snd (Prod.snd (Prod.snd x)) ∧ Prod.snd (Prod.snd (Prod.snd x)) < (↑(List.length (Prod.fst x)) : Int)) ∧ ifB (Pair.A (Ty.ix Ty.pair (Prod.fst x) (Int.toNat (Prod.snd (Prod.snd (Prod.snd x))))) == Pair.A (Prod.fst (Prod.snd (Prod.snd x))) && Pair.B (Ty.ix Ty.pair (Prod.fst x) (Int.toNat (Prod.snd (Prod.snd (Prod.snd x))))) == Pair.B (Prod.fst (Prod.snd (Prod.snd x)))) (Q (SV.bool true) [(false, Blk.vec Ty.pair (Prod.fst x))]) (Holds (Prod.fst x = ps ∧ Prod.fst (Prod.snd (Prod.snd x)) = Pair.mk pA pB ∧ (0 : Int) ≤ IntKind.wrap IntKind.i64 (Prod.snd (Prod.snd (Prod.snd x)) + (1 : Int)) ∧ IntKind.wrap IntKind.i64 (Prod.snd (Prod.snd (Prod.snd x)) + (1 : Int)) ≤ (↑(List.length ps) : Int) ∧ ∀ (e : Nat), e < Int.toNat (IntKind.wrap IntKind.i64 (Prod.snd (Prod.snd (Prod.snd x)) + (1 : Int))) → eqP (Ty.ix Ty.pair ps e) (Pair.mk pA pB) = false) ∧ Int.toNat ((↑(List.length (Prod.fst x)) : Int) - IntKind.wrap IntKind.i64 (Prod.snd (Prod.snd (Prod.snd x)) + (1 : Int))) < Int.toNat ((↑(List.length (Prod.fst x)) : Int) - Prod.snd (Prod.snd (Prod.snd x))))) (Q (SV.bool false) [(false, Blk.vec Ty.pair (Prod.fst x))])) := by kernel_rfl

theorem ok_l4In : FsOk Tryz.prog 118 fs_l4In := fsOk_of tt_ok tabFs_nil mixed Tryz.func118 (by kernel_rfl) (by kernel_rfl) (by
    intro args LL p r HH h hp
    unfold fs_l4In at h
    dsimp only at h
    split at h
    case h_2 => cases h
    rename_i pA pB ps
    simp only [Option.some.injEq, Prod.mk.injEq] at h
    obtain ⟨rfl, rfl, rfl⟩ := h
    refine ⟨by simp [Form, stays], (L_l4In), ?_⟩
    rw [vc_l4In]
    try dsimp only
    have hb := hp _ rfl
    refine ⟨⟨(by trivial), (by trivial), by omega, by omega, fun e he => absurd he (by simp)⟩, ?_⟩
    rintro ⟨ps', u, p', i⟩ ⟨h⟩
    dsimp only at h ⊢
    obtain ⟨rfl, rfl, i0, i1, i2⟩ := h
    refine ifB_of (fun c => ?_) (fun c => ?_)
    · have c := of_decide_eq_true c
      refine ⟨⟨i0, c⟩, ifB_of (fun c2 => ?_) (fun c2 => ?_)⟩
      · exact ⟨by rw [hasP_at (by omega) c2], (by trivial)⟩
      · have w : IntKind.i64.wrap (i + 1) = i + 1 := wrap_small (by omega) (by omega)
        rw [w]
        refine ⟨⟨(by trivial), (by trivial), by omega, by omega, fun e he => ?_⟩, by omega⟩
        by_cases q : e = i.toNat
        · rw [q]; exact c2
        · exact i2 e (by omega)
    · have c := of_decide_eq_false c
      exact ⟨by rw [hasP_false fun e he => i2 e (by omega)], (by trivial)⟩)

def LSidxPair  : LS where
  S := List Pair × Unit × Pair × Int × Int
  live := [(0, [none]), (3, [none]), (7, [none]), (8, [none])]
  shape := fun s => ([.vec 0, .ptr 1 0 0, .int .i64 s.2.2.2.1, .int .i64 s.2.2.2.2], [(false, .vec .pair s.1), (true, .box [.int .i64 s.2.2.1.A, .int .i64 s.2.2.1.B])])
  get := fun v h => match v, h with
    | [.vec 0, .ptr 1 0 0, .int .i64 n, .int .i64 i], [(false, .vec .pair ps), (true, .box [.int .i64 pA, .int .i64 pB])] => some (ps, (), (Pair.mk pA pB), n, i)
    | _, _ => none
  inv := fun s0 s => Holds (s.1 = s0.1 ∧ s.2.2.1 = s0.2.2.1 ∧ s.2.2.2.1 = s0.1.length ∧ 0 ≤ s.2.2.2.2 ∧ s.2.2.2.2 ≤ s0.1.length ∧ (∀ e, e < s.2.2.2.2.toNat → eqP s0.2.2.1 (Ty.ix .pair s0.1 e) = false))
  mu := fun s => ((s.1.length : Int) - s.2.2.2.2).toNat
  ok := by
    intro v h s hg
    try dsimp only at hg
    split at hg <;> cases hg
    rfl

def L_idxPair : Loops := fun n => match n with
  | 2 => some LSidxPair
  | _ => none
noncomputable def fs_idxPair : Fs := ⟨[], fun args H => match args, H with
  | [.vec 0, .agg [.int .i64 pA, .int .i64 pB]], [(false, .vec .pair ps)] => some ((some (ps.length ≤ 1048576)), .int .i64 (firstI (fun y : Pair => eqP (Pair.mk pA pB) y) ps), [(false, .vec .pair ps)])
  | _, _ => none⟩

theorem vc_idxPair (ps : List Pair) (pA : Int) (pB : Int) (Q : SV → List Ent → Prop) :
    fnVC tt (look []) (L_idxPair) Tryz.f142 [.vec 0, .agg [.int .i64 pA, .int .i64 pB]] [(false, .vec .pair ps)] Q =
    (Holds (ps = ps ∧ Pair.mk pA pB = Pair.mk pA pB ∧ (↑(List.length ps) : Int) = (↑(List.length ps) : Int) ∧ (0 : Int) ≤ (0 : Int) ∧ (0 : Int) ≤ (↑(List.length ps) : Int) ∧ ∀ (e : Nat), e < Int.toNat (0 : Int) → eqP (Pair.mk pA pB) (Ty.ix Ty.pair ps e) = false) ∧ ∀ (x : List Pair × Unit × Pair × Int × Int), Holds (Prod.fst x = ps ∧ Prod.fst (Prod.snd (Prod.snd x)) = Pair.mk pA pB ∧ Prod.fst (Prod.snd (Prod.snd (Prod.snd x))) = (↑(List.length ps) : Int) ∧ (0 : Int) ≤ Prod.snd (Prod.snd (Prod.snd (Prod.snd x))) ∧ Prod.snd (Prod.snd (Prod.snd (Prod.snd x))) ≤ (↑(List.length ps) : Int) ∧ ∀ (e : Nat), e < Int.toNat (Prod.snd (Prod.snd (Prod.snd (Prod.snd x)))) → eqP (Pair.mk pA pB) (Ty.ix Ty.pair ps e) = false) → ifB (decide (Prod.snd (Prod.snd (Prod.snd (Prod.snd x))) < Prod.fst (Prod.snd (Prod.snd (Prod.snd x))))) (((0 : Int) ≤ Prod.snd (Prod.snd (Prod.snd (Prod.snd x))) ∧ Prod.snd (Prod.snd (Prod.snd (Prod.snd x))) < (↑(List.length (Prod.fst x)) : Int)) ∧ ifB (Pair.A (Prod.fst (Prod.snd (Prod.snd x))) == Pair.A (Ty.ix Ty.pair (Prod.fst x) (Int.toNat (Prod.snd (Prod.snd (Prod.snd (Prod.snd x)))))) && Pair.B (Prod.fst (Prod.snd (Prod.snd x))) == Pair.B (Ty.ix Ty.pair (Prod.fst x) (Int.toNat (Prod.snd (Prod.snd (Prod.snd (Prod.snd x))))))) (Q (SV.int IntKind.i64 (Prod.snd (Prod.snd (Prod.snd (Prod.snd x))))) [(false, Blk.vec Ty.pair (Prod.fst x))]) (Holds (Prod.fst x = ps ∧ Prod.fst (Prod.snd (Prod.snd x)) = Pair.mk pA pB ∧ Prod.fst (Prod.snd (Prod.snd (Prod.snd x))) = (↑(List.length ps) : Int) ∧ (0 : Int) ≤ IntKind.wrap IntKind.i64 (Prod.snd (Prod.snd (Prod.snd (Prod.snd x))) + (1 : Int)) ∧ IntKind.wrap IntKind.i64 (Prod.snd (Prod.snd (Prod.snd (Prod.snd x))) + (1 : Int)) ≤ (↑(List.length ps) : Int) ∧ ∀ (e : Nat), e < Int.toNat (IntKind.wrap IntKind.i64 (Prod.snd (Prod.snd (Prod.snd (Prod.snd x))) + (1 : Int))) → eqP (Pair.mk pA pB) (Ty.ix Ty.pair ps e) = false) ∧ Int.toNat ((↑(List.length (Prod.fst x)) : Int) - IntKind.wrap IntKind.i64 (Prod.snd (Prod.snd (Prod.snd (Prod.snd x))) + (1 : Int))) < Int.toNat ((↑(List.length (Prod.fst x)) : Int) - Prod.snd (Prod.snd (Prod.snd (Prod.snd x)))))) (Q (SV.int IntKind.i64 (-1 : Int)) [(false, Blk.vec Ty.pair (Prod.fst x))])) := by kernel_rfl

theorem ok_idxPair : FsOk Tryz.prog 142 fs_idxPair := fsOk_of tt_ok tabFs_nil mixed Tryz.func142 (by kernel_rfl) (by kernel_rfl) (by
    intro args LL p r HH h hp
    unfold fs_idxPair at h
    dsimp only at h
    split at h
    case h_2 => cases h
    rename_i pA pB ps
    simp only [Option.some.injEq, Prod.mk.injEq] at h
    obtain ⟨rfl, rfl, rfl⟩ := h
    refine ⟨by simp [Form, stays], (L_idxPair), ?_⟩
    rw [vc_idxPair]
    try dsimp only
    have hb := hp _ rfl
    refine ⟨⟨(by trivial), (by trivial), (by trivial), by omega, by omega, fun e he => absurd he (by simp)⟩, ?_⟩
    rintro ⟨ps', u, p', n, i⟩ ⟨h⟩
    dsimp only at h ⊢
    obtain ⟨rfl, rfl, rfl, i0, i1, i2⟩ := h
    refine ifB_of (fun c => ?_) (fun c => ?_)
    · have c := of_decide_eq_true c
      refine ⟨⟨i0, c⟩, ifB_of (fun c2 => ?_) (fun c2 => ?_)⟩
      · rw [firstI_at (T := .pair) (i := i.toNat) (by omega) c2 i2]
        refine ⟨?_, (by trivial)⟩
        congr 1
        omega
      · have w : IntKind.i64.wrap (i + 1) = i + 1 := wrap_small (by omega) (by omega)
        rw [w]
        refine ⟨⟨(by trivial), (by trivial), (by trivial), by omega, by omega, fun e he => ?_⟩, by omega⟩
        by_cases q : e = i.toNat
        · rw [q]; exact c2
        · exact i2 e (by omega)
    · have c := of_decide_eq_false c
      rw [firstI_no (T := .pair) fun k hk => i2 k (by omega)]
      exact ⟨rfl, rfl⟩)

theorem firstI_any {α : Type} (p : α → Bool) (xs : List α) : decide (firstI p xs ≥ 0) = xs.any p := by
  unfold firstI
  cases xs.any p with
  | true => simp
  | false => rfl
theorem eqP_comm (a b : Pair) : eqP a b = eqP b a := by
  cases q : eqP b a with
  | true => rw [eqP_iff.1 q]; exact eqP_iff.2 rfl
  | false =>
    cases q2 : eqP a b with
    | false => rfl
    | true => rw [eqP_iff.1 q2, eqP_iff.2 rfl] at q; cases q
theorem firstI_has {ps : List Pair} {p : Pair} : decide (firstI (fun y : Pair => eqP p y) ps ≥ 0) = hasP ps p := by
  rw [firstI_any]
  unfold hasP
  congr 1
  funext y
  exact eqP_comm p y
noncomputable def fs_hasPair : Fs := ⟨[], fun args H => match args, H with
  | [.vec 0, .agg [.int .i64 pA, .int .i64 pB]], [(false, .vec .pair ps)] => some ((some (ps.length ≤ 1048576)), .bool (hasP ps (Pair.mk pA pB)), [(false, .vec .pair ps)])
  | _, _ => none⟩

theorem vc_hasPair (ps : List Pair) (pA : Int) (pB : Int) (Q : SV → List Ent → Prop) :
    fnVC tt (look [(142, fs_idxPair)]) L0 Tryz.f117 [.vec 0, .agg [.int .i64 pA, .int .i64 pB]] [(false, .vec .pair ps)] Q =
    (List.length ps ≤ (1048576 : Nat) ∧ Q (SV.bool (decide (firstI (fun y => eqP (Pair.mk pA pB) y) ps ≥ (0 : Int)))) [(false, Blk.vec Ty.pair ps)]) := by kernel_rfl

theorem ok_hasPair : FsOk Tryz.prog 117 fs_hasPair := fsOk_of tt_ok (tabFs_cons ok_idxPair tabFs_nil) mixed Tryz.func117 (by kernel_rfl) (by kernel_rfl) (by
    intro args LL p r HH h hp
    unfold fs_hasPair at h
    dsimp only at h
    split at h
    case h_2 => cases h
    rename_i pA pB ps
    simp only [Option.some.injEq, Prod.mk.injEq] at h
    obtain ⟨rfl, rfl, rfl⟩ := h
    refine ⟨by simp [Form, stays], L0, ?_⟩
    rw [vc_hasPair]
    try dsimp only
    have hb := hp _ rfl
    refine ⟨hb, ?_⟩
    rw [firstI_has]
    exact ⟨rfl, rfl⟩)

def LSothers  : LS where
  S := List Pair × List Pair × Unit × List Pair × Unit × Int × Int
  live := [(1, [none]), (5, [some .pair]), (8, [none]), (9, [none]), (10, [none])]
  shape := fun s => ([.vec 1, .vec 2, .vec 0, .int .i64 s.2.2.2.2.2.1, .int .i64 s.2.2.2.2.2.2], [(false, .vec .pair s.1), (false, .vec .pair s.2.1), (true, .vec .pair s.2.2.2.1)])
  get := fun v h => match v, h with
    | [.vec 1, .vec 2, .vec 0, .int .i64 n, .int .i64 i], [(false, .vec .pair ls), (false, .vec .pair os), (true, .vec .pair out)] => some (ls, os, (), out, (), n, i)
    | _, _ => none
  inv := fun s0 s => Holds (s.1 = s0.1 ∧ s.2.1 = s0.2.1 ∧ s.2.2.2.2.2.1 = s0.1.length ∧ 0 ≤ s.2.2.2.2.2.2 ∧ s.2.2.2.2.2.2 ≤ s0.1.length ∧ s.2.2.2.1 ++ newF s0.2.1 (s0.1.drop s.2.2.2.2.2.2.toNat) = newF s0.2.1 s0.1)
  mu := fun s => ((s.1.length : Int) - s.2.2.2.2.2.2).toNat
  ok := by
    intro v h s hg
    try dsimp only at hg
    split at hg <;> cases hg
    rfl

def L_others : Loops := fun n => match n with
  | 3 => some LSothers
  | _ => none
noncomputable def fs_others : Fs := ⟨[], fun args H => match args, H with
  | [.vec 0, .vec 1], [(false, .vec .pair ls), (false, .vec .pair os)] => some ((some (ls.length ≤ 1048576 ∧ os.length ≤ 1048576)), .vec 2, [(false, .vec .pair ls), (false, .vec .pair os), (true, .vec .pair (newF os ls))])
  | _, _ => none⟩

theorem vc_others (ls : List Pair) (os : List Pair) (Q : SV → List Ent → Prop) :
    fnVC tt (look [(117, fs_hasPair)]) (L_others) Tryz.f74 [.vec 0, .vec 1] [(false, .vec .pair ls), (false, .vec .pair os)] Q =
    (let w_ := IntKind.wrap IntKind.i64; let n_ := Int.toNat; Holds (ls = ls ∧ os = os ∧ (↑(List.length ls) : Int) = (↑(List.length ls) : Int) ∧ (0 : Int) ≤ (0 : Int) ∧ (0 : Int) ≤ (↑(List.length ls) : Int) ∧ [] ++ newF os (List.drop (n_ (0 : Int)) ls) = newF os ls) ∧ ∀ (y1 : List Pair × List Pair × Unit × List Pair × Unit × Int × Int), let y1f0_ := Prod.fst y1; let y1s1_ := Prod.snd y1; let y1f1_ := Prod.fst (Prod.snd y1); let y1f3_ := Prod.fst (Prod.snd (Prod.snd (Prod.snd y1))); let y1s5_ := Prod.snd (Prod.snd (Prod.snd (Prod.snd (Prod.snd y1)))); let y1f5_ := Prod.fst (Prod.snd (Prod.snd (Prod.snd (Prod.snd (Prod.snd y1))))); let y1s6_ := Prod.snd (Prod.snd (Prod.snd (Prod.snd (Prod.snd (Prod.snd y1))))); let A4_ := (↑(List.length y1f0_) : Int); let A3_ := (↑(List.length ls) : Int); let A2_ := (Prod.snd y1s5_ + (1 : Int)); Holds (Prod.fst y1 = ls ∧ y1f1_ = os ∧ y1f5_ = A3_ ∧ (0 : Int) ≤ y1s6_ ∧ y1s6_ ≤ A3_ ∧ y1f3_ ++ newF os (List.drop (n_ y1s6_) ls) = newF os ls) → ifB (decide (Prod.snd y1s5_ < y1f5_)) (((0 : Int) ≤ y1s6_ ∧ y1s6_ < A4_) ∧ List.length y1f1_ ≤ (1048576 : Nat) ∧ ifB (!hasP y1f1_ (Ty.ix Ty.pair y1f0_ (n_ y1s6_))) ((List.length y1f3_ + List.length [Ty.ix Ty.pair y1f0_ (n_ y1s6_)]) * (16 : Nat) ≤ room ∧ Holds (Prod.fst y1 = ls ∧ y1f1_ = os ∧ y1f5_ = A3_ ∧ (0 : Int) ≤ w_ A2_ ∧ w_ A2_ ≤ A3_ ∧ y1f3_ ++ [Ty.ix Ty.pair y1f0_ (n_ y1s6_)] ++ newF os (List.drop (n_ (w_ A2_)) ls) = newF os ls) ∧ n_ (A4_ - w_ A2_) < n_ (A4_ - y1s6_)) (Holds (Prod.fst y1 = ls ∧ y1f1_ = os ∧ y1f5_ = A3_ ∧ (0 : Int) ≤ w_ A2_ ∧ w_ A2_ ≤ A3_ ∧ y1f3_ ++ newF os (List.drop (n_ (w_ A2_)) ls) = newF os ls) ∧ n_ (A4_ - w_ A2_) < n_ (A4_ - y1s6_))) (Q (SV.vec (2 : Nat)) [(false, Blk.vec Ty.pair y1f0_), (false, Blk.vec Ty.pair y1f1_), (true, Blk.vec Ty.pair y1f3_)])) := by kernel_rfl

theorem ok_others : FsOk Tryz.prog 74 fs_others := fsOk_of tt_ok (tabFs_cons ok_hasPair tabFs_nil) mixed Tryz.func74 (by kernel_rfl) (by kernel_rfl) (by
    intro args LL p r HH h hp
    unfold fs_others at h
    dsimp only at h
    split at h
    case h_2 => cases h
    rename_i ls os
    simp only [Option.some.injEq, Prod.mk.injEq] at h
    obtain ⟨rfl, rfl, rfl⟩ := h
    refine ⟨by simp [Form, stays], (L_others), ?_⟩
    rw [vc_others]
    try dsimp only
    obtain ⟨hb, hb2⟩ := hp _ rfl
    refine ⟨⟨(by trivial), (by trivial), (by trivial), by omega, by omega, (by trivial)⟩, ?_⟩
    rintro ⟨ls', os', u, out, v, n, i⟩ ⟨h⟩
    dsimp only at h ⊢
    obtain ⟨rfl, rfl, rfl, i0, i1, i2⟩ := h
    have hs := length_newF os' ls'
    have hs2 := congrArg List.length i2
    rw [List.length_append] at hs2
    refine ifB_of (fun c => ?_) (fun c => ?_)
    · have c := of_decide_eq_true c
      have e1 : (i + 1).toNat = i.toNat + 1 := by omega
      have w : IntKind.i64.wrap (i + 1) = i + 1 := wrap_small (by omega) (by omega)
      rw [newF_drop (show i.toNat < ls'.length by omega)] at i2
      rw [w, e1]
      refine ⟨⟨i0, c⟩, hb2, ifB_of (fun c2 => ?_) (fun c2 => ?_)⟩
      · have c2 : (!hasP os' (Ty.ix .pair ls' i.toNat)) = true := c2
        rw [c2] at i2
        refine ⟨by simp only [room, List.length_singleton]; omega, ⟨(by trivial), (by trivial), (by trivial), by omega, by omega, ?_⟩, by omega⟩
        rw [← i2, List.append_assoc]
        rfl
      · have c2 : (!hasP os' (Ty.ix .pair ls' i.toNat)) = false := c2
        rw [c2] at i2
        exact ⟨⟨(by trivial), (by trivial), (by trivial), by omega, by omega, i2⟩, by omega⟩
    · have c := of_decide_eq_false c
      rw [drop_end (by omega)] at i2
      rw [← i2]
      simp [newF])

end Go.Proofs.YtnahfbjdicjdpaaGreat.Sym

