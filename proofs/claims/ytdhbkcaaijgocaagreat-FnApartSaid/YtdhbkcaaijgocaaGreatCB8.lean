/-
  What the rows of this claim stand on, part 8: the machine, the walks, the plain laws, as far as they are used.
  No condition.
-/
import Derived.Test.YtdhbkcaaijgocaaGreatCB7
namespace Go.Proofs.YtdhbkcaaijgocaaGreat.Sym
open Go
set_option linter.unusedVariables false
set_option linter.unusedSimpArgs false
set_option maxRecDepth 100000
noncomputable section

theorem off_of {xs : List Body} {cs : List Contact} (hl : (pushAllB xs cs).length = xs.length) {i : Int} (i0 : 0 ≤ i) (i1 : i < xs.length) (hn : xs.length ≤ 1048576) (h : ∀ j, j < cs.length → (Ty.ix .contact cs j).A ≠ i ∧ (Ty.ix .contact cs j).B ≠ i) :
    Ty.ix .body (pushAllB xs cs) i.toNat = Ty.ix .body xs i.toNat ∧ Ty.ix .body (apartB xs cs) i.toNat = Ty.ix .body xs i.toNat ∧ (apartB xs cs).length = xs.length := by
  unfold pushAllB apartB at *
  cases q : pushesOk xs cs with
  | false =>
    rw [q] at hl
    simp only [cond_false, List.length_nil] at hl
    omega
  | true =>
    simp only [cond_true]
    simp only [pushesOk, Bool.and_eq_true] at q
    have hc := ctsI_ok hn q.2
    have off : ∀ c, c ∈ cs → offC i.toNat c := fun c hcm => by
      obtain ⟨j, hj, e⟩ := List.getElem_of_mem hcm
      have e2 : Ty.ix .contact cs j = c := ix_eq (T := .contact) (by rw [← e]; exact List.getElem?_eq_getElem hj)
      have h1 := h j hj
      have h2 := hc.2 j hj
      rw [e2] at h1 h2
      obtain ⟨a0, a1, b0, b1, _⟩ := h2
      exact ⟨by omega, by omega⟩
    exact ⟨pushAllF_off off, apartF_off off, length_apartF _ _⟩
def LSlps1  : LS where
  S := List Int × List Body × List Contact × List Body × List Body × Int
  live := [(3, [some .body]), (4, [some .contact]), (5, [some .body]), (6, [some .body]), (7, [none])]
  shape := fun s => ([.vec 1, .vec 2, .vec 3, .vec 4, .int .i64 s.2.2.2.2.2], [(false, .vec .byte s.1), (true, .vec .body s.2.1), (true, .vec .contact s.2.2.1), (true, .vec .body s.2.2.2.1), (true, .vec .body s.2.2.2.2.1)])
  get := fun v h => match v, h with
    | [.vec 1, .vec 2, .vec 3, .vec 4, .int .i64 i], [(false, .vec .byte b), (true, .vec .body xs), (true, .vec .contact cs), (true, .vec .body us), (true, .vec .body vs)] => some (b, xs, cs, us, vs, i)
    | _, _ => none
  inv := fun s0 s => Holds (s.1 = s0.1 ∧ s.2.1 = s0.2.1 ∧ s.2.2.1 = s0.2.2.1 ∧ s.2.2.2.1 = s0.2.2.2.1 ∧ s.2.2.2.2.1 = s0.2.2.2.2.1 ∧ 0 ≤ s.2.2.2.2.2 ∧ s.2.2.2.2.2 ≤ s0.2.1.length)
  mu := fun s => ((s.2.1.length : Int) - s.2.2.2.2.2).toNat
  ok := by
    intro v h s hg
    try dsimp only at hg
    split at hg <;> cases hg
    rfl

def LSlps2  : LS where
  S := List Int × List Body × List Contact × List Body × List Body × Int × Bool × Int
  live := [(3, [some .body]), (4, [some .contact]), (5, [some .body]), (6, [some .body]), (7, [none]), (8, [none]), (9, [none])]
  shape := fun s => ([.vec 1, .vec 2, .vec 3, .vec 4, .int .i64 s.2.2.2.2.2.1, .bool s.2.2.2.2.2.2.1, .int .i64 s.2.2.2.2.2.2.2], [(false, .vec .byte s.1), (true, .vec .body s.2.1), (true, .vec .contact s.2.2.1), (true, .vec .body s.2.2.2.1), (true, .vec .body s.2.2.2.2.1)])
  get := fun v h => match v, h with
    | [.vec 1, .vec 2, .vec 3, .vec 4, .int .i64 i, .bool sm, .int .i64 k], [(false, .vec .byte b), (true, .vec .body xs), (true, .vec .contact cs), (true, .vec .body us), (true, .vec .body vs)] => some (b, xs, cs, us, vs, i, sm, k)
    | _, _ => none
  inv := fun s0 s => Holds (s.1 = s0.1 ∧ s.2.1 = s0.2.1 ∧ s.2.2.1 = s0.2.2.1 ∧ s.2.2.2.1 = s0.2.2.2.1 ∧ s.2.2.2.2.1 = s0.2.2.2.2.1 ∧ s.2.2.2.2.2.1 = s0.2.2.2.2.2.1 ∧ 0 ≤ s.2.2.2.2.2.2.2 ∧ s.2.2.2.2.2.2.2 ≤ s0.2.2.1.length ∧ (s.2.2.2.2.2.2.1 = false → ∀ j, j < s.2.2.2.2.2.2.2.toNat → (Ty.ix .contact s0.2.2.1 j).A ≠ s0.2.2.2.2.2.1 ∧ (Ty.ix .contact s0.2.2.1 j).B ≠ s0.2.2.2.2.2.1))
  mu := fun s => ((s.2.2.1.length : Int) - s.2.2.2.2.2.2.2).toNat
  ok := by
    intro v h s hg
    try dsimp only at hg
    split at hg <;> cases hg
    rfl

def L_lawPushSome : Loops := fun n => match n with
  | 9 => some LSlps1
  | 13 => some LSlps2
  | _ => none
noncomputable def fs_lawPushSome : Fs := ⟨[], fun args H => match args, H with
  | [.vec 0], [(false, .vec .byte b)] => some ((some (LOk .byte b)), .bool (true), [(false, .vec .byte b)])
  | _, _ => none⟩

theorem vc_lawPushSome (b : List Int) (Q : SV → List Ent → Prop) :
    fnVC tt (look [(33, fs_DrawPushAll), (34, fs_implPushAll), (40, fs_implApart), (36, fs_specPushAll), (35, fs_lawsPqBodies), (41, fs_specApart)]) (L_lawPushSome) Tryz.f7 [.vec 0] [(false, .vec .byte b)] Q =
    (let w_ := IntKind.wrap IntKind.i64; let n_ := Int.toNat; let ic_ := Ty.ix Ty.contact; let vy_ := Blk.vec Ty.byte; let A17_ := (4611686018427387904 : Nat); let A14_ := (Subtype.val (g_DrawPushAll b)); let A16_ := (apartB (Prod.fst A14_) (Prod.snd A14_)); let A15_ := (pushAllB (Prod.fst A14_) (Prod.snd A14_)); ifB (decide ((↑(List.length b) : Int) > (1048576 : Int))) (Q (SV.bool true) [(false, vy_ b)]) (BytesOk b ∧ (List.length (Prod.fst A14_) ≤ (1048576 : Nat) ∧ List.length (Prod.snd A14_) ≤ A17_) ∧ (List.length (Prod.fst A14_) ≤ (1048576 : Nat) ∧ List.length (Prod.snd A14_) ≤ A17_) ∧ (List.length (Prod.fst A14_) ≤ (1048576 : Nat) ∧ List.length (Prod.snd A14_) ≤ A17_) ∧ List.length A15_ ≤ A17_ ∧ ifB (!same A15_ A15_) ((List.length (Prod.fst A14_) ≤ (1048576 : Nat) ∧ List.length (Prod.snd A14_) ≤ A17_) ∧ List.length A15_ ≤ A17_ ∧ ifB (same A15_ A15_) ((List.length (Prod.fst A14_) ≤ (1048576 : Nat) ∧ List.length (Prod.snd A14_) ≤ A17_) ∧ List.length A16_ ≤ A17_ ∧ Q (SV.bool (same A16_ A16_)) [(false, vy_ b)]) (Q (SV.bool false) [(false, vy_ b)])) ((List.length (Prod.fst A14_) ≤ (1048576 : Nat) ∧ List.length (Prod.snd A14_) ≤ A17_) ∧ List.length A16_ ≤ A17_ ∧ ifB (!same A16_ A16_) ((List.length (Prod.fst A14_) ≤ (1048576 : Nat) ∧ List.length (Prod.snd A14_) ≤ A17_) ∧ List.length A15_ ≤ A17_ ∧ ifB (same A15_ A15_) ((List.length (Prod.fst A14_) ≤ (1048576 : Nat) ∧ List.length (Prod.snd A14_) ≤ A17_) ∧ List.length A16_ ≤ A17_ ∧ Q (SV.bool (same A16_ A16_)) [(false, vy_ b)]) (Q (SV.bool false) [(false, vy_ b)])) (ifB ((↑(List.length A15_) : Int) != (↑(List.length (Prod.fst A14_)) : Int)) ((List.length (Prod.fst A14_) ≤ (1048576 : Nat) ∧ List.length (Prod.snd A14_) ≤ A17_) ∧ List.length A15_ ≤ A17_ ∧ ifB (same A15_ A15_) ((List.length (Prod.fst A14_) ≤ (1048576 : Nat) ∧ List.length (Prod.snd A14_) ≤ A17_) ∧ List.length A16_ ≤ A17_ ∧ Q (SV.bool (same A16_ A16_)) [(false, vy_ b)]) (Q (SV.bool false) [(false, vy_ b)])) (Holds (b = b ∧ Prod.fst A14_ = Prod.fst A14_ ∧ Prod.snd A14_ = Prod.snd A14_ ∧ pushAllB (Prod.fst A14_) (Prod.snd A14_) = pushAllB (Prod.fst A14_) (Prod.snd A14_) ∧ apartB (Prod.fst A14_) (Prod.snd A14_) = apartB (Prod.fst A14_) (Prod.snd A14_) ∧ (0 : Int) ≤ (0 : Int) ∧ (0 : Int) ≤ (↑(List.length (Prod.fst A14_)) : Int)) ∧ ∀ (y12 : List Int × List Body × List Contact × List Body × List Body × Int), let y12f0_ := Prod.fst y12; let y12f1_ := Prod.fst (Prod.snd y12); let y12f2_ := Prod.fst (Prod.snd (Prod.snd y12)); let y12s3_ := Prod.snd (Prod.snd (Prod.snd y12)); let y12f3_ := Prod.fst (Prod.snd (Prod.snd (Prod.snd y12))); let y12f4_ := Prod.fst (Prod.snd (Prod.snd (Prod.snd (Prod.snd y12)))); let y12s5_ := Prod.snd (Prod.snd (Prod.snd (Prod.snd (Prod.snd y12)))); let A13_ := A14_; Holds (Prod.fst y12 = b ∧ y12f1_ = Prod.fst A13_ ∧ y12f2_ = Prod.snd A13_ ∧ y12f3_ = pushAllB (Prod.fst A13_) (Prod.snd A13_) ∧ y12f4_ = apartB (Prod.fst A13_) (Prod.snd A13_) ∧ (0 : Int) ≤ y12s5_ ∧ y12s5_ ≤ (↑(List.length (Prod.fst A13_)) : Int)) → ifB (decide (Prod.snd (Prod.snd y12s3_) < (↑(List.length y12f1_) : Int))) (Holds (Prod.fst y12 = y12f0_ ∧ y12f1_ = y12f1_ ∧ y12f2_ = y12f2_ ∧ y12f3_ = y12f3_ ∧ y12f4_ = y12f4_ ∧ y12s5_ = y12s5_ ∧ (0 : Int) ≤ (0 : Int) ∧ (0 : Int) ≤ (↑(List.length y12f2_) : Int) ∧ (false = false → ∀ (j : Nat), j < n_ (0 : Int) → Contact.A (ic_ y12f2_ j) ≠ y12s5_ ∧ Contact.B (ic_ y12f2_ j) ≠ y12s5_)) ∧ ∀ (y1 : List Int × List Body × List Contact × List Body × List Body × Int × Bool × Int), let y1f0_ := Prod.fst y1; let y1s1_ := Prod.snd y1; let y1f1_ := Prod.fst (Prod.snd y1); let y1f2_ := Prod.fst (Prod.snd (Prod.snd y1)); let y1f3_ := Prod.fst (Prod.snd (Prod.snd (Prod.snd y1))); let y1f4_ := Prod.fst (Prod.snd (Prod.snd (Prod.snd (Prod.snd y1)))); let y1s5_ := Prod.snd (Prod.snd (Prod.snd (Prod.snd (Prod.snd y1)))); let y1f5_ := Prod.fst (Prod.snd (Prod.snd (Prod.snd (Prod.snd (Prod.snd y1))))); let y1s6_ := Prod.snd (Prod.snd (Prod.snd (Prod.snd (Prod.snd (Prod.snd y1))))); let y1f6_ := Prod.fst (Prod.snd (Prod.snd (Prod.snd (Prod.snd (Prod.snd (Prod.snd y1)))))); let y1s7_ := Prod.snd (Prod.snd (Prod.snd (Prod.snd (Prod.snd (Prod.snd (Prod.snd y1)))))); let A11_ := (Prod.fst y1s5_ + (1 : Int)); let A10_ := y12s3_; let A9_ := (↑(List.length y1f2_) : Int); let A8_ := (Prod.snd y1s6_ + (1 : Int)); let A7_ := y12f2_; let A6_ := A13_; let A5_ := (Ty.ix Ty.body y1f4_ (n_ y1f5_)); let A4_ := (Ty.ix Ty.body y1f3_ (n_ y1f5_)); let A3_ := (Prod.snd A10_); let A2_ := (Ty.ix Ty.body y1f1_ (n_ y1f5_)); Holds (Prod.fst y1 = y12f0_ ∧ y1f1_ = y12f1_ ∧ y1f2_ = y12f2_ ∧ y1f3_ = Prod.fst A10_ ∧ y1f4_ = Prod.fst A3_ ∧ y1f5_ = Prod.snd A3_ ∧ (0 : Int) ≤ y1s7_ ∧ y1s7_ ≤ (↑(List.length A7_) : Int) ∧ (Prod.fst y1s6_ = false → ∀ (j : Nat), j < n_ y1s7_ → Contact.A (ic_ A7_ j) ≠ Prod.snd A3_ ∧ Contact.B (ic_ A7_ j) ≠ Prod.snd A3_)) → ifB (decide (Prod.snd y1s6_ < A9_)) (ifB y1f6_ (Holds (Prod.fst y1 = y12f0_ ∧ y1f1_ = y12f1_ ∧ y1f2_ = y12f2_ ∧ y1f3_ = Prod.fst A10_ ∧ y1f4_ = Prod.fst A3_ ∧ y1f5_ = Prod.snd A3_ ∧ (0 : Int) ≤ w_ A8_ ∧ w_ A8_ ≤ (↑(List.length A7_) : Int) ∧ (true = false → ∀ (j : Nat), j < n_ (w_ A8_) → Contact.A (ic_ A7_ j) ≠ Prod.snd A3_ ∧ Contact.B (ic_ A7_ j) ≠ Prod.snd A3_)) ∧ n_ (A9_ - w_ A8_) < n_ (A9_ - y1s7_)) (((0 : Int) ≤ y1s7_ ∧ y1s7_ < A9_) ∧ ifB (Contact.A (ic_ y1f2_ (n_ y1s7_)) == y1f5_) (Holds (Prod.fst y1 = y12f0_ ∧ y1f1_ = y12f1_ ∧ y1f2_ = y12f2_ ∧ y1f3_ = Prod.fst A10_ ∧ y1f4_ = Prod.fst A3_ ∧ y1f5_ = Prod.snd A3_ ∧ (0 : Int) ≤ w_ A8_ ∧ w_ A8_ ≤ (↑(List.length A7_) : Int) ∧ (true = false → ∀ (j : Nat), j < n_ (w_ A8_) → Contact.A (ic_ A7_ j) ≠ Prod.snd A3_ ∧ Contact.B (ic_ A7_ j) ≠ Prod.snd A3_)) ∧ n_ (A9_ - w_ A8_) < n_ (A9_ - y1s7_)) (((0 : Int) ≤ y1s7_ ∧ y1s7_ < A9_) ∧ Holds (Prod.fst y1 = y12f0_ ∧ y1f1_ = y12f1_ ∧ y1f2_ = y12f2_ ∧ y1f3_ = Prod.fst A10_ ∧ y1f4_ = Prod.fst A3_ ∧ y1f5_ = Prod.snd A3_ ∧ (0 : Int) ≤ w_ A8_ ∧ w_ A8_ ≤ (↑(List.length A7_) : Int) ∧ ((Contact.B (ic_ y1f2_ (n_ y1s7_)) == y1f5_) = false → ∀ (j : Nat), j < n_ (w_ A8_) → Contact.A (ic_ A7_ j) ≠ Prod.snd A3_ ∧ Contact.B (ic_ A7_ j) ≠ Prod.snd A3_)) ∧ n_ (A9_ - w_ A8_) < n_ (A9_ - y1s7_)))) (ifB (!y1f6_) (((0 : Int) ≤ y1f5_ ∧ y1f5_ < (↑(List.length y1f3_) : Int)) ∧ ((0 : Int) ≤ y1f5_ ∧ y1f5_ < (↑(List.length y1f1_) : Int)) ∧ ifB (!(Body.Id A4_ == Body.Id A2_ && (Shape.Kind (Body.Shape A4_) == Shape.Kind (Body.Shape A2_) && (Shape.Wide (Body.Shape A4_) == Shape.Wide (Body.Shape A2_) && (Shape.High (Body.Shape A4_) == Shape.High (Body.Shape A2_) && (Vec.X (Body.At A4_) == Vec.X (Body.At A2_) && (Vec.Y (Body.At A4_) == Vec.Y (Body.At A2_) && (Vec.X (Body.Drive A4_) == Vec.X (Body.Drive A2_) && (Vec.Y (Body.Drive A4_) == Vec.Y (Body.Drive A2_) && (Body.Mass A4_ == Body.Mass A2_ && (Body.Bounce A4_ == Body.Bounce A2_ && (Body.Rub A4_ == Body.Rub A2_ && Body.Quiet A4_ == Body.Quiet A2_)))))))))))) (Q (SV.bool false) [(false, vy_ y1f0_)]) (((0 : Int) ≤ y1f5_ ∧ y1f5_ < (↑(List.length y1f4_) : Int)) ∧ ((0 : Int) ≤ y1f5_ ∧ y1f5_ < (↑(List.length y1f1_) : Int)) ∧ ifB (!(Body.Id A5_ == Body.Id A2_ && (Shape.Kind (Body.Shape A5_) == Shape.Kind (Body.Shape A2_) && (Shape.Wide (Body.Shape A5_) == Shape.Wide (Body.Shape A2_) && (Shape.High (Body.Shape A5_) == Shape.High (Body.Shape A2_) && (Vec.X (Body.At A5_) == Vec.X (Body.At A2_) && (Vec.Y (Body.At A5_) == Vec.Y (Body.At A2_) && (Vec.X (Body.Drive A5_) == Vec.X (Body.Drive A2_) && (Vec.Y (Body.Drive A5_) == Vec.Y (Body.Drive A2_) && (Body.Mass A5_ == Body.Mass A2_ && (Body.Bounce A5_ == Body.Bounce A2_ && (Body.Rub A5_ == Body.Rub A2_ && Body.Quiet A5_ == Body.Quiet A2_)))))))))))) (Q (SV.bool false) [(false, vy_ y1f0_)]) (Holds (Prod.fst y1 = b ∧ y1f1_ = Prod.fst A6_ ∧ y1f2_ = Prod.snd A6_ ∧ y1f3_ = pushAllB (Prod.fst A6_) (Prod.snd A6_) ∧ y1f4_ = apartB (Prod.fst A6_) (Prod.snd A6_) ∧ (0 : Int) ≤ w_ A11_ ∧ w_ A11_ ≤ (↑(List.length (Prod.fst A6_)) : Int)) ∧ n_ ((↑(List.length y1f1_) : Int) - w_ A11_) < n_ ((↑(List.length y12f1_) : Int) - Prod.snd A3_)))) (Holds (Prod.fst y1 = b ∧ y1f1_ = Prod.fst A6_ ∧ y1f2_ = Prod.snd A6_ ∧ y1f3_ = pushAllB (Prod.fst A6_) (Prod.snd A6_) ∧ y1f4_ = apartB (Prod.fst A6_) (Prod.snd A6_) ∧ (0 : Int) ≤ w_ A11_ ∧ w_ A11_ ≤ (↑(List.length (Prod.fst A6_)) : Int)) ∧ n_ ((↑(List.length y1f1_) : Int) - w_ A11_) < n_ ((↑(List.length y12f1_) : Int) - Prod.snd A3_)))) (Q (SV.bool true) [(false, vy_ y12f0_)])))))) := by kernel_rfl

theorem ok_lawPushSome : FsOk Tryz.prog 7 fs_lawPushSome := fsOk_of tt_ok (tabFs_cons ok_DrawPushAll (tabFs_cons ok_implPushAll (tabFs_cons ok_implApart (tabFs_cons ok_specPushAll (tabFs_cons ok_lawsPqBodies (tabFs_cons ok_specApart tabFs_nil)))))) mixed Tryz.func7 (by kernel_rfl) (by kernel_rfl) (by
    intro args LL p r HH h hp
    unfold fs_lawPushSome at h
    dsimp only at h
    split at h
    case h_2 => cases h
    rename_i b
    simp only [Option.some.injEq, Prod.mk.injEq] at h
    obtain ⟨rfl, rfl, rfl⟩ := h
    refine ⟨by simp [Form, stays], (L_lawPushSome), ?_⟩
    rw [vc_lawPushSome]
    try dsimp only
    have hb := bytesOk_of (hp _ rfl)
    refine ifB_of (fun c => ⟨rfl, rfl⟩) (fun c => ⟨hb, ?_⟩)
    generalize g_DrawPushAll b = z
    obtain ⟨⟨xs, cs⟩, h1, h2⟩ := z
    dsimp only at h1 h2 ⊢
    have g1 := length_pushAllB xs cs
    have g2 := length_apartB xs cs
    simp only [same_self, Bool.not_true, ifBt, ifBf]
    refine ⟨⟨by omega, by omega⟩, ⟨by omega, by omega⟩, ⟨by omega, by omega⟩, by omega, ⟨by omega, by omega⟩, by omega, ifB_of (fun d => ⟨⟨by omega, by omega⟩, by omega, ⟨by omega, by omega⟩, by omega, (by trivial), (by trivial)⟩) (fun d => ⟨⟨(by trivial), (by trivial), (by trivial), (by trivial), (by trivial), by omega, by omega⟩, ?_⟩)⟩
    have hlen : (pushAllB xs cs).length = xs.length := by
      have := bne_eq_false_iff_eq.1 d
      omega
    rintro ⟨b', xs', cs', us, vs, i⟩ ⟨h⟩
    dsimp only at h ⊢
    obtain ⟨rfl, rfl, rfl, rfl, rfl, i0, i1⟩ := h
    refine ifB_of (fun c1 => ⟨⟨(by trivial), (by trivial), (by trivial), (by trivial), (by trivial), (by trivial), by omega, by omega, fun _ j hj => absurd hj (by simp)⟩, ?_⟩) (fun c1 => ⟨(by trivial), (by trivial)⟩)
    have cc := of_decide_eq_true c1
    clear c1
    rintro ⟨b2, xs2, cs2, us2, vs2, i2, sm, k⟩ ⟨h⟩
    dsimp only at h ⊢
    obtain ⟨rfl, rfl, rfl, rfl, rfl, rfl, k0, k1, hk⟩ := h
    have w : IntKind.i64.wrap (i2 + 1) = i2 + 1 := wrap_small (by omega) (by omega)
    refine ifB_of (fun c2 => ?_) (fun c2 => ?_)
    · have c2 := of_decide_eq_true c2
      have e1 : (k + 1).toNat = k.toNat + 1 := by omega
      have w1 : IntKind.i64.wrap (k + 1) = k + 1 := wrap_small (by omega) (by omega)
      rw [w1, e1]
      refine ifB_of (fun d1 => ⟨⟨(by trivial), (by trivial), (by trivial), (by trivial), (by trivial), (by trivial), by omega, by omega, fun z => (by cases z)⟩, by omega⟩) (fun d1 => ⟨⟨k0, c2⟩, ifB_of (fun d2 => ⟨⟨(by trivial), (by trivial), (by trivial), (by trivial), (by trivial), (by trivial), by omega, by omega, fun z => (by cases z)⟩, by omega⟩) (fun d2 => ⟨⟨k0, c2⟩, ⟨(by trivial), (by trivial), (by trivial), (by trivial), (by trivial), (by trivial), by omega, by omega, fun z j hj => ?_⟩, by omega⟩)⟩)
      by_cases e : j = k.toNat
      · rw [e]
        exact ⟨beq_eq_false_iff_ne.1 d2, beq_eq_false_iff_ne.1 z⟩
      · exact hk d1 j (by omega)
    · have c2 := of_decide_eq_false c2
      rw [w]
      refine ifB_of (fun d1 => ⟨⟨i0, by omega⟩, ⟨i0, cc⟩, ?_⟩) (fun d1 => ⟨⟨(by trivial), (by trivial), (by trivial), (by trivial), (by trivial), by omega, by omega⟩, by omega⟩)
      obtain ⟨q1, q2, q3⟩ := off_of hlen i0 cc (by omega) (fun j hj => hk (not_true d1) j (by omega))
      rw [q1, q2]
      simp only [beq_self_eq_true, Bool.and_self, Bool.not_true, ifBf]
      exact ⟨⟨i0, by omega⟩, ⟨i0, cc⟩, ⟨(by trivial), (by trivial), (by trivial), (by trivial), (by trivial), by omega, by omega⟩, by omega⟩)

def drivesV (xs : List Body) : Vec := bif bodiesOk xs then ⟨sumD (·.Drive.X) xs, sumD (·.Drive.Y) xs⟩ else ⟨0, 0⟩
def LSdr  : LS where
  S := List Body × Vec × Vec × Unit × Int × Int
  live := [(2, [none]), (3, [none]), (10, [none]), (11, [none]), (12, [none])]
  shape := fun s => ([.ptr 1 0 0, .ptr 2 0 0, .vec 0, .int .i64 s.2.2.2.2.1, .int .i64 s.2.2.2.2.2], [(false, .vec .body s.1), (true, .box [.int .i64 s.2.1.X, .int .i64 s.2.1.Y]), (true, .box [.int .i64 s.2.2.1.X, .int .i64 s.2.2.1.Y])])
  get := fun v h => match v, h with
    | [.ptr 1 0 0, .ptr 2 0 0, .vec 0, .int .i64 n, .int .i64 i], [(false, .vec .body xs), (true, .box [.int .i64 resX, .int .i64 resY]), (true, .box [.int .i64 accX, .int .i64 accY])] => some (xs, (Vec.mk resX resY), (Vec.mk accX accY), (), n, i)
    | _, _ => none
  inv := fun s0 s => Holds (s.1 = s0.1 ∧ s.2.1 = s0.2.1 ∧ s.2.2.2.2.1 = s0.1.length ∧ 0 ≤ s.2.2.2.2.2 ∧ s.2.2.2.2.2 ≤ s0.1.length ∧ s.2.2.1.X + sumD (·.Drive.X) (s0.1.drop s.2.2.2.2.2.toNat) = sumD (·.Drive.X) s0.1 ∧ s.2.2.1.Y + sumD (·.Drive.Y) (s0.1.drop s.2.2.2.2.2.toNat) = sumD (·.Drive.Y) s0.1 ∧ -20000000 * s.2.2.2.2.2 ≤ s.2.2.1.X ∧ s.2.2.1.X ≤ 20000000 * s.2.2.2.2.2 ∧ -20000000 * s.2.2.2.2.2 ≤ s.2.2.1.Y ∧ s.2.2.1.Y ≤ 20000000 * s.2.2.2.2.2)
  mu := fun s => (s.2.2.2.2.1 - s.2.2.2.2.2).toNat
  ok := by
    intro v h s hg
    try dsimp only at hg
    split at hg <;> cases hg
    rfl

def L_drives : Loops := fun n => match n with
  | 5 => some LSdr
  | _ => none
noncomputable def fs_implDrives : Fs := ⟨[], fun args H => match args, H with
  | [.vec 0], [(false, .vec .body xs)] => some ((some (xs.length ≤ 1048576)), .agg [.int .i64 (drivesV xs).X, .int .i64 (drivesV xs).Y], [(false, .vec .body xs)])
  | _, _ => none⟩

theorem vc_implDrives (xs : List Body) (Q : SV → List Ent → Prop) :
    fnVC tt (look [(38, fs_implBodiesOk), (112, fs_vecPlus)]) (L_drives) Tryz.f39 [.vec 0] [(false, .vec .body xs)] Q =
    (let w_ := IntKind.wrap IntKind.i64; let s_ := SV.int IntKind.i64; let n_ := Int.toNat; List.length xs ≤ (4611686018427387904 : Nat) ∧ ifB (!bodiesOk xs) (Q (SV.agg [s_ (0 : Int), s_ (0 : Int)]) [(false, Blk.vec Ty.body xs)]) (Holds (xs = xs ∧ Vec.mk (0 : Int) (0 : Int) = Vec.mk (0 : Int) (0 : Int) ∧ (↑(List.length xs) : Int) = (↑(List.length xs) : Int) ∧ (0 : Int) ≤ (0 : Int) ∧ (0 : Int) ≤ (↑(List.length xs) : Int) ∧ (0 : Int) + sumD (fun x => Vec.X (Body.Drive x)) (List.drop (n_ (0 : Int)) xs) = sumD (fun x => Vec.X (Body.Drive x)) xs ∧ (0 : Int) + sumD (fun x => Vec.Y (Body.Drive x)) (List.drop (n_ (0 : Int)) xs) = sumD (fun x => Vec.Y (Body.Drive x)) xs ∧ (-20000000 : Int) * (0 : Int) ≤ (0 : Int) ∧ (0 : Int) ≤ (20000000 : Int) * (0 : Int) ∧ (-20000000 : Int) * (0 : Int) ≤ (0 : Int) ∧ (0 : Int) ≤ (20000000 : Int) * (0 : Int)) ∧ ∀ (y1 : List Body × Vec × Vec × Unit × Int × Int), let y1f0_ := Prod.fst y1; let y1s1_ := Prod.snd y1; let y1f2_ := Prod.fst (Prod.snd (Prod.snd y1)); let y1s4_ := Prod.snd (Prod.snd (Prod.snd (Prod.snd y1))); let y1f4_ := Prod.fst (Prod.snd (Prod.snd (Prod.snd (Prod.snd y1)))); let y1s5_ := Prod.snd (Prod.snd (Prod.snd (Prod.snd (Prod.snd y1)))); let A3_ := (Prod.snd y1s4_ + (1 : Int)); let A2_ := (plus y1f2_ (Body.Drive (Ty.ix Ty.body y1f0_ (n_ y1s5_)))); Holds (Prod.fst y1 = xs ∧ Prod.fst y1s1_ = Vec.mk (0 : Int) (0 : Int) ∧ y1f4_ = (↑(List.length xs) : Int) ∧ (0 : Int) ≤ y1s5_ ∧ y1s5_ ≤ (↑(List.length xs) : Int) ∧ Vec.X y1f2_ + sumD (fun y1 => Vec.X (Body.Drive y1)) (List.drop (n_ y1s5_) xs) = sumD (fun y1 => Vec.X (Body.Drive y1)) xs ∧ Vec.Y y1f2_ + sumD (fun y1 => Vec.Y (Body.Drive y1)) (List.drop (n_ y1s5_) xs) = sumD (fun y1 => Vec.Y (Body.Drive y1)) xs ∧ (-20000000 : Int) * y1s5_ ≤ Vec.X y1f2_ ∧ Vec.X y1f2_ ≤ (20000000 : Int) * y1s5_ ∧ (-20000000 : Int) * y1s5_ ≤ Vec.Y y1f2_ ∧ Vec.Y y1f2_ ≤ (20000000 : Int) * y1s5_) → ifB (decide (Prod.snd y1s4_ < y1f4_)) (((0 : Int) ≤ y1s5_ ∧ y1s5_ < (↑(List.length y1f0_) : Int)) ∧ Holds (Prod.fst y1 = xs ∧ Prod.fst y1s1_ = Vec.mk (0 : Int) (0 : Int) ∧ y1f4_ = (↑(List.length xs) : Int) ∧ (0 : Int) ≤ w_ A3_ ∧ w_ A3_ ≤ (↑(List.length xs) : Int) ∧ Vec.X A2_ + sumD (fun y1 => Vec.X (Body.Drive y1)) (List.drop (n_ (w_ A3_)) xs) = sumD (fun y1 => Vec.X (Body.Drive y1)) xs ∧ Vec.Y A2_ + sumD (fun y1 => Vec.Y (Body.Drive y1)) (List.drop (n_ (w_ A3_)) xs) = sumD (fun y1 => Vec.Y (Body.Drive y1)) xs ∧ (-20000000 : Int) * w_ A3_ ≤ Vec.X A2_ ∧ Vec.X A2_ ≤ (20000000 : Int) * w_ A3_ ∧ (-20000000 : Int) * w_ A3_ ≤ Vec.Y A2_ ∧ Vec.Y A2_ ≤ (20000000 : Int) * w_ A3_) ∧ n_ (Prod.fst y1s4_ - w_ A3_) < n_ (Prod.fst y1s4_ - y1s5_)) (Q (SV.agg [s_ (Vec.X y1f2_), s_ (Vec.Y y1f2_)]) [(false, Blk.vec Ty.body y1f0_)]))) := by kernel_rfl

theorem ok_implDrives : FsOk Tryz.prog 39 fs_implDrives := fsOk_of tt_ok (tabFs_cons ok_implBodiesOk (tabFs_cons ok_vecPlus tabFs_nil)) mixed Tryz.func39 (by kernel_rfl) (by kernel_rfl) (by
    intro args LL p r HH h hp
    unfold fs_implDrives at h
    dsimp only at h
    split at h
    case h_2 => cases h
    rename_i xs
    simp only [Option.some.injEq, Prod.mk.injEq] at h
    obtain ⟨rfl, rfl, rfl⟩ := h
    refine ⟨by simp [Form, stays], (L_drives), ?_⟩
    rw [vc_implDrives]
    try dsimp only
    have hb := hp _ rfl
    refine ⟨by omega, ifB_of (fun c => ?_) (fun c => ⟨⟨(by trivial), (by trivial), (by trivial), by omega, by omega, Int.zero_add _, Int.zero_add _, by omega, by omega, by omega, by omega⟩, ?_⟩)⟩
    · simp [drivesV, not_true c]
    have hok := not_false c
    have hl := bodiesOk_len hok
    rintro ⟨xs', res, acc, u, n, i⟩ ⟨h⟩
    dsimp only at h ⊢
    obtain ⟨rfl, rfl, rfl, i0, i1, h1, h2, b1, b2, b3, b4⟩ := h
    refine ifB_of (fun d => ?_) (fun d => ?_)
    · have d := of_decide_eq_true d
      have hi : i.toNat < xs'.length := by omega
      have e1 : (i + 1).toNat = i.toNat + 1 := by omega
      have w : IntKind.i64.wrap (i + 1) = i + 1 := wrap_small (by omega) (by omega)
      have hd := (bok_iff.1 (bodiesOk_each hok hi)).2.2.2.1
      rw [drop_ix (T := .body) hi] at h1 h2
      have h1 : acc.X + ((Ty.ix .body xs' i.toNat).Drive.X + sumD (·.Drive.X) (xs'.drop (i.toNat + 1))) = sumD (·.Drive.X) xs' := h1
      have h2 : acc.Y + ((Ty.ix .body xs' i.toNat).Drive.Y + sumD (·.Drive.Y) (xs'.drop (i.toNat + 1))) = sumD (·.Drive.Y) xs' := h2
      have px : (plus acc (Ty.ix .body xs' i.toNat).Drive).X = acc.X + (Ty.ix .body xs' i.toNat).Drive.X := W_small (by omega) (by omega)
      have py : (plus acc (Ty.ix .body xs' i.toNat).Drive).Y = acc.Y + (Ty.ix .body xs' i.toNat).Drive.Y := W_small (by omega) (by omega)
      rw [w, e1, px, py]
      exact ⟨⟨i0, d⟩, ⟨(by trivial), (by trivial), (by trivial), by omega, by omega, by omega, by omega, by omega, by omega, by omega, by omega⟩, by omega⟩
    · have d := of_decide_eq_false d
      rw [drop_end (by omega)] at h1 h2
      have h1 : acc.X + 0 = sumD (·.Drive.X) xs' := h1
      have h2 : acc.Y + 0 = sumD (·.Drive.Y) xs' := h2
      rw [Int.add_zero] at h1 h2
      unfold drivesV
      rw [hok, h1, h2]
      exact ⟨(by trivial), (by trivial)⟩)

def LSlpa1  : LS where
  S := List Int × List Body × List Contact × List Body × Bool × Int
  live := [(3, [some .body]), (4, [some .contact]), (5, [some .body]), (6, [none]), (7, [none])]
  shape := fun s => ([.vec 1, .vec 2, .vec 3, .bool s.2.2.2.2.1, .int .i64 s.2.2.2.2.2], [(false, .vec .byte s.1), (true, .vec .body s.2.1), (true, .vec .contact s.2.2.1), (true, .vec .body s.2.2.2.1)])
  get := fun v h => match v, h with
    | [.vec 1, .vec 2, .vec 3, .bool free, .int .i64 i], [(false, .vec .byte b), (true, .vec .body xs), (true, .vec .contact cs), (true, .vec .body us)] => some (b, xs, cs, us, free, i)
    | _, _ => none
  inv := fun s0 s => Holds (s.1 = s0.1 ∧ s.2.1 = s0.2.1 ∧ s.2.2.1 = s0.2.2.1 ∧ s.2.2.2.1 = s0.2.2.2.1 ∧ 0 ≤ s.2.2.2.2.2 ∧ s.2.2.2.2.2 ≤ s0.2.2.1.length ∧ (s.2.2.2.2.1 = true → ∀ j, j < s.2.2.2.2.2.toNat → (Ty.ix .body s0.2.1 (Ty.ix .contact s0.2.2.1 j).A.toNat).Mass ≠ 0 ∧ (Ty.ix .body s0.2.1 (Ty.ix .contact s0.2.2.1 j).B.toNat).Mass ≠ 0))
  mu := fun s => ((s.2.2.1.length : Int) - s.2.2.2.2.2).toNat
  ok := by
    intro v h s hg
    try dsimp only at hg
    split at hg <;> cases hg
    rfl

def LSlpa2  : LS where
  S := List Int × List Body × List Body × Bool × Int
  live := [(3, [some .body]), (5, [some .body]), (6, [none]), (8, [none])]
  shape := fun s => ([.vec 1, .vec 2, .bool s.2.2.2.1, .int .i64 s.2.2.2.2], [(false, .vec .byte s.1), (true, .vec .body s.2.1), (true, .vec .body s.2.2.1)])
  get := fun v h => match v, h with
    | [.vec 1, .vec 2, .bool free, .int .i64 i], [(false, .vec .byte b), (true, .vec .body xs), (true, .vec .body us)] => some (b, xs, us, free, i)
    | _, _ => none
  inv := fun s0 s => Holds (s.1 = s0.1 ∧ s.2.1 = s0.2.1 ∧ s.2.2.1 = s0.2.2.1 ∧ s.2.2.2.1 = s0.2.2.2.1 ∧ 0 ≤ s.2.2.2.2 ∧ s.2.2.2.2 ≤ s0.2.2.1.length)
  mu := fun s => ((s.2.2.1.length : Int) - s.2.2.2.2).toNat
  ok := by
    intro v h s hg
    try dsimp only at hg
    split at hg <;> cases hg
    rfl

def L_lawPushAll : Loops := fun n => match n with
  | 9 => some LSlpa1
  | 13 => some LSlpa2
  | _ => none
noncomputable def fs_lawPushAll : Fs := ⟨[], fun args H => match args, H with
  | [.vec 0], [(false, .vec .byte b)] => some ((some (LOk .byte b)), .bool (true), [(false, .vec .byte b)])
  | _, _ => none⟩

theorem vc_lawPushAll (b : List Int) (Q : SV → List Ent → Prop) :
    fnVC tt (look [(33, fs_DrawPushAll), (34, fs_implPushAll), (36, fs_specPushAll), (35, fs_lawsPqBodies), (37, fs_specBodiesOk), (38, fs_implBodiesOk), (39, fs_implDrives)]) (L_lawPushAll) Tryz.f6 [.vec 0] [(false, .vec .byte b)] Q =
    (let w_ := IntKind.wrap IntKind.i64; let n_ := Int.toNat; let ib_ := Ty.ix Ty.body; let ic_ := Ty.ix Ty.contact; let vy_ := Blk.vec Ty.byte; let A16_ := (4611686018427387904 : Nat); let A14_ := (Subtype.val (g_DrawPushAll b)); let A15_ := (pushAllB (Prod.fst A14_) (Prod.snd A14_)); ifB (decide ((↑(List.length b) : Int) > (1048576 : Int))) (Q (SV.bool true) [(false, vy_ b)]) (BytesOk b ∧ (List.length (Prod.fst A14_) ≤ (1048576 : Nat) ∧ List.length (Prod.snd A14_) ≤ A16_) ∧ (List.length (Prod.fst A14_) ≤ (1048576 : Nat) ∧ List.length (Prod.snd A14_) ≤ A16_) ∧ List.length A15_ ≤ A16_ ∧ ifB (!same A15_ A15_) ((List.length (Prod.fst A14_) ≤ (1048576 : Nat) ∧ List.length (Prod.snd A14_) ≤ A16_) ∧ List.length A15_ ≤ A16_ ∧ Q (SV.bool (same A15_ A15_)) [(false, vy_ b)]) (List.length (Prod.fst A14_) ≤ A16_ ∧ ifB (!bodiesOk (Prod.fst A14_)) ((List.length (Prod.fst A14_) ≤ (1048576 : Nat) ∧ List.length (Prod.snd A14_) ≤ A16_) ∧ List.length A15_ ≤ A16_ ∧ Q (SV.bool (same A15_ A15_)) [(false, vy_ b)]) (ifB ((↑(List.length A15_) : Int) != (↑(List.length (Prod.fst A14_)) : Int)) ((List.length (Prod.fst A14_) ≤ (1048576 : Nat) ∧ List.length (Prod.snd A14_) ≤ A16_) ∧ List.length A15_ ≤ A16_ ∧ Q (SV.bool (same A15_ A15_)) [(false, vy_ b)]) (ifB ((↑(List.length (Prod.fst A14_)) : Int) == (0 : Int)) ((List.length (Prod.fst A14_) ≤ (1048576 : Nat) ∧ List.length (Prod.snd A14_) ≤ A16_) ∧ List.length A15_ ≤ A16_ ∧ Q (SV.bool (same A15_ A15_)) [(false, vy_ b)]) (Holds (b = b ∧ Prod.fst A14_ = Prod.fst A14_ ∧ Prod.snd A14_ = Prod.snd A14_ ∧ pushAllB (Prod.fst A14_) (Prod.snd A14_) = pushAllB (Prod.fst A14_) (Prod.snd A14_) ∧ (0 : Int) ≤ (0 : Int) ∧ (0 : Int) ≤ (↑(List.length (Prod.snd A14_)) : Int) ∧ (true = true → ∀ (j : Nat), j < n_ (0 : Int) → Body.Mass (ib_ (Prod.fst A14_) (n_ (Contact.A (ic_ (Prod.snd A14_) j)))) ≠ (0 : Int) ∧ Body.Mass (ib_ (Prod.fst A14_) (n_ (Contact.B (ic_ (Prod.snd A14_) j)))) ≠ (0 : Int))) ∧ ∀ (y8 : List Int × List Body × List Contact × List Body × Bool × Int), let y8f0_ := Prod.fst y8; let y8s1_ := Prod.snd y8; let y8f1_ := Prod.fst (Prod.snd y8); let y8f2_ := Prod.fst (Prod.snd (Prod.snd y8)); let y8f3_ := Prod.fst (Prod.snd (Prod.snd (Prod.snd y8))); let y8s4_ := Prod.snd (Prod.snd (Prod.snd (Prod.snd y8))); let y8f4_ := Prod.fst (Prod.snd (Prod.snd (Prod.snd (Prod.snd y8)))); let y8s5_ := Prod.snd (Prod.snd (Prod.snd (Prod.snd (Prod.snd y8)))); let A12_ := (ic_ y8f2_ (n_ y8s5_)); let A11_ := (↑(List.length y8f2_) : Int); let A10_ := (Prod.snd y8s4_ + (1 : Int)); let A9_ := A14_; let A13_ := (↑(List.length (Prod.snd A9_)) : Int); Holds (Prod.fst y8 = b ∧ y8f1_ = Prod.fst A9_ ∧ y8f2_ = Prod.snd A9_ ∧ y8f3_ = pushAllB (Prod.fst A9_) (Prod.snd A9_) ∧ (0 : Int) ≤ y8s5_ ∧ y8s5_ ≤ A13_ ∧ (Prod.fst y8s4_ = true → ∀ (j : Nat), j < n_ y8s5_ → Body.Mass (ib_ (Prod.fst A9_) (n_ (Contact.A (ic_ (Prod.snd A9_) j)))) ≠ (0 : Int) ∧ Body.Mass (ib_ (Prod.fst A9_) (n_ (Contact.B (ic_ (Prod.snd A9_) j)))) ≠ (0 : Int))) → ifB (decide (Prod.snd y8s4_ < A11_)) (ifB y8f4_ (((0 : Int) ≤ y8s5_ ∧ y8s5_ < A11_) ∧ ((0 : Int) ≤ Contact.A A12_ ∧ Contact.A A12_ < (↑(List.length y8f1_) : Int)) ∧ ifB (decide (Body.Mass (ib_ y8f1_ (n_ (Contact.A A12_))) > (0 : Int))) (((0 : Int) ≤ y8s5_ ∧ y8s5_ < A11_) ∧ ((0 : Int) ≤ Contact.B A12_ ∧ Contact.B A12_ < (↑(List.length y8f1_) : Int)) ∧ Holds (Prod.fst y8 = b ∧ y8f1_ = Prod.fst A9_ ∧ y8f2_ = Prod.snd A9_ ∧ y8f3_ = pushAllB (Prod.fst A9_) (Prod.snd A9_) ∧ (0 : Int) ≤ w_ A10_ ∧ w_ A10_ ≤ A13_ ∧ (decide (Body.Mass (ib_ y8f1_ (n_ (Contact.B A12_))) > (0 : Int)) = true → ∀ (j : Nat), j < n_ (w_ A10_) → Body.Mass (ib_ (Prod.fst A9_) (n_ (Contact.A (ic_ (Prod.snd A9_) j)))) ≠ (0 : Int) ∧ Body.Mass (ib_ (Prod.fst A9_) (n_ (Contact.B (ic_ (Prod.snd A9_) j)))) ≠ (0 : Int))) ∧ n_ (A11_ - w_ A10_) < n_ (A11_ - y8s5_)) (Holds (Prod.fst y8 = b ∧ y8f1_ = Prod.fst A9_ ∧ y8f2_ = Prod.snd A9_ ∧ y8f3_ = pushAllB (Prod.fst A9_) (Prod.snd A9_) ∧ (0 : Int) ≤ w_ A10_ ∧ w_ A10_ ≤ A13_ ∧ (false = true → ∀ (j : Nat), j < n_ (w_ A10_) → Body.Mass (ib_ (Prod.fst A9_) (n_ (Contact.A (ic_ (Prod.snd A9_) j)))) ≠ (0 : Int) ∧ Body.Mass (ib_ (Prod.fst A9_) (n_ (Contact.B (ic_ (Prod.snd A9_) j)))) ≠ (0 : Int))) ∧ n_ (A11_ - w_ A10_) < n_ (A11_ - y8s5_))) (Holds (Prod.fst y8 = b ∧ y8f1_ = Prod.fst A9_ ∧ y8f2_ = Prod.snd A9_ ∧ y8f3_ = pushAllB (Prod.fst A9_) (Prod.snd A9_) ∧ (0 : Int) ≤ w_ A10_ ∧ w_ A10_ ≤ A13_ ∧ (false = true → ∀ (j : Nat), j < n_ (w_ A10_) → Body.Mass (ib_ (Prod.fst A9_) (n_ (Contact.A (ic_ (Prod.snd A9_) j)))) ≠ (0 : Int) ∧ Body.Mass (ib_ (Prod.fst A9_) (n_ (Contact.B (ic_ (Prod.snd A9_) j)))) ≠ (0 : Int))) ∧ n_ (A11_ - w_ A10_) < n_ (A11_ - y8s5_))) (Holds (Prod.fst y8 = y8f0_ ∧ y8f1_ = y8f1_ ∧ y8f3_ = y8f3_ ∧ y8f4_ = y8f4_ ∧ (0 : Int) ≤ (0 : Int) ∧ (0 : Int) ≤ (↑(List.length y8f3_) : Int)) ∧ ∀ (y1 : List Int × List Body × List Body × Bool × Int), let y1f0_ := Prod.fst y1; let y1s1_ := Prod.snd y1; let y1f1_ := Prod.fst (Prod.snd y1); let y1f2_ := Prod.fst (Prod.snd (Prod.snd y1)); let y1s3_ := Prod.snd (Prod.snd (Prod.snd y1)); let y1f3_ := Prod.fst (Prod.snd (Prod.snd (Prod.snd y1))); let y1s4_ := Prod.snd (Prod.snd (Prod.snd (Prod.snd y1))); let A7_ := (Prod.snd y1s3_ + (1 : Int)); let A6_ := (false, vy_ y1f0_); let A5_ := (↑(List.length y1f2_) : Int); let A4_ := (Prod.snd (Prod.snd y8s1_)); let A3_ := (ib_ y1f1_ (n_ y1s4_)); let A2_ := (ib_ y1f2_ (n_ y1s4_)); Holds (Prod.fst y1 = y8f0_ ∧ y1f1_ = y8f1_ ∧ y1f2_ = Prod.fst A4_ ∧ y1f3_ = Prod.fst (Prod.snd A4_) ∧ (0 : Int) ≤ y1s4_ ∧ y1s4_ ≤ (↑(List.length (Prod.fst A4_)) : Int)) → ifB (decide (Prod.snd y1s3_ < A5_)) (((0 : Int) ≤ y1s4_ ∧ y1s4_ < A5_) ∧ ((0 : Int) ≤ y1s4_ ∧ y1s4_ < (↑(List.length y1f1_) : Int)) ∧ ifB (!(Vec.X (Body.At A2_) == Vec.X (Body.At A3_) && Vec.Y (Body.At A2_) == Vec.Y (Body.At A3_))) (Q (SV.bool false) [A6_]) (((0 : Int) ≤ y1s4_ ∧ y1s4_ < A5_) ∧ ((0 : Int) ≤ y1s4_ ∧ y1s4_ < (↑(List.length y1f1_) : Int)) ∧ ifB (Body.Mass A2_ != Body.Mass A3_) (Q (SV.bool false) [A6_]) (((0 : Int) ≤ y1s4_ ∧ y1s4_ < A5_) ∧ ifB (Body.Mass A2_ == (0 : Int)) (((0 : Int) ≤ y1s4_ ∧ y1s4_ < A5_) ∧ ((0 : Int) ≤ y1s4_ ∧ y1s4_ < (↑(List.length y1f1_) : Int)) ∧ ifB (!(Body.Id A2_ == Body.Id A3_ && (Shape.Kind (Body.Shape A2_) == Shape.Kind (Body.Shape A3_) && (Shape.Wide (Body.Shape A2_) == Shape.Wide (Body.Shape A3_) && (Shape.High (Body.Shape A2_) == Shape.High (Body.Shape A3_) && (Vec.X (Body.At A2_) == Vec.X (Body.At A3_) && (Vec.Y (Body.At A2_) == Vec.Y (Body.At A3_) && (Vec.X (Body.Drive A2_) == Vec.X (Body.Drive A3_) && (Vec.Y (Body.Drive A2_) == Vec.Y (Body.Drive A3_) && (Body.Mass A2_ == Body.Mass A3_ && (Body.Bounce A2_ == Body.Bounce A3_ && (Body.Rub A2_ == Body.Rub A3_ && Body.Quiet A2_ == Body.Quiet A3_)))))))))))) (Q (SV.bool false) [A6_]) (Holds (Prod.fst y1 = y8f0_ ∧ y1f1_ = y8f1_ ∧ y1f2_ = Prod.fst A4_ ∧ y1f3_ = Prod.fst (Prod.snd A4_) ∧ (0 : Int) ≤ w_ A7_ ∧ w_ A7_ ≤ (↑(List.length (Prod.fst A4_)) : Int)) ∧ n_ (A5_ - w_ A7_) < n_ (A5_ - y1s4_))) (Holds (Prod.fst y1 = y8f0_ ∧ y1f1_ = y8f1_ ∧ y1f2_ = Prod.fst A4_ ∧ y1f3_ = Prod.fst (Prod.snd A4_) ∧ (0 : Int) ≤ w_ A7_ ∧ w_ A7_ ≤ (↑(List.length (Prod.fst A4_)) : Int)) ∧ n_ (A5_ - w_ A7_) < n_ (A5_ - y1s4_))))) (List.length y1f2_ ≤ A16_ ∧ ifB (bodiesOk y1f2_) (ifB (!y1f3_) ((List.length y1f1_ ≤ (1048576 : Nat) ∧ (0 : Nat) ≤ A16_) ∧ List.length (pushAllB y1f1_ []) ≤ A16_ ∧ Q (SV.bool (same (pushAllB y1f1_ []) y1f1_)) [A6_]) (List.length y1f2_ ≤ (1048576 : Nat) ∧ List.length y1f1_ ≤ (1048576 : Nat) ∧ ifB (Vec.X (drivesV y1f2_) == Vec.X (drivesV y1f1_) && Vec.Y (drivesV y1f2_) == Vec.Y (drivesV y1f1_)) ((List.length y1f1_ ≤ (1048576 : Nat) ∧ (0 : Nat) ≤ A16_) ∧ List.length (pushAllB y1f1_ []) ≤ A16_ ∧ Q (SV.bool (same (pushAllB y1f1_ []) y1f1_)) [A6_]) (Q (SV.bool false) [A6_]))) (Q (SV.bool false) [A6_]))))))))) := by kernel_rfl

theorem ok_lawPushAll : FsOk Tryz.prog 6 fs_lawPushAll := fsOk_of tt_ok (tabFs_cons ok_DrawPushAll (tabFs_cons ok_implPushAll (tabFs_cons ok_specPushAll (tabFs_cons ok_lawsPqBodies (tabFs_cons ok_specBodiesOk (tabFs_cons ok_implBodiesOk (tabFs_cons ok_implDrives tabFs_nil))))))) mixed Tryz.func6 (by kernel_rfl) (by kernel_rfl) (by
    intro args LL p r HH h hp
    unfold fs_lawPushAll at h
    dsimp only at h
    split at h
    case h_2 => cases h
    rename_i b
    simp only [Option.some.injEq, Prod.mk.injEq] at h
    obtain ⟨rfl, rfl, rfl⟩ := h
    refine ⟨by simp [Form, stays], (L_lawPushAll), ?_⟩
    rw [vc_lawPushAll]
    try dsimp only
    have hb := bytesOk_of (hp _ rfl)
    refine ifB_of (fun c => ⟨rfl, rfl⟩) (fun c => ⟨hb, ?_⟩)
    generalize g_DrawPushAll b = z
    obtain ⟨⟨xs, cs⟩, h1, h2⟩ := z
    dsimp only at h1 h2 ⊢
    have g1 := length_pushAllB xs cs
    simp only [same_self, Bool.not_true, ifBt, ifBf]
    refine ⟨⟨by omega, by omega⟩, ⟨by omega, by omega⟩, by omega, by omega, ifB_of (fun d => ⟨⟨by omega, by omega⟩, by omega, (by trivial), (by trivial)⟩) (fun d => ifB_of (fun d2 => ⟨⟨by omega, by omega⟩, by omega, (by trivial), (by trivial)⟩) (fun d2 => ifB_of (fun d3 => ⟨⟨by omega, by omega⟩, by omega, (by trivial), (by trivial)⟩) (fun d3 => ⟨⟨(by trivial), (by trivial), (by trivial), (by trivial), by omega, by omega, fun _ j hj => absurd hj (by simp)⟩, ?_⟩)))⟩
    have hok := not_false d
    have d2 := bne_eq_false_iff_eq.1 d2
    have d3 := beq_eq_false_iff_ne.1 d3
    have hpo : pushesOk xs cs = true := by
      cases q : pushesOk xs cs with
      | true => rfl
      | false =>
        exfalso
        simp only [pushAllB, q, cond_false, List.length_nil] at d2
        omega
    have hP : pushAllB xs cs = pushAllF xs cs := by simp [pushAllB, hpo]
    have hc : CtsOk xs.length cs := ctsI_ok (by omega) (by simp only [pushesOk, Bool.and_eq_true] at hpo; exact hpo.2)
    have hk := kin_pushAllF (ctsOk_mem hc)
    have hl := bodiesOk_len hok
    have hN : pushAllB xs [] = xs := by
      have hp0 : pushesOk xs [] = true := by
        unfold pushesOk
        rw [hok]
        rfl
      unfold pushAllB
      rw [hp0]
      rfl
    have hO : bodiesOk (pushAllF xs cs) = true := ok_kin hok hk (ok_pushAllF (allOk_of hok))
    clear d d2 d3
    rw [hP]
    rintro ⟨b', xs', cs', us, free, i⟩ ⟨h⟩
    dsimp only at h ⊢
    obtain ⟨rfl, rfl, rfl, rfl, i0, i1, hfree⟩ := h
    refine ifB_of (fun c1 => ?_) (fun c1 => ?_)
    · have cc := of_decide_eq_true c1
      have e1 : (i + 1).toNat = i.toNat + 1 := by omega
      have w : IntKind.i64.wrap (i + 1) = i + 1 := wrap_small (by omega) (by omega)
      obtain ⟨a0, a1, b0, b1, _⟩ := hc.2 i.toNat (by omega)
      rw [w, e1]
      refine ifB_of (fun f => ⟨⟨i0, cc⟩, ⟨a0, a1⟩, ifB_of (fun m1 => ⟨⟨i0, cc⟩, ⟨b0, b1⟩, ⟨(by trivial), (by trivial), (by trivial), (by trivial), by omega, by omega, fun z j hj => ?_⟩, by omega⟩) (fun m1 => ⟨⟨(by trivial), (by trivial), (by trivial), (by trivial), by omega, by omega, fun z => by cases z⟩, by omega⟩)⟩) (fun f => ⟨⟨(by trivial), (by trivial), (by trivial), (by trivial), by omega, by omega, fun z => by cases z⟩, by omega⟩)
      by_cases e : j = i.toNat
      · rw [e]
        have m1 := of_decide_eq_true m1
        have z := of_decide_eq_true z
        exact ⟨by omega, by omega⟩
      · exact hfree f j (by omega)
    · have cc := of_decide_eq_false c1
      have hfr : free = true → ∀ c, c ∈ cs' → ctOk xs'.length c ∧ (Ty.ix .body xs' c.A.toNat).Mass ≠ 0 ∧ (Ty.ix .body xs' c.B.toNat).Mass ≠ 0 := by
        intro f c hcm
        obtain ⟨j, hj, e⟩ := List.getElem_of_mem hcm
        have e2 : Ty.ix .contact cs' j = c := ix_eq (T := .contact) (by rw [← e]; exact List.getElem?_eq_getElem hj)
        have h1 := hfree f j (by omega)
        have h2 := hc.2 j hj
        rw [e2] at h1 h2
        exact ⟨h2, h1⟩
      have hdr : free = true → drivesV (pushAllF xs' cs') = drivesV xs' := by
        intro f
        obtain ⟨s1, s2⟩ := sum_pushAllF (allOk_of hok) (hfr f)
        simp only [drivesV, hO, hok, s1, s2]
      have hlen : (pushAllF xs' cs').length = xs'.length := length_pushAllF _ _
      refine ⟨⟨(by trivial), (by trivial), (by trivial), (by trivial), by omega, by omega⟩, ?_⟩
      clear hfree i0 i1 cc c1 hfr
      rintro ⟨b2, xs2, us2, free2, i⟩ ⟨h⟩
      dsimp only at h ⊢
      obtain ⟨rfl, rfl, rfl, rfl, i0, i1⟩ := h
      refine ifB_of (fun c2 => ?_) (fun c2 => ?_)
      · have cc := of_decide_eq_true c2
        have w : IntKind.i64.wrap (i + 1) = i + 1 := wrap_small (by omega) (by omega)
        have hi : i.toNat < xs2.length := by omega
        have hAt := at_pushAllF (ctsOk_mem hc) hi
        have hM := (hk.2 _ hi).2.2.1
        have hF := pushAllF_fix (ctsOk_mem hc) hi
        rw [w, hAt, ← hM]
        simp only [beq_self_eq_true, Bool.and_self, Bool.not_true, bne_self_eq_false, ifBf]
        refine ⟨⟨i0, cc⟩, ⟨i0, by omega⟩, ⟨i0, cc⟩, ⟨i0, by omega⟩, ⟨i0, cc⟩, ifB_of (fun m => ⟨⟨i0, cc⟩, ⟨i0, by omega⟩, ?_⟩) (fun m => ⟨⟨(by trivial), (by trivial), (by trivial), (by trivial), by omega, by omega⟩, by omega⟩)⟩
        rw [hF (eq_of_beq m)]
        simp only [beq_self_eq_true, Bool.and_self, Bool.not_true, ifBf]
        exact ⟨⟨(by trivial), (by trivial), (by trivial), (by trivial), by omega, by omega⟩, by omega⟩
      · rw [hO, hN, same_self]
        simp only [ifBt]
        refine ⟨by omega, ifB_of (fun f => ⟨⟨by omega, by omega⟩, by omega, (by trivial), (by trivial)⟩) (fun f => ⟨by omega, by omega, ?_⟩)⟩
        rw [hdr (not_false f)]
        simp only [beq_self_eq_true, Bool.and_self, ifBt]
        exact ⟨⟨by omega, by omega⟩, by omega, (by trivial), (by trivial)⟩)

def LSlap  : LS where
  S := List Int × List Body × List Body × List Contact × Int
  live := [(3, [some .body]), (5, [some .body]), (6, [some .contact]), (7, [none])]
  shape := fun s => ([.vec 1, .vec 2, .vec 3, .int .i64 s.2.2.2.2], [(false, .vec .byte s.1), (true, .vec .body s.2.1), (true, .vec .body s.2.2.1), (true, .vec .contact s.2.2.2.1)])
  get := fun v h => match v, h with
    | [.vec 1, .vec 2, .vec 3, .int .i64 i], [(false, .vec .byte b), (true, .vec .body xs), (true, .vec .body us), (true, .vec .contact all)] => some (b, xs, us, all, i)
    | _, _ => none
  inv := fun s0 s => Holds (s.1 = s0.1 ∧ s.2.1 = s0.2.1 ∧ s.2.2.1 = s0.2.2.1 ∧ s.2.2.2.1 = s0.2.2.2.1 ∧ 0 ≤ s.2.2.2.2 ∧ s.2.2.2.2 ≤ s0.2.2.1.length)
  mu := fun s => ((s.2.2.1.length : Int) - s.2.2.2.2).toNat
  ok := by
    intro v h s hg
    try dsimp only at hg
    split at hg <;> cases hg
    rfl

def L_lawApart : Loops := fun n => match n with
  | 9 => some LSlap
  | _ => none
noncomputable def fs_lawApart : Fs := ⟨[], fun args H => match args, H with
  | [.vec 0], [(false, .vec .byte b)] => some ((some (LOk .byte b)), .bool (true), [(false, .vec .byte b)])
  | _, _ => none⟩

theorem vc_lawApart (b : List Int) (Q : SV → List Ent → Prop) :
    fnVC tt (look [(62, fs_DrawApart), (40, fs_implApart), (41, fs_specApart), (35, fs_lawsPqBodies), (61, fs_implContacts), (63, fs_implTouch)]) (L_lawApart) Tryz.f11 [.vec 0] [(false, .vec .byte b)] Q =
    (let w_ := IntKind.wrap IntKind.i64; let n_ := Int.toNat; let ib_ := Ty.ix Ty.body; let vy_ := Blk.vec Ty.byte; let A11_ := (Subtype.val (g_DrawApart b)); let A12_ := (apartB (Prod.fst A11_) (Prod.snd A11_)); ifB (decide ((↑(List.length b) : Int) > (1048576 : Int))) (Q (SV.bool true) [(false, vy_ b)]) (BytesOk b ∧ (List.length (Prod.fst A11_) ≤ (1048576 : Nat) ∧ List.length (Prod.snd A11_) ≤ (4611686018427387904 : Nat)) ∧ (List.length (Prod.fst A11_) ≤ (1048576 : Nat) ∧ List.length (Prod.snd A11_) ≤ (4611686018427387904 : Nat)) ∧ List.length A12_ ≤ (4611686018427387904 : Nat) ∧ ifB (!same A12_ A12_) ((List.length (Prod.fst A11_) ≤ (1048576 : Nat) ∧ List.length (Prod.snd A11_) ≤ (4611686018427387904 : Nat)) ∧ List.length A12_ ≤ (4611686018427387904 : Nat) ∧ Q (SV.bool (same A12_ A12_)) [(false, vy_ b)]) (ifB ((↑(List.length A12_) : Int) != (↑(List.length (Prod.fst A11_)) : Int)) ((List.length (Prod.fst A11_) ≤ (1048576 : Nat) ∧ List.length (Prod.snd A11_) ≤ (4611686018427387904 : Nat)) ∧ List.length A12_ ≤ (4611686018427387904 : Nat) ∧ Q (SV.bool (same A12_ A12_)) [(false, vy_ b)]) (List.length (Prod.fst A11_) ≤ (1048576 : Nat) ∧ Holds (b = b ∧ Prod.fst A11_ = Prod.fst A11_ ∧ apartB (Prod.fst A11_) (Prod.snd A11_) = apartB (Prod.fst A11_) (Prod.snd A11_) ∧ contactsOf (Prod.fst A11_) = contactsOf (Prod.fst A11_) ∧ (0 : Int) ≤ (0 : Int) ∧ (0 : Int) ≤ (↑(List.length A12_) : Int)) ∧ ∀ (y1 : List Int × List Body × List Body × List Contact × Int), let y1f0_ := Prod.fst y1; let y1s1_ := Prod.snd y1; let y1f1_ := Prod.fst (Prod.snd y1); let y1f2_ := Prod.fst (Prod.snd (Prod.snd y1)); let y1s3_ := Prod.snd (Prod.snd (Prod.snd y1)); let y1f3_ := Prod.fst (Prod.snd (Prod.snd (Prod.snd y1))); let y1s4_ := Prod.snd (Prod.snd (Prod.snd (Prod.snd y1))); let A9_ := (Prod.snd y1s3_ + (1 : Int)); let A8_ := (↑(List.length y1f2_) : Int); let A6_ := (ib_ y1f1_ (n_ y1s4_)); let A5_ := (ib_ y1f2_ (n_ y1s4_)); let A4_ := A11_; let A10_ := (↑(List.length (apartB (Prod.fst A4_) (Prod.snd A4_))) : Int); let A3_ := (Ty.ix Ty.contact y1f3_ (n_ (0 : Int))); let A2_ := (apartB y1f1_ (List.take (n_ (1 : Int)) (List.drop (0 : Nat) y1f3_))); let A7_ := (touchAll (Body.Shape (ib_ A2_ (n_ (Contact.A A3_)))) (Body.At (ib_ A2_ (n_ (Contact.A A3_)))) (Body.Shape (ib_ A2_ (n_ (Contact.B A3_)))) (Body.At (ib_ A2_ (n_ (Contact.B A3_))))); Holds (Prod.fst y1 = b ∧ y1f1_ = Prod.fst A4_ ∧ y1f2_ = apartB (Prod.fst A4_) (Prod.snd A4_) ∧ y1f3_ = contactsOf (Prod.fst A4_) ∧ (0 : Int) ≤ y1s4_ ∧ y1s4_ ≤ A10_) → ifB (decide (Prod.snd y1s3_ < A8_)) (((0 : Int) ≤ y1s4_ ∧ y1s4_ < A8_) ∧ ifB (Body.Mass A5_ == (0 : Int)) (((0 : Int) ≤ y1s4_ ∧ y1s4_ < A8_) ∧ ((0 : Int) ≤ y1s4_ ∧ y1s4_ < (↑(List.length y1f1_) : Int)) ∧ ifB (!(Body.Id A5_ == Body.Id A6_ && (Shape.Kind (Body.Shape A5_) == Shape.Kind (Body.Shape A6_) && (Shape.Wide (Body.Shape A5_) == Shape.Wide (Body.Shape A6_) && (Shape.High (Body.Shape A5_) == Shape.High (Body.Shape A6_) && (Vec.X (Body.At A5_) == Vec.X (Body.At A6_) && (Vec.Y (Body.At A5_) == Vec.Y (Body.At A6_) && (Vec.X (Body.Drive A5_) == Vec.X (Body.Drive A6_) && (Vec.Y (Body.Drive A5_) == Vec.Y (Body.Drive A6_) && (Body.Mass A5_ == Body.Mass A6_ && (Body.Bounce A5_ == Body.Bounce A6_ && (Body.Rub A5_ == Body.Rub A6_ && Body.Quiet A5_ == Body.Quiet A6_)))))))))))) (Q (SV.bool false) [(false, vy_ y1f0_)]) (Holds (Prod.fst y1 = b ∧ y1f1_ = Prod.fst A4_ ∧ y1f2_ = apartB (Prod.fst A4_) (Prod.snd A4_) ∧ y1f3_ = contactsOf (Prod.fst A4_) ∧ (0 : Int) ≤ w_ A9_ ∧ w_ A9_ ≤ A10_) ∧ n_ (A8_ - w_ A9_) < n_ (A8_ - y1s4_))) (Holds (Prod.fst y1 = b ∧ y1f1_ = Prod.fst A4_ ∧ y1f2_ = apartB (Prod.fst A4_) (Prod.snd A4_) ∧ y1f3_ = contactsOf (Prod.fst A4_) ∧ (0 : Int) ≤ w_ A9_ ∧ w_ A9_ ≤ A10_) ∧ n_ (A8_ - w_ A9_) < n_ (A8_ - y1s4_))) (ifB ((↑(List.length y1f3_) : Int) == (0 : Int)) (Q (SV.bool true) [(false, vy_ y1f0_)]) (((0 : Int) ≤ (0 : Int) ∧ (0 : Int) < (↑(List.length y1f3_) : Int)) ∧ ((0 : Int) ≤ (1 : Int) ∧ (1 : Int) ≤ (↑(List.length y1f3_) : Int)) ∧ (List.length y1f1_ ≤ (1048576 : Nat) ∧ List.length (List.take (n_ (1 : Int)) (List.drop (0 : Nat) y1f3_)) ≤ (4611686018427387904 : Nat)) ∧ ((0 : Int) ≤ Contact.A A3_ ∧ Contact.A A3_ < (↑(List.length A2_) : Int)) ∧ ((0 : Int) ≤ Contact.A A3_ ∧ Contact.A A3_ < (↑(List.length A2_) : Int)) ∧ ((0 : Int) ≤ Contact.B A3_ ∧ Contact.B A3_ < (↑(List.length A2_) : Int)) ∧ ((0 : Int) ≤ Contact.B A3_ ∧ Contact.B A3_ < (↑(List.length A2_) : Int)) ∧ ifB (!Prod.snd A7_) (Q (SV.bool true) [(false, vy_ y1f0_)]) (Q (SV.bool (decide (Hit.Deep (Prod.fst A7_) ≤ w_ (Hit.Deep (Contact.Hit A3_) + (2 : Int))))) [(false, vy_ y1f0_)]))))))) := by kernel_rfl

theorem ok_lawApart : FsOk Tryz.prog 11 fs_lawApart := fsOk_of tt_ok (tabFs_cons ok_DrawApart (tabFs_cons ok_implApart (tabFs_cons ok_specApart (tabFs_cons ok_lawsPqBodies (tabFs_cons ok_implContacts (tabFs_cons ok_implTouch tabFs_nil)))))) mixed Tryz.func11 (by kernel_rfl) (by kernel_rfl) (by
    intro args LL p r HH h hp
    unfold fs_lawApart at h
    dsimp only at h
    split at h
    case h_2 => cases h
    rename_i b
    simp only [Option.some.injEq, Prod.mk.injEq] at h
    obtain ⟨rfl, rfl, rfl⟩ := h
    refine ⟨by simp [Form, stays], (L_lawApart), ?_⟩
    rw [vc_lawApart]
    try dsimp only
    have hb := bytesOk_of (hp _ rfl)
    refine ifB_of (fun c => ⟨rfl, rfl⟩) (fun c => ⟨hb, ?_⟩)
    generalize g_DrawApart b = z
    obtain ⟨⟨xs, cs⟩, h1, h2⟩ := z
    dsimp only at h1 h2 ⊢
    have g1 := length_apartB xs cs
    have g2 := length_contactsOf xs
    simp only [same_self, Bool.not_true, ifBt, ifBf]
    refine ⟨⟨by omega, by omega⟩, ⟨by omega, by omega⟩, by omega, ifB_of (fun d => ⟨⟨by omega, by omega⟩, by omega, (by trivial), (by trivial)⟩) (fun d => ⟨by omega, ⟨(by trivial), (by trivial), (by trivial), (by trivial), by omega, by omega⟩, ?_⟩)⟩
    have d := bne_eq_false_iff_eq.1 d
    have hlen : (apartB xs cs).length = xs.length := by omega
    clear d
    rintro ⟨b', xs', us, all, i⟩ ⟨h⟩
    dsimp only at h ⊢
    obtain ⟨rfl, rfl, rfl, rfl, i0, i1⟩ := h
    refine ifB_of (fun c1 => ?_) (fun c1 => ?_)
    · have cc := of_decide_eq_true c1
      have w : IntKind.i64.wrap (i + 1) = i + 1 := wrap_small (by omega) (by omega)
      have hi : i.toNat < xs'.length := by omega
      have hF : (Ty.ix .body (apartB xs' cs) i.toNat).Mass = 0 → Ty.ix .body (apartB xs' cs) i.toNat = Ty.ix .body xs' i.toNat := by
        unfold apartB at hlen ⊢
        cases q : pushesOk xs' cs with
        | false =>
          rw [q] at hlen
          simp only [cond_false, List.length_nil] at hlen
          omega
        | true =>
          simp only [cond_true]
          simp only [pushesOk, Bool.and_eq_true] at q
          have hc := ctsOk_mem (ctsI_ok (n := xs'.length) (by omega) q.2)
          intro m
          have hM := ((kin_apartF hc).2 _ hi).2.2.1
          exact apartF_fix hc hi (hM.trans m)
      rw [w]
      refine ⟨⟨i0, cc⟩, ifB_of (fun m => ⟨⟨i0, cc⟩, ⟨i0, by omega⟩, ?_⟩) (fun m => ⟨⟨(by trivial), (by trivial), (by trivial), (by trivial), by omega, by omega⟩, by omega⟩)⟩
      rw [hF (eq_of_beq m)]
      simp only [beq_self_eq_true, Bool.and_self, Bool.not_true, ifBf]
      exact ⟨⟨(by trivial), (by trivial), (by trivial), (by trivial), by omega, by omega⟩, by omega⟩
    · refine ifB_of (fun d => ⟨(by trivial), (by trivial)⟩) (fun d => ?_)
      have d := beq_eq_false_iff_ne.1 d
      have hok : bodiesOk xs' = true := by
        cases q : bodiesOk xs' with
        | true => rfl
        | false =>
          exfalso
          simp only [contactsOf, q, cond_false, List.length_nil] at d
          omega
      have hl := bodiesOk_len hok
      have hC : contactsOf xs' = contactsF xs' := by simp [contactsOf, hok]
      rw [hC] at d g2 ⊢
      have hpos : 0 < (contactsF xs').length := by omega
      have hmem : Ty.ix .contact (contactsF xs') 0 ∈ contactsF xs' := List.mem_of_getElem? (ix_get (T := .contact) hpos)
      obtain ⟨k1, k2, k3⟩ := contact_hit hok hmem
      have htk : List.take (Int.toNat 1) (List.drop 0 (contactsF xs')) = [Ty.ix .contact (contactsF xs') 0] := by
        have := drop_ix (T := .contact) hpos
        rw [this]
        rfl
      have hz : (Int.toNat 0) = 0 := rfl
      rw [htk, hz]
      generalize Ty.ix .contact (contactsF xs') 0 = c0 at *
      have hp1 : pushesOk xs' [c0] = true := by
        have h1 : ctI xs'.length c0 = true := by
          obtain ⟨a0, a1, b0, b1, ne⟩ := k3
          obtain ⟨⟨w1, w2, w3, w4⟩, w5, w6⟩ := k1
          unfold ctI hitOk isIn
          rw [show W ((xs'.length : Int) - 1) = (xs'.length : Int) - 1 from W_small (by omega) (by omega)]
          simp only [Bool.and_eq_true, decide_eq_true_eq, Bool.not_eq_true', beq_eq_false_iff_ne]
          refine ⟨⟨⟨?_, ?_⟩, ne⟩, ?_⟩ <;> omega
        simp only [pushesOk, hok, ctsI, List.length_singleton, allTo, Bool.true_and]
        rw [show Ty.ix .contact [c0] 0 = c0 from rfl, h1]
        rfl
      have hA : apartB xs' [c0] = apartOne xs' c0 := by simp [apartB, hp1, apartF]
      rw [hA, length_apartOne]
      have hD := apart_deep hok hmem
      obtain ⟨a0, a1, b0, b1, ne⟩ := k3
      have hw : IntKind.i64.wrap (c0.Hit.Deep + 2) = c0.Hit.Deep + 2 := by
        obtain ⟨_, w5, w6⟩ := k1
        exact wrap_small (by omega) (by omega)
      rw [hw]
      refine ⟨⟨by omega, by omega⟩, ⟨by omega, by omega⟩, ⟨by omega, by simp⟩, ⟨a0, a1⟩, ⟨a0, a1⟩, ⟨b0, b1⟩, ⟨b0, b1⟩, ifB_of (fun e => ⟨(by trivial), (by trivial)⟩) (fun e => ⟨congrArg SV.bool (decide_eq_true ?_), rfl⟩)⟩
      have := hD (not_false e)
      exact Int.le_trans this (by omega))

end
end Go.Proofs.YtdhbkcaaijgocaaGreat.Sym

