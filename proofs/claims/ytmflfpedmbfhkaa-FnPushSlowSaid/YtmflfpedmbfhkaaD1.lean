/-
  How codes are read.
  No condition.
-/
import Derived.Test.YtmflfpedmbfhkaaG3
namespace Go.Proofs.Ytmflfpedmbfhkaa.Sym
open Go
set_option linter.unusedVariables false
set_option linter.unusedSimpArgs false
set_option maxRecDepth 100000

instance : Nonempty Vec := ⟨⟨0, 0⟩⟩
instance : Nonempty Shape := ⟨⟨0, 0, 0⟩⟩
instance : Nonempty Box := ⟨⟨⟨0, 0⟩, ⟨0, 0⟩⟩⟩
instance : Nonempty Ray := ⟨⟨⟨0, 0⟩, ⟨0, 0⟩⟩⟩
instance : Nonempty Item := ⟨⟨0, ⟨⟨0, 0⟩, ⟨0, 0⟩⟩⟩⟩
instance : Nonempty Pair := ⟨⟨0, 0⟩⟩
instance : Nonempty Hit := ⟨⟨⟨0, 0⟩, 0⟩⟩
instance : Nonempty Contact := ⟨⟨0, 0, ⟨⟨0, 0⟩, 0⟩⟩⟩
instance : Nonempty Body := ⟨⟨0, ⟨0, 0, 0⟩, ⟨0, 0⟩, ⟨0, 0⟩, 0, 0, 0, 0⟩⟩

structure BytesOk (b : List Int) : Prop where
  out : ∀ x ∈ b, 0 ≤ x ∧ x ≤ 255
theorem BytesOk.ix {b : List Int} (h : BytesOk b) (i : Nat) : @LE.le Int Int.instLEInt 0 (Ty.ix .byte b i) ∧ @LE.le Int Int.instLEInt (Ty.ix .byte b i) 255 := by
  simp only [Ty.ix, List.getD_eq_getElem?_getD]
  cases e : b[i]? with
  | none => simp [Ty.dft]
  | some x => exact h.out x (List.mem_of_getElem? e)
theorem BytesOk.part {b : List Int} (h : BytesOk b) (i n : Nat) : BytesOk ((b.drop i).take n) :=
  ⟨fun x hx => h.out x (List.mem_of_mem_drop (List.mem_of_mem_take hx))⟩
theorem xor_nonneg {a b : Int} (ha : 0 ≤ a) (hb : 0 ≤ b) (ha' : a < 9223372036854775808) (hb' : b < 9223372036854775808) :
    0 ≤ IntKind.i64.wrap (BitVec.ofInt IntKind.i64.bits a ^^^ BitVec.ofInt IntKind.i64.bits b).toNat := by
  obtain ⟨m, rfl⟩ := Int.eq_ofNat_of_zero_le ha
  obtain ⟨n, rfl⟩ := Int.eq_ofNat_of_zero_le hb
  have e : IntKind.i64.bits = 64 := rfl
  rw [e]
  have hm : m < 2 ^ 63 := by omega
  have hn : n < 2 ^ 63 := by omega
  have h1 : (BitVec.ofInt 64 (m : Int) ^^^ BitVec.ofInt 64 (n : Int)).toNat = m ^^^ n := by
    rw [BitVec.toNat_xor]
    simp only [BitVec.toNat_ofInt]
    congr 1 <;> omega
  rw [h1]
  have h2 : m ^^^ n < 2 ^ 63 := Nat.xor_lt_two_pow hm hn
  rw [wrap_small (by omega) (by omega)]
  omega
theorem tmod_emod {a n : Int} (ha : 0 ≤ a) (hn : 1 ≤ n) : 0 ≤ a.tmod n ∧ a.tmod n < n := by
  rw [Int.tmod_eq_emod_of_nonneg ha]
  exact ⟨Int.emod_nonneg _ (by omega), Int.emod_lt_of_pos _ (by omega)⟩

noncomputable def g_rdPick (b : List Int) (p : Int) (n : Int) : Int := someAns tt (look []) Try.f13 [.ptr 1 0 0, .int .i64 n] [(false, .vec .byte b), (true, .box [.vec 0, .int .i64 p])] (fun x : Int => (.int .i64 (x % n) : SV)) (fun x : Int => ([(false, .vec .byte b), (true, .box [.vec 0, .int .i64 (p+1)])] : List Ent))
noncomputable def fs_rdPick : Fs := ⟨[], fun args H => match args, H with
  | [.ptr 1 0 0, .int .i64 n], [(false, .vec .byte b), (true, .box [.vec 0, .int .i64 p])] => some ((some (0 ≤ p ∧ p + 1 ≤ 1000000000000 ∧ BytesOk b ∧ 1 ≤ n)), .int .i64 ((g_rdPick b p n) % n), [(false, .vec .byte b), (true, .box [.vec 0, .int .i64 (p+1)])])
  | _, _ => none⟩

theorem vc_rdPick (b : List Int) (p : Int) (n : Int) (Q : SV → List Ent → Prop) :
    fnVC tt (look []) L0 Try.f13 [.ptr 1 0 0, .int .i64 n] [(false, .vec .byte b), (true, .box [.vec 0, .int .i64 p])] Q =
    (let w_ := IntKind.wrap IntKind.i64; let s_ := SV.int IntKind.i64; let A4_ := (true, Blk.box [SV.vec (0 : Nat), s_ (w_ (p + (1 : Int)))]); let A3_ := (↑(List.length b) : Int); let A2_ := (w_ (p + (1 : Int)) - (1 : Int)); let A5_ := (w_ (w_ (w_ A2_ * (7 : Int)) + (3 : Int))); let A1_ := (w_ (w_ (w_ (w_ (w_ (Ty.ix Ty.byte b (Int.toNat (Int.tmod (w_ A2_) A3_))) * (131 : Int)) + w_ (w_ (Ty.ix Ty.byte b (Int.toNat (Int.tmod A5_ A3_))) * (1117 : Int))) + w_ (w_ A2_ * (29 : Int))) + w_ (w_ (Int.tdiv (w_ A2_) A3_) * (53 : Int)))); ifB (decide (n < (1 : Int))) (Q (s_ (0 : Int)) [(false, Blk.vec Ty.byte b), A4_]) (ifB (A3_ == (0 : Int)) (Q (s_ (0 : Int)) [(false, Blk.vec Ty.byte b), A4_]) (ifB (decide (w_ A2_ < A3_)) (((0 : Int) ≤ w_ A2_ ∧ w_ A2_ < A3_) ∧ n ≠ (0 : Int) ∧ Q (s_ (Int.tmod (w_ (Ty.ix Ty.byte b (Int.toNat (w_ A2_)))) n)) [(false, Blk.vec Ty.byte b), A4_]) (A3_ ≠ (0 : Int) ∧ ((0 : Int) ≤ Int.tmod (w_ A2_) A3_ ∧ Int.tmod (w_ A2_) A3_ < A3_) ∧ A3_ ≠ (0 : Int) ∧ ((0 : Int) ≤ Int.tmod A5_ A3_ ∧ Int.tmod A5_ A3_ < A3_) ∧ A3_ ≠ (0 : Int) ∧ n ≠ (0 : Int) ∧ Q (s_ (Int.tmod (w_ (↑(BitVec.toNat (BitVec.ofInt (IntKind.bits IntKind.i64) A1_ ^^^ BitVec.ofInt (IntKind.bits IntKind.i64) (w_ (Int.tdiv A1_ (64 : Int))))) : Int)) n)) [(false, Blk.vec Ty.byte b), A4_])))) := by kernel_rfl

theorem ok_rdPick : FsOk Try.prog 13 fs_rdPick := fsOk_of tt_ok tabFs_nil mixed Try.func13 (by kernel_rfl) (by kernel_rfl) (by
    intro args LL p0 r HH h hp
    unfold fs_rdPick at h
    dsimp only at h
    split at h
    case h_2 => cases h
    rename_i n b p
    simp only [Option.some.injEq, Prod.mk.injEq] at h
    obtain ⟨rfl, rfl, rfl⟩ := h
    refine ⟨by simp [Form, stays], L0, ?_⟩
    refine someAns_ok (R := (fun x : Int => (.int .i64 (x % n) : SV))) (HH := (fun x : Int => ([(false, .vec .byte b), (true, .box [.vec 0, .int .i64 (p+1)])] : List Ent))) (by kernel_rfl) ?_
    rw [vc_rdPick]
    try dsimp only
    obtain ⟨h0, h1, hby, hn⟩ := hp _ rfl
    have fin : ∀ v : Int, 0 ≤ v → v < n → ∃ x : Int, SV.int IntKind.i64 v = SV.int IntKind.i64 (x % n) ∧ True :=
      fun v hv1 hv2 => ⟨v, by rw [Int.emod_eq_of_lt hv1 hv2], trivial⟩
    have w1 : IntKind.wrap IntKind.i64 (p + 1) = p + 1 := wrap_small (by omega) (by omega)
    have w2 : IntKind.wrap IntKind.i64 (p + 1 - 1) = p := by rw [wrap_small (by omega) (by omega)]; omega
    have w3 : IntKind.wrap IntKind.i64 (p * 7) = p * 7 := wrap_small (by omega) (by omega)
    have w4 : IntKind.wrap IntKind.i64 (p * 7 + 3) = p * 7 + 3 := wrap_small (by omega) (by omega)
    have w5 : IntKind.wrap IntKind.i64 (p * 29) = p * 29 := wrap_small (by omega) (by omega)
    simp only [w1, w2, w3, w4, w5]
    have bx := hby.ix
    have wb : ∀ i, IntKind.wrap IntKind.i64 (Ty.ix .byte b i) = Ty.ix .byte b i := fun i => wrap_small (by have := bx i; omega) (by have := bx i; omega)
    have hix : ∀ i, IntKind.wrap IntKind.i64 (Ty.ix .byte b i * 131) = Ty.ix .byte b i * 131 := fun i => wrap_small (by have := bx i; omega) (by have := bx i; omega)
    have hiy : ∀ i, IntKind.wrap IntKind.i64 (Ty.ix .byte b i * 1117) = Ty.ix .byte b i * 1117 := fun i => wrap_small (by have := bx i; omega) (by have := bx i; omega)
    simp only [wb, hix, hiy]
    refine ifB_of (fun c => ?_) (fun c => ?_)
    · have := of_decide_eq_true c
      omega
    refine ifB_of (fun c2 => ?_) (fun c2 => ?_)
    · exact fin 0 (by omega) (by omega)
    have c2 : (b.length : Int) ≠ 0 := by simpa using c2
    refine ifB_of (fun c3 => ?_) (fun c3 => ?_)
    · have c3 := of_decide_eq_true c3
      obtain ⟨q1, q2⟩ := tmod_emod (bx p.toNat).1 hn
      exact ⟨⟨h0, c3⟩, by omega, fin _ q1 q2⟩
    · have hl : (1 : Int) ≤ b.length := by omega
      have t1 := tmod_emod h0 hl
      have t2 := tmod_emod (a := p * 7 + 3) (by omega) hl
      refine ⟨c2, t1, c2, t2, c2, by omega, ?_⟩
      have d0 : 0 ≤ p.tdiv b.length := Int.tdiv_nonneg h0 (by omega)
      have d1 : p.tdiv b.length ≤ p := by
        rw [Int.tdiv_eq_ediv_of_nonneg h0]
        exact Int.ediv_le_self _ h0
      generalize p.tdiv b.length = d at d0 d1 ⊢
      have b1 := bx (p.tmod b.length).toNat
      have b2 := bx ((p * 7 + 3).tmod b.length).toNat
      obtain ⟨v1, hv1⟩ : ∃ v1 : Int, Ty.ix Ty.byte b (p.tmod b.length).toNat = v1 := ⟨_, rfl⟩
      obtain ⟨v2, hv2⟩ : ∃ v2 : Int, Ty.ix Ty.byte b ((p * 7 + 3).tmod b.length).toNat = v2 := ⟨_, rfl⟩
      rw [hv1] at b1
      rw [hv2] at b2
      rw [hv1, hv2]
      have e1 : IntKind.wrap IntKind.i64 d = d := wrap_small (by omega) (by omega)
      have e2 : IntKind.wrap IntKind.i64 (d * 53) = d * 53 := wrap_small (by omega) (by omega)
      rw [e1, e2]
      have e3 : IntKind.wrap IntKind.i64 (v1 * 131 + v2 * 1117) = v1 * 131 + v2 * 1117 := wrap_small (by omega) (by omega)
      rw [e3]
      have e4 : IntKind.wrap IntKind.i64 (v1 * 131 + v2 * 1117 + p * 29) = v1 * 131 + v2 * 1117 + p * 29 := wrap_small (by omega) (by omega)
      rw [e4]
      have e5 : IntKind.wrap IntKind.i64 (v1 * 131 + v2 * 1117 + p * 29 + d * 53) = v1 * 131 + v2 * 1117 + p * 29 + d * 53 := wrap_small (by omega) (by omega)
      rw [e5]
      have hs : 0 ≤ v1 * 131 + v2 * 1117 + p * 29 + d * 53 := by omega
      have hs2 : v1 * 131 + v2 * 1117 + p * 29 + d * 53 ≤ 100000000000000 := by omega
      generalize v1 * 131 + v2 * 1117 + p * 29 + d * 53 = s at hs hs2 ⊢
      have hd0 : 0 ≤ s.tdiv 64 := Int.tdiv_nonneg hs (by omega)
      have hd1 : s.tdiv 64 ≤ s := by
        rw [Int.tdiv_eq_ediv_of_nonneg hs]
        exact Int.ediv_le_self _ hs
      have e6 : IntKind.wrap IntKind.i64 (s.tdiv 64) = s.tdiv 64 := wrap_small (by omega) (by omega)
      rw [e6]
      obtain ⟨q1, q2⟩ := tmod_emod (xor_nonneg hs hd0 (by omega) (by omega)) hn
      exact fin _ q1 q2)

noncomputable def fs_rdOne : Fs := ⟨[], fun args H => match args, H with
  | [.ptr 1 0 0, .vec 2], [(false, .vec .byte b), (true, .box [.vec 0, .int .i64 p]), (false, .vec .int xs)] => some ((some (0 ≤ p ∧ p + 1 ≤ 1000000000000 ∧ BytesOk b ∧ 1 ≤ xs.length)), .int .i64 (Ty.ix .int xs (g_rdPick b p xs.length % xs.length).toNat), [(false, .vec .byte b), (true, .box [.vec 0, .int .i64 (p+1)]), (false, .vec .int xs)])
  | _, _ => none⟩

theorem vc_rdOne (b : List Int) (p : Int) (xs : List Int) (Q : SV → List Ent → Prop) :
    fnVC tt (look [(13, fs_rdPick)]) L0 Try.f29 [.ptr 1 0 0, .vec 2] [(false, .vec .byte b), (true, .box [.vec 0, .int .i64 p]), (false, .vec .int xs)] Q =
    (((0 : Int) ≤ p ∧ p + (1 : Int) ≤ (1000000000000 : Int) ∧ BytesOk b ∧ (1 : Int) ≤ (↑(List.length xs) : Int)) ∧ ((0 : Int) ≤ g_rdPick b p (↑(List.length xs) : Int) % (↑(List.length xs) : Int) ∧ g_rdPick b p (↑(List.length xs) : Int) % (↑(List.length xs) : Int) < (↑(List.length xs) : Int)) ∧ Q (SV.int IntKind.i64 (Ty.ix Ty.int xs (Int.toNat (g_rdPick b p (↑(List.length xs) : Int) % (↑(List.length xs) : Int))))) [(false, Blk.vec Ty.byte b), (true, Blk.box [SV.vec (0 : Nat), SV.int IntKind.i64 (p + (1 : Int))]), (false, Blk.vec Ty.int xs)]) := by kernel_rfl

theorem ok_rdOne : FsOk Try.prog 29 fs_rdOne := fsOk_of tt_ok (tabFs_cons ok_rdPick tabFs_nil) mixed Try.func29 (by kernel_rfl) (by kernel_rfl) (by
    intro args LL p r HH h hp
    unfold fs_rdOne at h
    dsimp only at h
    split at h
    case h_2 => cases h
    rename_i b p xs
    simp only [Option.some.injEq, Prod.mk.injEq] at h
    obtain ⟨rfl, rfl, rfl⟩ := h
    refine ⟨by simp [Form, stays], L0, ?_⟩
    rw [vc_rdOne]
    try dsimp only
    obtain ⟨h0, h1, hby, hn⟩ := hp _ rfl
    exact ⟨⟨h0, h1, hby, by omega⟩, ⟨Int.emod_nonneg _ (by omega), Int.emod_lt_of_pos _ (by omega)⟩, rfl, rfl⟩)

noncomputable def fs_l1Open : Fs := ⟨[], fun args H => match args, H with
  | [.vec 0], [(false, .vec .byte b)] => some (none, .ptr 1 0 0, [(false, .vec .byte b), (true, .box [.sl 0 0 (min b.length 2000), .int .i64 0])])
  | _, _ => none⟩

theorem vc_l1Open (b : List Int) (Q : SV → List Ent → Prop) :
    fnVC tt (look []) L0 Try.f11 [.vec 0] [(false, .vec .byte b)] Q =
    (ifB (decide ((↑(List.length b) : Int) > (2000 : Int))) (((0 : Int) ≤ (2000 : Int) ∧ (2000 : Int) ≤ (↑(List.length b) : Int)) ∧ Q (SV.ptr (1 : Nat) (0 : Nat) (0 : Nat)) [(false, Blk.vec Ty.byte b), (true, Blk.box [SV.sl (0 : Nat) (0 : Nat) (2000 : Nat), SV.int IntKind.i64 (0 : Int)])]) (Q (SV.ptr (1 : Nat) (0 : Nat) (0 : Nat)) [(false, Blk.vec Ty.byte b), (true, Blk.box [SV.sl (0 : Nat) (0 : Nat) (List.length b), SV.int IntKind.i64 (0 : Int)])])) := by kernel_rfl

theorem ok_l1Open : FsOk Try.prog 11 fs_l1Open := fsOk_of tt_ok tabFs_nil mixed Try.func11 (by kernel_rfl) (by kernel_rfl) (by
    intro args LL p r HH h hp
    unfold fs_l1Open at h
    dsimp only at h
    split at h
    case h_2 => cases h
    rename_i b
    simp only [Option.some.injEq, Prod.mk.injEq] at h
    obtain ⟨rfl, rfl, rfl⟩ := h
    refine ⟨by simp [Form, stays], L0, ?_⟩
    rw [vc_l1Open]
    try dsimp only
    refine ifB_of (fun c => ?_) (fun c => ?_)
    · have c := of_decide_eq_true c
      have : min b.length 2000 = 2000 := by omega
      rw [this]
      exact ⟨⟨by omega, by omega⟩, rfl, rfl⟩
    · have c := of_decide_eq_false c
      have : min b.length 2000 = b.length := by omega
      rw [this]
      exact ⟨rfl, rfl⟩)

theorem ix2 (a b : Int) (i : Nat) : @Eq Int (Ty.ix .int ([a, b] : List Int) i) <| if i = 0 then a else if i = 1 then b else 0 := by
  match i with
  | 0 => rfl
  | 1 => rfl
  | n + 2 => simp [Ty.ix, List.getD, Ty.dft]
theorem ix3 (a b c : Int) (i : Nat) : @Eq Int (Ty.ix .int ([a, b, c] : List Int) i) <| if i = 0 then a else if i = 1 then b else if i = 2 then c else 0 := by
  match i with
  | 0 => rfl
  | 1 => rfl
  | 2 => rfl
  | n + 3 => simp [Ty.ix, List.getD, Ty.dft]
theorem ix4 (a b c d : Int) (i : Nat) : @Eq Int (Ty.ix .int ([a, b, c, d] : List Int) i) <| if i = 0 then a else if i = 1 then b else if i = 2 then c else if i = 3 then d else 0 := by
  match i with
  | 0 => rfl
  | 1 => rfl
  | 2 => rfl
  | 3 => rfl
  | n + 4 => simp [Ty.ix, List.getD, Ty.dft]
/-- Near the middle. -/
def placeP (v : Vec) : Prop := -1024 ≤ v.X ∧ v.X ≤ 1016 ∧ -1024 ≤ v.Y ∧ v.Y ≤ 1016
/-- A box near the middle, not turned about. -/
def boxP (b : Box) : Prop := -1024 ≤ b.Low.X ∧ b.Low.X ≤ 1016 ∧ -1024 ≤ b.Low.Y ∧ b.Low.Y ≤ 1016 ∧ b.Low.X ≤ b.High.X ∧ b.High.X ≤ b.Low.X + 1020 ∧ b.Low.Y ≤ b.High.Y ∧ b.High.Y ≤ b.Low.Y + 1020
def placeA (v : Vec) : Prop := -2560001 ≤ v.X ∧ v.X ≤ 2560001 ∧ -2560001 ≤ v.Y ∧ v.Y ≤ 2560001
instance : Nonempty {x : Vec // placeA x} := ⟨⟨⟨0, 0⟩, by simp [placeA]⟩⟩
def wayP (r : Ray) : Prop := placeA r.From ∧ -2560000 ≤ r.Way.X ∧ r.Way.X ≤ 2560000 ∧ -2560000 ≤ r.Way.Y ∧ r.Way.Y ≤ 2560000
instance : Nonempty {x : Vec // placeP x} := ⟨⟨⟨0, 0⟩, by simp [placeP]⟩⟩
instance : Nonempty {x : Box // boxP x} := ⟨⟨⟨⟨0, 0⟩, ⟨0, 0⟩⟩, by simp [boxP]⟩⟩
instance : Nonempty {x : Ray // wayP x} := ⟨⟨⟨⟨0, 0⟩, ⟨0, 0⟩⟩, by simp [wayP, placeA]⟩⟩
noncomputable def g_l11Place (b : List Int) (p : Int) : ({x : Vec // placeP x}) × Nat := someAns tt (look [(13, fs_rdPick)]) Try.f60 [.ptr 1 0 0] [(false, .vec .byte b), (true, .box [.vec 0, .int .i64 p])] (fun x : ({x : Vec // placeP x}) × Nat => (.agg [.int .i64 (x.1.1).X, .int .i64 (x.1.1).Y] : SV)) (fun x : ({x : Vec // placeP x}) × Nat => ([(false, .vec .byte b), (true, .box [.vec 0, .int .i64 (p + 2)])] : List Ent))
noncomputable def fs_l11Place : Fs := ⟨[], fun args H => match args, H with
  | [.ptr 1 0 0], [(false, .vec .byte b), (true, .box [.vec 0, .int .i64 p])] => some ((some (0 ≤ p ∧ p + 2 ≤ 1000000000000 ∧ BytesOk b)), .agg [.int .i64 ((g_l11Place b p).1.1).X, .int .i64 ((g_l11Place b p).1.1).Y], [(false, .vec .byte b), (true, .box [.vec 0, .int .i64 (p + 2)])])
  | _, _ => none⟩

theorem vc_l11Place (b : List Int) (p : Int) (Q : SV → List Ent → Prop) :
    fnVC tt (look [(13, fs_rdPick)]) L0 Try.f60 [.ptr 1 0 0] [(false, .vec .byte b), (true, .box [.vec 0, .int .i64 p])] Q =
    (((0 : Int) ≤ p ∧ p + (1 : Int) ≤ (1000000000000 : Int) ∧ BytesOk b ∧ (1 : Int) ≤ (256 : Int)) ∧ ((0 : Int) ≤ p + (1 : Int) ∧ p + (1 : Int) + (1 : Int) ≤ (1000000000000 : Int) ∧ BytesOk b ∧ (1 : Int) ≤ (256 : Int)) ∧ Q (SV.agg [SV.int IntKind.i64 (IntKind.wrap IntKind.i64 (IntKind.wrap IntKind.i64 (g_rdPick b p (256 : Int) % (256 : Int) * (8 : Int)) - (1024 : Int))), SV.int IntKind.i64 (IntKind.wrap IntKind.i64 (IntKind.wrap IntKind.i64 (g_rdPick b (p + (1 : Int)) (256 : Int) % (256 : Int) * (8 : Int)) - (1024 : Int)))]) [(false, Blk.vec Ty.byte b), (true, Blk.box [SV.vec (0 : Nat), SV.int IntKind.i64 (p + (1 : Int) + (1 : Int))])]) := by kernel_rfl

theorem ok_l11Place : FsOk Try.prog 60 fs_l11Place := fsOk_of tt_ok (tabFs_cons ok_rdPick tabFs_nil) mixed Try.func60 (by kernel_rfl) (by kernel_rfl) (by
    intro args LL p0 r HH h hp
    unfold fs_l11Place at h
    dsimp only at h
    split at h
    case h_2 => cases h
    rename_i b p
    simp only [Option.some.injEq, Prod.mk.injEq] at h
    obtain ⟨rfl, rfl, rfl⟩ := h
    refine ⟨by simp [Form, stays], L0, ?_⟩
    obtain ⟨hp0, hp1, hby⟩ := hp _ rfl
    refine someAns_ok (R := (fun x : ({x : Vec // placeP x}) × Nat => (.agg [.int .i64 (x.1.1).X, .int .i64 (x.1.1).Y] : SV))) (HH := (fun x : ({x : Vec // placeP x}) × Nat => ([(false, .vec .byte b), (true, .box [.vec 0, .int .i64 (p + 2)])] : List Ent))) (by kernel_rfl) ?_
    have fin : ∀ (zX : Int) (zY : Int) (p' : Int), placeP (Vec.mk zX zY) → p' = p + 2 → ∃ x : ({x : Vec // placeP x}) × Nat, ((.agg [.int .i64 ((Vec.mk zX zY)).X, .int .i64 ((Vec.mk zX zY)).Y] : SV) : SV) = (fun x : ({x : Vec // placeP x}) × Nat => (.agg [.int .i64 (x.1.1).X, .int .i64 (x.1.1).Y] : SV)) x ∧ (([(false, .vec .byte b), (true, .box [.vec 0, .int .i64 p'])] : List Ent) : List Ent) = (fun x : ({x : Vec // placeP x}) × Nat => ([(false, .vec .byte b), (true, .box [.vec 0, .int .i64 (p + 2)])] : List Ent)) x := fun zX zY p' hpred h1 => ⟨(⟨(Vec.mk zX zY), hpred⟩, 0), rfl, by rw [h1]⟩
    rw [vc_l11Place]
    try dsimp only
    try dsimp only at fin
    repeat' (first | refine ifB_of (fun _ => ?_) (fun _ => ?_) | refine pre_of ?_ (fun _ => ?_))
    all_goals first
      | (refine fin _ _ _ ?_ ?_ <;> first | omega | (simp (disch := omega) only [placeP, wrap_small]; omega))
      | omega
      | exact hby
      | exact Nat.le_add_left _ _
      | exact ⟨by omega, by omega, hby⟩
      | exact ⟨by omega, by omega, hby, by omega⟩
      | exact ⟨by omega, by omega, hby, Nat.le_add_left _ _⟩)

noncomputable def g_l11AnyPlace (b : List Int) (p : Int) : ({x : Vec // placeA x}) × Nat := someAns tt (look [(13, fs_rdPick), (29, fs_rdOne), (60, fs_l11Place)]) Try.f52 [.ptr 1 0 0] [(false, .vec .byte b), (true, .box [.vec 0, .int .i64 p])] (fun x : ({x : Vec // placeA x}) × Nat => (.agg [.int .i64 (x.1.1).X, .int .i64 (x.1.1).Y] : SV)) (fun x : ({x : Vec // placeA x}) × Nat => ([(false, .vec .byte b), (true, .box [.vec 0, .int .i64 (p + ((x.2 % 5 : Nat) : Int))])] : List Ent))
noncomputable def fs_l11AnyPlace : Fs := ⟨[], fun args H => match args, H with
  | [.ptr 1 0 0], [(false, .vec .byte b), (true, .box [.vec 0, .int .i64 p])] => some ((some (0 ≤ p ∧ p + 4 ≤ 1000000000000 ∧ BytesOk b)), .agg [.int .i64 ((g_l11AnyPlace b p).1.1).X, .int .i64 ((g_l11AnyPlace b p).1.1).Y], [(false, .vec .byte b), (true, .box [.vec 0, .int .i64 (p + (((g_l11AnyPlace b p).2 % 5 : Nat) : Int))])])
  | _, _ => none⟩

theorem vc_l11AnyPlace (b : List Int) (p : Int) (Q : SV → List Ent → Prop) :
    fnVC tt (look [(13, fs_rdPick), (29, fs_rdOne), (60, fs_l11Place)]) L0 Try.f52 [.ptr 1 0 0] [(false, .vec .byte b), (true, .box [.vec 0, .int .i64 p])] Q =
    (((0 : Int) ≤ p ∧ p + (2 : Int) ≤ (1000000000000 : Int) ∧ BytesOk b) ∧ ((0 : Int) ≤ p + (2 : Int) ∧ p + (2 : Int) + (1 : Int) ≤ (1000000000000 : Int) ∧ BytesOk b ∧ (1 : Int) ≤ (24 : Int)) ∧ ifB (g_rdPick b (p + (2 : Int)) (24 : Int) % (24 : Int) == (0 : Int)) (((0 : Int) ≤ p + (2 : Int) + (1 : Int) ∧ p + (2 : Int) + (1 : Int) + (1 : Int) ≤ (1000000000000 : Int) ∧ BytesOk b ∧ (1 : Nat) ≤ List.length [(2560000 : Int), (-2560000 : Int), (2560001 : Int)]) ∧ Q (SV.agg [SV.int IntKind.i64 (Ty.ix Ty.int [(2560000 : Int), (-2560000 : Int), (2560001 : Int)] (Int.toNat (g_rdPick b (p + (2 : Int) + (1 : Int)) (↑(List.length [(2560000 : Int), (-2560000 : Int), (2560001 : Int)]) : Int) % (↑(List.length [(2560000 : Int), (-2560000 : Int), (2560001 : Int)]) : Int)))), SV.int IntKind.i64 (Vec.Y (Subtype.val (Prod.fst (g_l11Place b p))))]) [(false, Blk.vec Ty.byte b), (true, Blk.box [SV.vec (0 : Nat), SV.int IntKind.i64 (p + (2 : Int) + (1 : Int) + (1 : Int))])]) (ifB (g_rdPick b (p + (2 : Int)) (24 : Int) % (24 : Int) == (1 : Int)) (((0 : Int) ≤ p + (2 : Int) + (1 : Int) ∧ p + (2 : Int) + (1 : Int) + (1 : Int) ≤ (1000000000000 : Int) ∧ BytesOk b ∧ (1 : Nat) ≤ List.length [(2560000 : Int), (-2560000 : Int), (-2560001 : Int)]) ∧ Q (SV.agg [SV.int IntKind.i64 (Vec.X (Subtype.val (Prod.fst (g_l11Place b p)))), SV.int IntKind.i64 (Ty.ix Ty.int [(2560000 : Int), (-2560000 : Int), (-2560001 : Int)] (Int.toNat (g_rdPick b (p + (2 : Int) + (1 : Int)) (↑(List.length [(2560000 : Int), (-2560000 : Int), (-2560001 : Int)]) : Int) % (↑(List.length [(2560000 : Int), (-2560000 : Int), (-2560001 : Int)]) : Int))))]) [(false, Blk.vec Ty.byte b), (true, Blk.box [SV.vec (0 : Nat), SV.int IntKind.i64 (p + (2 : Int) + (1 : Int) + (1 : Int))])]) (Q (SV.agg [SV.int IntKind.i64 (Vec.X (Subtype.val (Prod.fst (g_l11Place b p)))), SV.int IntKind.i64 (Vec.Y (Subtype.val (Prod.fst (g_l11Place b p))))]) [(false, Blk.vec Ty.byte b), (true, Blk.box [SV.vec (0 : Nat), SV.int IntKind.i64 (p + (2 : Int) + (1 : Int))])]))) := by kernel_rfl

theorem ok_l11AnyPlace : FsOk Try.prog 52 fs_l11AnyPlace := fsOk_of tt_ok (tabFs_cons ok_rdPick (tabFs_cons ok_rdOne (tabFs_cons ok_l11Place tabFs_nil))) mixed Try.func52 (by kernel_rfl) (by kernel_rfl) (by
    intro args LL p0 r HH h hp
    unfold fs_l11AnyPlace at h
    dsimp only at h
    split at h
    case h_2 => cases h
    rename_i b p
    simp only [Option.some.injEq, Prod.mk.injEq] at h
    obtain ⟨rfl, rfl, rfl⟩ := h
    refine ⟨by simp [Form, stays], L0, ?_⟩
    obtain ⟨hp0, hp1, hby⟩ := hp _ rfl
    refine someAns_ok (R := (fun x : ({x : Vec // placeA x}) × Nat => (.agg [.int .i64 (x.1.1).X, .int .i64 (x.1.1).Y] : SV))) (HH := (fun x : ({x : Vec // placeA x}) × Nat => ([(false, .vec .byte b), (true, .box [.vec 0, .int .i64 (p + ((x.2 % 5 : Nat) : Int))])] : List Ent))) (by kernel_rfl) ?_
    have fin : ∀ (zX : Int) (zY : Int) (p' : Int), placeA (Vec.mk zX zY) → p ≤ p' → p' ≤ p + 4 → ∃ x : ({x : Vec // placeA x}) × Nat, ((.agg [.int .i64 ((Vec.mk zX zY)).X, .int .i64 ((Vec.mk zX zY)).Y] : SV) : SV) = (fun x : ({x : Vec // placeA x}) × Nat => (.agg [.int .i64 (x.1.1).X, .int .i64 (x.1.1).Y] : SV)) x ∧ (([(false, .vec .byte b), (true, .box [.vec 0, .int .i64 p'])] : List Ent) : List Ent) = (fun x : ({x : Vec // placeA x}) × Nat => ([(false, .vec .byte b), (true, .box [.vec 0, .int .i64 (p + ((x.2 % 5 : Nat) : Int))])] : List Ent)) x := fun zX zY p' hpred h1 h2 => ⟨(⟨(Vec.mk zX zY), hpred⟩, (p' - p).toNat), rfl, by
      have : p + (((p' - p).toNat % 5 : Nat) : Int) = p' := by omega
      dsimp only
      rw [this]⟩
    rw [vc_l11AnyPlace]
    try dsimp only
    try dsimp only at fin
    have h1 := (g_l11Place b p).1.2
    simp only [placeP] at h1
    repeat' (first | refine ifB_of (fun _ => ?_) (fun _ => ?_) | refine pre_of ?_ (fun _ => ?_))
    all_goals first
      | (refine fin _ _ _ ?_ ?_ ?_ <;> first | omega | (simp only [placeA, ix3]; (repeat' split) <;> omega))
      | omega
      | exact hby
      | exact Nat.le_add_left _ _
      | exact ⟨by omega, by omega, hby⟩
      | exact ⟨by omega, by omega, hby, by omega⟩
      | exact ⟨by omega, by omega, hby, Nat.le_add_left _ _⟩)

theorem withinS_to (n : Int) : -2560000 ≤ withinS n 2560000 ∧ withinS n 2560000 ≤ 2560000 := by
  unfold withinS
  have : W (0 - 2560000) = -2560000 := by decide
  rw [this]
  omega
theorem bytesOk_of {b : List Int} (h : LOk .byte b) : BytesOk b := ⟨fun x hx => by
  have := h.2 x hx (.int .u8 x) (by simp [Ty.enc])
  simp only [fits, Lit.wf, Bool.and_eq_true, decide_eq_true_eq] at this
  have h1 : IntKind.u8.min = 0 := rfl
  have h2 : IntKind.u8.max = 255 := rfl
  omega⟩
def absW (n : Int) : Int := bif decide (n < 0) then W (0 - n) else n
noncomputable def fs_pqAbs : Fs := ⟨[], fun args H => match args, H with
  | [.int .i64 n], [] => some (none, .int .i64 (absW n), [])
  | _, _ => none⟩

theorem vc_pqAbs (n : Int) (Q : SV → List Ent → Prop) :
    fnVC tt (look []) L0 Try.f10 [.int .i64 n] [] Q =
    (ifB (decide (n < (0 : Int))) (Q (SV.int IntKind.i64 (IntKind.wrap IntKind.i64 ((0 : Int) - n))) []) (Q (SV.int IntKind.i64 n) [])) := by kernel_rfl

theorem ok_pqAbs : FsOk Try.prog 10 fs_pqAbs := fsOk_of tt_ok tabFs_nil mixed Try.func10 (by kernel_rfl) (by kernel_rfl) (by
    intro args LL p r HH h hp
    unfold fs_pqAbs at h
    dsimp only at h
    split at h
    case h_2 => cases h
    rename_i n
    simp only [Option.some.injEq, Prod.mk.injEq] at h
    obtain ⟨rfl, rfl, rfl⟩ := h
    refine ⟨by simp [Form, stays], L0, ?_⟩
    rw [vc_pqAbs]
    try dsimp only

    repeat' (first | refine ifB_of (fun _ => ?_) (fun _ => ?_) | refine pre_of ?_ (fun _ => ?_))
    all_goals first
      | rfl
      | (simp only [W, absW, *, cond_true, cond_false, Bool.true_and, Bool.false_and, Bool.and_true, Bool.and_false, Bool.not_true, Bool.not_false, and_self, true_and]; done)
      | (simp_all [W, absW]; done)
      | (simp_all [W, absW] <;> omega))

noncomputable def pk (b : List Int) (p n : Int) : Int := g_rdPick b p n % n
theorem pk_lt (b : List Int) (p : Int) {n : Int} (h : 1 ≤ n) : 0 ≤ pk b p n ∧ pk b p n < n := ⟨Int.emod_nonneg _ (by omega), Int.emod_lt_of_pos _ (by omega)⟩
end Go.Proofs.Ytmflfpedmbfhkaa.Sym
