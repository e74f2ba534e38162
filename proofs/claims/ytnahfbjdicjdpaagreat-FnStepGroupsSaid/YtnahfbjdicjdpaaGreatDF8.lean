/-
  What the rows of this claim stand on, part 8: the machine, the walks, the plain laws, as far as they are used.
  No condition.
-/
import Derived.Test.YtnahfbjdicjdpaaGreatDF7
namespace Go.Proofs.YtnahfbjdicjdpaaGreat.Sym
open Go
set_option linter.unusedVariables false
set_option linter.unusedSimpArgs false
set_option maxRecDepth 100000

theorem shapeD_ok {s : Shape} (h : shapeD s) : shapeOk s = true := by
  obtain ⟨h1, h2, h3⟩ := h
  unfold shapeOk
  rcases h3 with ⟨k, e⟩ | ⟨k, e1, e2⟩
  · rw [if_pos k]
    simp only [isIn, Bool.and_eq_true, decide_eq_true_eq, beq_iff_eq]
    omega
  · rw [if_neg (by omega), if_pos k]
    simp only [isIn, Bool.and_eq_true, decide_eq_true_eq]
    omega
theorem bodyD_ok {id : Int} {b : Body} (h0 : 0 ≤ id) (h1 : id ≤ 999999999) (h : bodyD id b) : bodyOk b = true := by
  obtain ⟨q1, q2, q3, ⟨q4, q5⟩, q6, q7, q8, q9, q10, q11, q12, q13, q14, q15⟩ := h
  simp only [placeP] at q3
  refine bok_iff.2 ⟨by omega, shapeD_ok q2, by omega, by omega, by omega, by omega, by omega, by omega, fun e => ⟨(q5 e).1, (q5 e).2, q14 e⟩, fun e => ?_⟩
  by_cases c : b.Quiet = 8
  · exact .inr (q15 c)
  · exact .inl (by omega)
theorem bok_at {b : Body} {p : Vec} (h : bodyOk b = true) (hp : -2560000 ≤ p.X ∧ p.X ≤ 2560000 ∧ -2560000 ≤ p.Y ∧ p.Y ≤ 2560000) : bodyOk { b with At := p } = true := by
  rw [bok_iff] at h ⊢
  obtain ⟨h1, h2, h3, h4, h5, h6, h7, h8, h9, h10⟩ := h
  exact ⟨h1, h2, hp, h4, h5, h6, h7, h8, h9, h10⟩
theorem ix_snoc {xs : List Body} {x : Body} {e : Nat} (h : e < xs.length) : Ty.ix .body (xs ++ [x]) e = Ty.ix .body xs e := by
  simp only [Ty.ix, List.getD_eq_getElem?_getD]
  rw [List.getElem?_append_left h]
theorem ix_last {xs : List Body} {x : Body} : Ty.ix .body (xs ++ [x]) xs.length = x := by
  simp [Ty.ix, List.getD]
def idsLtB (m : Int) (xs : List Body) : Prop := ∀ e, e < xs.length → (Ty.ix .body xs e).Id < m
theorem ok_snoc {xs : List Body} {x : Body} (h : bodiesOk xs = true) (hi : idsLtB x.Id xs) (hx : bodyOk x = true) (hl : xs.length < 12) : bodiesOk (xs ++ [x]) = true := by
  obtain ⟨h1, h2, h3⟩ := bodiesOk_iff.1 h
  have len : (xs ++ [x]).length = xs.length + 1 := by simp
  refine bodiesOk_iff.2 ⟨by omega, fun k hk => ?_, fun k hk => ?_⟩
  · by_cases e : k < xs.length
    · rw [ix_snoc e]
      exact h2 k e
    · rw [show k = xs.length by omega, ix_last]
      exact hx
  · by_cases e : k + 1 < xs.length
    · rw [ix_snoc e, ix_snoc (show k < xs.length by omega)]
      exact h3 k e
    · have e2 : k + 1 = xs.length := by omega
      rw [e2, ix_last, ix_snoc (by omega)]
      exact hi k (by omega)
theorem ids_snoc {xs : List Body} {x : Body} {m n : Int} (hi : idsLtB m xs) (hm : m ≤ n) (hx : x.Id < n) : idsLtB n (xs ++ [x]) := by
  intro e he
  have len : (xs ++ [x]).length = xs.length + 1 := by simp
  by_cases c : e < xs.length
  · rw [ix_snoc c]
    have := hi e c
    omega
  · rw [show e = xs.length by omega, ix_last]
    exact hx
noncomputable section
def bd (b : List Int) (p id : Int) : Body := (g_l11Body b p id).1.1
def cn (b : List Int) (p id : Int) : Int := (((g_l11Body b p id).2 % 16 : Nat) : Int)
theorem cn_le (b : List Int) (p id : Int) : 0 ≤ cn b p id ∧ cn b p id ≤ 15 := by
  unfold cn
  omega
def nearP (b : List Int) (p : Int) (v : Vec) : Vec := ⟨withinS (W (W (v.X + W (pk b p 256 * 4)) - 512)) 2560000, withinS (W (W (v.Y + W (pk b (p + 1) 256 * 4)) - 512)) 2560000⟩
theorem nearP_le (b : List Int) (p : Int) (v : Vec) : -2560000 ≤ (nearP b p v).X ∧ (nearP b p v).X ≤ 2560000 ∧ -2560000 ≤ (nearP b p v).Y ∧ (nearP b p v).Y ≤ 2560000 := ⟨(withinS_to _).1, (withinS_to _).2, (withinS_to _).1, (withinS_to _).2⟩
def dStep (b : List Int) (p id : Int) (xs : List Body) : Int × Int × List Body :=
  let q := p + cn b p id
  bif decide ((xs.length : Int) > 0) then
    bif decide (pk b q 3 > 0) then
      (q + 1 + 1 + 1 + 1 + 1, W (W (id + 1) + pk b (q + 1 + 1 + 1 + 1) 3), xs ++ [{ bd b p id with At := nearP b (q + 1 + 1) (Ty.ix .body xs (pk b (q + 1) xs.length).toNat).At }])
    else (q + 1 + 1, W (W (id + 1) + pk b (q + 1) 3), xs ++ [bd b p id])
  else (q + 1, W (W (id + 1) + pk b q 3), xs ++ [bd b p id])
def dGo (b : List Int) : Nat → Int → Int → List Body → Int × List Body
  | 0, p, _, xs => (p, xs)
  | k + 1, p, id, xs => dGo b k (dStep b p id xs).1 (dStep b p id xs).2.1 (dStep b p id xs).2.2
def dEnd (b : List Int) (s : Int × List Body) : Int × List Body :=
  bif pk b s.1 4 == 0 then (s.1 + 1 + 1, stepF s.2 (Ty.ix .int ([0, 32] : List Int) (pk b (s.1 + 1) 2).toNat)) else (s.1 + 1, s.2)
def dDraw (b : List Int) (p : Int) : Int × List Body :=
  dEnd b (dGo b (bif pk b (p + 1 + 1) 20 == 0 then 12 else (pk b (p + 1) 7).toNat) (p + 1 + 1 + 1) (pk b p 3) [])
theorem dStep_spec {b : List Int} {p id : Int} {xs : List Body} (i0 : 0 ≤ id) (i1 : id ≤ 40) (h : bodiesOk xs = true) (hi : idsLtB id xs) (hl : xs.length < 12) :
    p ≤ (dStep b p id xs).1 ∧ (dStep b p id xs).1 ≤ p + 20 ∧ id < (dStep b p id xs).2.1 ∧ (dStep b p id xs).2.1 ≤ id + 3 ∧ bodiesOk (dStep b p id xs).2.2 = true ∧ idsLtB (dStep b p id xs).2.1 (dStep b p id xs).2.2 ∧ (dStep b p id xs).2.2.length = xs.length + 1 := by
  have hc := cn_le b p id
  have hid : (bd b p id).Id = id := (g_l11Body b p id).1.2.1
  have hbd : bodyOk (bd b p id) = true := bodyD_ok i0 (by omega) (g_l11Body b p id).1.2
  have w1 : W (id + 1) = id + 1 := W_small (by omega) (by omega)
  have hpk : ∀ q, W (W (id + 1) + pk b q 3) = id + 1 + pk b q 3 := fun q => by
    have := pk_lt b q (n := 3) (by omega)
    rw [w1]
    exact W_small (by omega) (by omega)
  have fin : ∀ {x : Body} (q : Int), x.Id = id → bodyOk x = true → bodiesOk (xs ++ [x]) = true ∧ idsLtB (W (W (id + 1) + pk b q 3)) (xs ++ [x]) ∧ (xs ++ [x]).length = xs.length + 1 := fun {x} q h1 h2 => by
    have := pk_lt b q (n := 3) (by omega)
    refine ⟨ok_snoc h (by rw [h1]; exact hi) h2 hl, ?_, by simp⟩
    rw [hpk q]
    exact ids_snoc hi (by omega) (by omega)
  unfold dStep
  dsimp only
  cases decide ((xs.length : Int) > 0) with
  | false =>
    simp only [cond_false]
    have hk := pk_lt b (p + cn b p id) (n := 3) (by omega)
    have := fin (p + cn b p id) hid hbd
    exact ⟨by omega, by omega, by rw [hpk]; omega, by rw [hpk]; omega, this.1, this.2.1, this.2.2⟩
  | true =>
    simp only [cond_true]
    cases decide (pk b (p + cn b p id) 3 > 0) with
    | false =>
      simp only [cond_false]
      have hk := pk_lt b (p + cn b p id + 1) (n := 3) (by omega)
      have := fin (p + cn b p id + 1) hid hbd
      exact ⟨by omega, by omega, by rw [hpk]; omega, by rw [hpk]; omega, this.1, this.2.1, this.2.2⟩
    | true =>
      simp only [cond_true]
      have hk := pk_lt b (p + cn b p id + 1 + 1 + 1 + 1) (n := 3) (by omega)
      have := fin (x := { bd b p id with At := nearP b (p + cn b p id + 1 + 1) (Ty.ix .body xs (pk b (p + cn b p id + 1) xs.length).toNat).At }) (p + cn b p id + 1 + 1 + 1 + 1) hid (bok_at hbd (nearP_le _ _ _))
      exact ⟨by omega, by omega, by rw [hpk]; omega, by rw [hpk]; omega, this.1, this.2.1, this.2.2⟩
theorem dGo_next {b : List Int} {p id n n0 topP topI q id' : Int} {xs ys : List Body} {R : Int × List Body} (e : dStep b p id xs = (q, id', ys)) (h1 : 0 < n) (h2 : n ≤ n0) (h12 : n0 ≤ 12) (p0 : 0 ≤ p) (hp : p + 20 * n ≤ topP) (i0 : 0 ≤ id) (hi : id + 3 * n ≤ topI) (ti : topI ≤ 40)
    (ok : bodiesOk xs = true) (ids : idsLtB id xs) (hl : (xs.length : Int) + n = n0) (h7 : dGo b n.toNat p id xs = R) :
    (b = b ∧ 0 ≤ IntKind.i64.wrap (n - 1) ∧ IntKind.i64.wrap (n - 1) ≤ n0 ∧ 0 ≤ q ∧ q + 20 * IntKind.i64.wrap (n - 1) ≤ topP ∧ 0 ≤ id' ∧ id' + 3 * IntKind.i64.wrap (n - 1) ≤ topI ∧ bodiesOk ys = true ∧ idsLtB id' ys ∧ (ys.length : Int) + IntKind.i64.wrap (n - 1) = n0 ∧ dGo b (IntKind.i64.wrap (n - 1)).toNat q id' ys = R) ∧
    (IntKind.i64.wrap (n - 1)).toNat < n.toNat := by
  obtain ⟨s1, s2, s3, s4, s5, s6, s7⟩ := dStep_spec (b := b) (p := p) i0 (by omega) ok ids (by omega)
  rw [e] at s1 s2 s3 s4 s5 s6 s7
  dsimp only at s1 s2 s3 s4 s5 s6 s7
  have w : IntKind.i64.wrap (n - 1) = n - 1 := wrap_small (by omega) (by omega)
  rw [w]
  refine ⟨⟨rfl, by omega, by omega, by omega, by omega, by omega, by omega, s5, s6, by omega, ?_⟩, by omega⟩
  rw [← h7, show n.toNat = (n - 1).toNat + 1 by omega]
  simp only [dGo, e]
theorem dGo_spec {b : List Int} : ∀ {k : Nat} {p id : Int} {xs : List Body}, 0 ≤ id → id + 3 * k ≤ 40 → bodiesOk xs = true → idsLtB id xs → xs.length + k ≤ 12 → p ≤ (dGo b k p id xs).1 ∧ (dGo b k p id xs).1 ≤ p + 20 * k ∧ bodiesOk (dGo b k p id xs).2 = true
  | 0, p, id, xs, _, _, h, _, _ => ⟨by simp only [dGo]; omega, by simp only [dGo]; omega, h⟩
  | k + 1, p, id, xs, i0, i1, h, hi, hl => by
    obtain ⟨s1, s2, s3, s4, s5, s6, s7⟩ := dStep_spec (b := b) (p := p) i0 (by omega) h hi (by omega)
    obtain ⟨r1, r2, r3⟩ := dGo_spec (b := b) (k := k) (p := (dStep b p id xs).1) (id := (dStep b p id xs).2.1) (xs := (dStep b p id xs).2.2) (by omega) (by omega) s5 s6 (by omega)
    simp only [dGo]
    exact ⟨by omega, by omega, r3⟩
theorem ids_nil (m : Int) : idsLtB m [] := fun e h => by simp at h
def pullI (i : Nat) : Int := if i = 0 then 0 else if i = 1 then 32 else 0
theorem ixPull (i : Nat) : @Eq Int (Ty.ix .int ([0, 32] : List Int) i) (pullI i) := ix2 ..
theorem pullI_le (i : Nat) : 0 ≤ pullI i ∧ pullI i ≤ 2560 := by
  unfold pullI
  (repeat' split) <;> omega
theorem ix032 (i : Nat) : @LE.le Int _ 0 (Ty.ix .int ([0, 32] : List Int) i) ∧ @LE.le Int _ (Ty.ix .int ([0, 32] : List Int) i) 2560 := by
  rw [ixPull]
  exact pullI_le i
theorem dEnd_spec {b : List Int} {s : Int × List Body} (h : bodiesOk s.2 = true) : s.1 < (dEnd b s).1 ∧ (dEnd b s).1 ≤ s.1 + 2 ∧ bodiesOk (dEnd b s).2 = true := by
  unfold dEnd
  cases pk b s.1 4 == 0 with
  | false => exact ⟨by simp only [cond_false]; omega, by simp only [cond_false]; omega, h⟩
  | true => exact ⟨by simp only [cond_true]; omega, by simp only [cond_true]; omega, ok_stepF h (ix032 _).1 (ix032 _).2⟩
theorem bodiesOk_nil : bodiesOk [] = true := rfl
theorem dDraw_spec {b : List Int} {p : Int} : p ≤ (dDraw b p).1 ∧ (dDraw b p).1 ≤ p + 400 ∧ bodiesOk (dDraw b p).2 = true := by
  have k1 := pk_lt b (p + 1) (n := 7) (by omega)
  have k2 := pk_lt b p (n := 3) (by omega)
  have hk : (bif pk b (p + 1 + 1) 20 == 0 then 12 else (pk b (p + 1) 7).toNat) ≤ 12 := by
    cases pk b (p + 1 + 1) 20 == 0 <;> simp only [cond_true, cond_false] <;> omega
  unfold dDraw
  generalize (bif pk b (p + 1 + 1) 20 == 0 then 12 else (pk b (p + 1) 7).toNat) = k at *
  obtain ⟨r1, r2, r3⟩ := dGo_spec (b := b) (k := k) (p := p + 1 + 1 + 1) (id := pk b p 3) (xs := []) (by omega) (by omega) bodiesOk_nil (ids_nil _) (by simpa using hk)
  obtain ⟨e1, e2, e3⟩ := dEnd_spec (b := b) r3
  exact ⟨by omega, by omega, e3⟩
def LSdGo  : LS where
  S := List Int × Int × Unit × List Body × Int × Int
  live := [(0, [none]), (3, [some .body]), (4, [none]), (5, [none])]
  shape := fun s => ([.ptr 1 0 0, .vec 2, .int .i64 s.2.2.2.2.1, .int .i64 s.2.2.2.2.2], [(false, .vec .byte s.1), (true, .box [.vec 0, .int .i64 s.2.1]), (true, .vec .body s.2.2.2.1)])
  get := fun v h => match v, h with
    | [.ptr 1 0 0, .vec 2, .int .i64 id, .int .i64 n], [(false, .vec .byte b), (true, .box [.vec 0, .int .i64 p]), (true, .vec .body xs)] => some (b, p, (), xs, id, n)
    | _, _ => none
  inv := fun s0 s => Holds (s.1 = s0.1 ∧ 0 ≤ s.2.2.2.2.2 ∧ s.2.2.2.2.2 ≤ s0.2.2.2.2.2 ∧ 0 ≤ s.2.1 ∧ s.2.1 + 20 * s.2.2.2.2.2 ≤ s0.2.1 + 20 * s0.2.2.2.2.2 ∧ 0 ≤ s.2.2.2.2.1 ∧ s.2.2.2.2.1 + 3 * s.2.2.2.2.2 ≤ s0.2.2.2.2.1 + 3 * s0.2.2.2.2.2 ∧ bodiesOk s.2.2.2.1 = true ∧ idsLtB s.2.2.2.2.1 s.2.2.2.1 ∧ s.2.2.2.1.length + s.2.2.2.2.2 = s0.2.2.2.2.2 ∧ dGo s.1 s.2.2.2.2.2.toNat s.2.1 s.2.2.2.2.1 s.2.2.2.1 = dGo s0.1 s0.2.2.2.2.2.toNat s0.2.1 s0.2.2.2.2.1 s0.2.2.2.1)
  mu := fun s => s.2.2.2.2.2.toNat
  ok := by
    intro v h s hg
    try dsimp only at hg
    split at hg <;> cases hg
    rfl

def L_l11Bodies : Loops := fun n => match n with
  | 6 => some LSdGo
  | _ => none
noncomputable def fs_l11Bodies : Fs := ⟨[], fun args H => match args, H with
  | [.ptr 1 0 0], [(false, .vec .byte b), (true, .box [.vec 0, .int .i64 p])] => some ((some (0 ≤ p ∧ p + 400 ≤ 1000000000000 ∧ BytesOk b)), .vec 2, [(false, .vec .byte b), (true, .box [.vec 0, .int .i64 (dDraw b p).1]), (true, .vec .body (dDraw b p).2)])
  | _, _ => none⟩

theorem vc_l11Bodies (b : List Int) (p : Int) (Q : SV → List Ent → Prop) :
    fnVC tt (look [(69, fs_rdPick), (51, fs_rdOne), (124, fs_l11Body), (127, fs_specWithin), (63, fs_l9Step)]) (L_l11Bodies) Tryz.f88 [.ptr 1 0 0] [(false, .vec .byte b), (true, .box [.vec 0, .int .i64 p])] Q =
    (let w_ := IntKind.wrap IntKind.i64; let s_ := SV.int IntKind.i64; let n_ := Int.toNat; let ii_ := Ty.ix Ty.int; let A36_ := (p + (1 : Int) + (1 : Int) + (1 : Int)); let A35_ := (g_rdPick b p (3 : Int) % (3 : Int)); let A34_ := (g_rdPick b (p + (1 : Int)) (7 : Int) % (7 : Int)); ((0 : Int) ≤ p ∧ p + (1 : Int) ≤ (1000000000000 : Int) ∧ BytesOk b ∧ (1 : Int) ≤ (3 : Int)) ∧ ((0 : Int) ≤ p + (1 : Int) ∧ p + (1 : Int) + (1 : Int) ≤ (1000000000000 : Int) ∧ BytesOk b ∧ (1 : Int) ≤ (7 : Int)) ∧ ((0 : Int) ≤ p + (1 : Int) + (1 : Int) ∧ p + (1 : Int) + (1 : Int) + (1 : Int) ≤ (1000000000000 : Int) ∧ BytesOk b ∧ (1 : Int) ≤ (20 : Int)) ∧ ifB (g_rdPick b (p + (1 : Int) + (1 : Int)) (20 : Int) % (20 : Int) == (0 : Int)) (Holds (b = b ∧ (0 : Int) ≤ (12 : Int) ∧ (12 : Int) ≤ (12 : Int) ∧ (0 : Int) ≤ p + (1 : Int) + (1 : Int) + (1 : Int) ∧ p + (1 : Int) + (1 : Int) + (1 : Int) + (20 : Int) * (12 : Int) ≤ p + (1 : Int) + (1 : Int) + (1 : Int) + (20 : Int) * (12 : Int) ∧ (0 : Int) ≤ g_rdPick b p (3 : Int) % (3 : Int) ∧ g_rdPick b p (3 : Int) % (3 : Int) + (3 : Int) * (12 : Int) ≤ g_rdPick b p (3 : Int) % (3 : Int) + (3 : Int) * (12 : Int) ∧ bodiesOk [] = true ∧ idsLtB A35_ [] ∧ (0 : Int) + (12 : Int) = (12 : Int) ∧ dGo b (n_ (12 : Int)) A36_ A35_ [] = dGo b (n_ (12 : Int)) A36_ A35_ []) ∧ ∀ (y18 : List Int × Int × Unit × List Body × Int × Int), let y18f0_ := Prod.fst y18; let y18s1_ := Prod.snd y18; let y18f1_ := Prod.fst (Prod.snd y18); let y18s3_ := Prod.snd (Prod.snd (Prod.snd y18)); let y18f3_ := Prod.fst (Prod.snd (Prod.snd (Prod.snd y18))); let y18s4_ := Prod.snd (Prod.snd (Prod.snd (Prod.snd y18))); let y18f4_ := Prod.fst (Prod.snd (Prod.snd (Prod.snd (Prod.snd y18)))); let y18s5_ := Prod.snd (Prod.snd (Prod.snd (Prod.snd (Prod.snd y18)))); let A33_ := A35_; let A32_ := A36_; let A28_ := (↑(List.length y18f3_) : Int); let A25_ := (n_ (g_rdPick y18f0_ (Prod.fst y18s1_ + (1 : Int)) (↑(List.length [(0 : Int), (32 : Int)]) : Int) % (↑(List.length [(0 : Int), (32 : Int)]) : Int))); let A23_ := (Prod.snd y18s4_ - (1 : Int)); let A31_ := (w_ A23_); let A21_ := (Prod.fst (g_l11Body y18f0_ y18f1_ y18f4_)); let A29_ := (Prod.fst y18s3_ ++ [Subtype.val A21_]); let A20_ := (↑(Prod.snd (g_l11Body y18f0_ y18f1_ y18f4_) % (16 : Nat)) : Int); let A30_ := (Prod.fst y18s1_ + A20_ + (1 : Int)); let A27_ := (w_ (Prod.fst y18s4_ + (1 : Int)) + g_rdPick y18f0_ (Prod.fst y18s1_ + A20_) (3 : Int) % (3 : Int)); let A26_ := (w_ (Prod.fst y18s4_ + (1 : Int)) + g_rdPick y18f0_ A30_ (3 : Int) % (3 : Int)); let A24_ := (w_ (Prod.fst y18s4_ + (1 : Int)) + g_rdPick y18f0_ (Prod.fst y18s1_ + A20_ + (1 : Int) + (1 : Int) + (1 : Int) + (1 : Int)) (3 : Int) % (3 : Int)); let A22_ := (Vec.mk (withinS (w_ (w_ (Vec.X (Body.At (Ty.ix Ty.body y18f3_ (n_ (g_rdPick y18f0_ A30_ A28_ % A28_)))) + w_ (g_rdPick y18f0_ (Prod.fst y18s1_ + A20_ + (1 : Int) + (1 : Int)) (256 : Int) % (256 : Int) * (4 : Int))) - (512 : Int))) (2560000 : Int)) (withinS (w_ (w_ (Vec.Y (Body.At (Ty.ix Ty.body y18f3_ (n_ (g_rdPick y18f0_ A30_ A28_ % A28_)))) + w_ (g_rdPick y18f0_ (Prod.fst y18s1_ + A20_ + (1 : Int) + (1 : Int) + (1 : Int)) (256 : Int) % (256 : Int) * (4 : Int))) - (512 : Int))) (2560000 : Int))); let A19_ := (Prod.fst y18s3_ ++ [Body.mk (Body.Id (Subtype.val A21_)) (Body.Shape (Subtype.val A21_)) A22_ (Body.Drive (Subtype.val A21_)) (Body.Mass (Subtype.val A21_)) (Body.Bounce (Subtype.val A21_)) (Body.Rub (Subtype.val A21_)) (Body.Quiet (Subtype.val A21_))]); Holds (Prod.fst y18 = b ∧ (0 : Int) ≤ y18s5_ ∧ y18s5_ ≤ (12 : Int) ∧ (0 : Int) ≤ y18f1_ ∧ y18f1_ + (20 : Int) * y18s5_ ≤ p + (1 : Int) + (1 : Int) + (1 : Int) + (20 : Int) * (12 : Int) ∧ (0 : Int) ≤ y18f4_ ∧ y18f4_ + (3 : Int) * y18s5_ ≤ g_rdPick b p (3 : Int) % (3 : Int) + (3 : Int) * (12 : Int) ∧ bodiesOk y18f3_ = true ∧ idsLtB y18f4_ y18f3_ ∧ A28_ + y18s5_ = (12 : Int) ∧ dGo y18f0_ (n_ y18s5_) y18f1_ y18f4_ y18f3_ = dGo b (n_ (12 : Int)) A32_ A33_ []) → ifB (decide (Prod.snd y18s4_ > (0 : Int))) (((0 : Int) ≤ y18f1_ ∧ y18f1_ + (15 : Int) ≤ (1000000000000 : Int) ∧ BytesOk y18f0_) ∧ ifB (decide (A28_ > (0 : Int))) (((0 : Int) ≤ y18f1_ + A20_ ∧ y18f1_ + A20_ + (1 : Int) ≤ (1000000000000 : Int) ∧ BytesOk y18f0_ ∧ (1 : Int) ≤ (3 : Int)) ∧ ifB (decide (g_rdPick y18f0_ (Prod.fst y18s1_ + A20_) (3 : Int) % (3 : Int) > (0 : Int))) (((0 : Int) ≤ y18f1_ + A20_ + (1 : Int) ∧ y18f1_ + A20_ + (1 : Int) + (1 : Int) ≤ (1000000000000 : Int) ∧ BytesOk y18f0_ ∧ (1 : Int) ≤ A28_) ∧ ((0 : Int) ≤ g_rdPick y18f0_ A30_ A28_ % A28_ ∧ g_rdPick y18f0_ A30_ A28_ % A28_ < A28_) ∧ ((0 : Int) ≤ y18f1_ + A20_ + (1 : Int) + (1 : Int) ∧ y18f1_ + A20_ + (1 : Int) + (1 : Int) + (1 : Int) ≤ (1000000000000 : Int) ∧ BytesOk y18f0_ ∧ (1 : Int) ≤ (256 : Int)) ∧ ((0 : Int) ≤ y18f1_ + A20_ + (1 : Int) + (1 : Int) + (1 : Int) ∧ y18f1_ + A20_ + (1 : Int) + (1 : Int) + (1 : Int) + (1 : Int) ≤ (1000000000000 : Int) ∧ BytesOk y18f0_ ∧ (1 : Int) ≤ (256 : Int)) ∧ (List.length y18f3_ + List.length [Body.mk (Body.Id (Subtype.val A21_)) (Body.Shape (Subtype.val A21_)) A22_ (Body.Drive (Subtype.val A21_)) (Body.Mass (Subtype.val A21_)) (Body.Bounce (Subtype.val A21_)) (Body.Rub (Subtype.val A21_)) (Body.Quiet (Subtype.val A21_))]) * (96 : Nat) ≤ room ∧ ((0 : Int) ≤ y18f1_ + A20_ + (1 : Int) + (1 : Int) + (1 : Int) + (1 : Int) ∧ y18f1_ + A20_ + (1 : Int) + (1 : Int) + (1 : Int) + (1 : Int) + (1 : Int) ≤ (1000000000000 : Int) ∧ BytesOk y18f0_ ∧ (1 : Int) ≤ (3 : Int)) ∧ Holds (Prod.fst y18 = b ∧ (0 : Int) ≤ w_ A23_ ∧ w_ A23_ ≤ (12 : Int) ∧ (0 : Int) ≤ y18f1_ + A20_ + (1 : Int) + (1 : Int) + (1 : Int) + (1 : Int) + (1 : Int) ∧ y18f1_ + A20_ + (1 : Int) + (1 : Int) + (1 : Int) + (1 : Int) + (1 : Int) + (20 : Int) * w_ A23_ ≤ p + (1 : Int) + (1 : Int) + (1 : Int) + (20 : Int) * (12 : Int) ∧ (0 : Int) ≤ w_ A24_ ∧ w_ A24_ + (3 : Int) * w_ A23_ ≤ g_rdPick b p (3 : Int) % (3 : Int) + (3 : Int) * (12 : Int) ∧ bodiesOk A19_ = true ∧ idsLtB (w_ A24_) A19_ ∧ (↑(List.length A19_) : Int) + w_ A23_ = (12 : Int) ∧ dGo y18f0_ (n_ A31_) (Prod.fst y18s1_ + A20_ + (1 : Int) + (1 : Int) + (1 : Int) + (1 : Int) + (1 : Int)) (w_ A24_) A19_ = dGo b (n_ (12 : Int)) A32_ A33_ []) ∧ n_ A31_ < n_ y18s5_) ((List.length y18f3_ + List.length [Subtype.val A21_]) * (96 : Nat) ≤ room ∧ ((0 : Int) ≤ y18f1_ + A20_ + (1 : Int) ∧ y18f1_ + A20_ + (1 : Int) + (1 : Int) ≤ (1000000000000 : Int) ∧ BytesOk y18f0_ ∧ (1 : Int) ≤ (3 : Int)) ∧ Holds (Prod.fst y18 = b ∧ (0 : Int) ≤ w_ A23_ ∧ w_ A23_ ≤ (12 : Int) ∧ (0 : Int) ≤ y18f1_ + A20_ + (1 : Int) + (1 : Int) ∧ y18f1_ + A20_ + (1 : Int) + (1 : Int) + (20 : Int) * w_ A23_ ≤ p + (1 : Int) + (1 : Int) + (1 : Int) + (20 : Int) * (12 : Int) ∧ (0 : Int) ≤ w_ A26_ ∧ w_ A26_ + (3 : Int) * w_ A23_ ≤ g_rdPick b p (3 : Int) % (3 : Int) + (3 : Int) * (12 : Int) ∧ bodiesOk A29_ = true ∧ idsLtB (w_ A26_) A29_ ∧ (↑(List.length A29_) : Int) + w_ A23_ = (12 : Int) ∧ dGo y18f0_ (n_ A31_) (Prod.fst y18s1_ + A20_ + (1 : Int) + (1 : Int)) (w_ A26_) A29_ = dGo b (n_ (12 : Int)) A32_ A33_ []) ∧ n_ A31_ < n_ y18s5_)) ((List.length y18f3_ + List.length [Subtype.val A21_]) * (96 : Nat) ≤ room ∧ ((0 : Int) ≤ y18f1_ + A20_ ∧ y18f1_ + A20_ + (1 : Int) ≤ (1000000000000 : Int) ∧ BytesOk y18f0_ ∧ (1 : Int) ≤ (3 : Int)) ∧ Holds (Prod.fst y18 = b ∧ (0 : Int) ≤ w_ A23_ ∧ w_ A23_ ≤ (12 : Int) ∧ (0 : Int) ≤ y18f1_ + A20_ + (1 : Int) ∧ y18f1_ + A20_ + (1 : Int) + (20 : Int) * w_ A23_ ≤ p + (1 : Int) + (1 : Int) + (1 : Int) + (20 : Int) * (12 : Int) ∧ (0 : Int) ≤ w_ A27_ ∧ w_ A27_ + (3 : Int) * w_ A23_ ≤ g_rdPick b p (3 : Int) % (3 : Int) + (3 : Int) * (12 : Int) ∧ bodiesOk A29_ = true ∧ idsLtB (w_ A27_) A29_ ∧ (↑(List.length A29_) : Int) + w_ A23_ = (12 : Int) ∧ dGo y18f0_ (n_ A31_) A30_ (w_ A27_) A29_ = dGo b (n_ (12 : Int)) A32_ A33_ []) ∧ n_ A31_ < n_ y18s5_)) (((0 : Int) ≤ y18f1_ ∧ y18f1_ + (1 : Int) ≤ (1000000000000 : Int) ∧ BytesOk y18f0_ ∧ (1 : Int) ≤ (4 : Int)) ∧ ifB (g_rdPick y18f0_ y18f1_ (4 : Int) % (4 : Int) == (0 : Int)) (((0 : Int) ≤ y18f1_ + (1 : Int) ∧ y18f1_ + (1 : Int) + (1 : Int) ≤ (1000000000000 : Int) ∧ BytesOk y18f0_ ∧ (1 : Nat) ≤ List.length [(0 : Int), (32 : Int)]) ∧ (bodiesOk y18f3_ = true ∧ (0 : Int) ≤ ii_ [(0 : Int), (32 : Int)] A25_ ∧ ii_ [(0 : Int), (32 : Int)] A25_ ≤ (2560 : Int)) ∧ ((0 : Nat) + List.length (stepF y18f3_ (ii_ [(0 : Int), (32 : Int)] A25_))) * (96 : Nat) ≤ room ∧ Q (SV.vec (2 : Nat)) [(false, Blk.vec Ty.byte y18f0_), (true, Blk.box [SV.vec (0 : Nat), s_ (Prod.fst y18s1_ + (1 : Int) + (1 : Int))]), (true, Blk.vec Ty.body ([] ++ stepF y18f3_ (ii_ [(0 : Int), (32 : Int)] A25_)))]) (Q (SV.vec (2 : Nat)) [(false, Blk.vec Ty.byte y18f0_), (true, Blk.box [SV.vec (0 : Nat), s_ (Prod.fst y18s1_ + (1 : Int))]), (true, Blk.vec Ty.body y18f3_)]))) (Holds (b = b ∧ (0 : Int) ≤ g_rdPick b (p + (1 : Int)) (7 : Int) % (7 : Int) ∧ g_rdPick b (p + (1 : Int)) (7 : Int) % (7 : Int) ≤ g_rdPick b (p + (1 : Int)) (7 : Int) % (7 : Int) ∧ (0 : Int) ≤ p + (1 : Int) + (1 : Int) + (1 : Int) ∧ p + (1 : Int) + (1 : Int) + (1 : Int) + (20 : Int) * A34_ ≤ p + (1 : Int) + (1 : Int) + (1 : Int) + (20 : Int) * A34_ ∧ (0 : Int) ≤ g_rdPick b p (3 : Int) % (3 : Int) ∧ g_rdPick b p (3 : Int) % (3 : Int) + (3 : Int) * A34_ ≤ g_rdPick b p (3 : Int) % (3 : Int) + (3 : Int) * A34_ ∧ bodiesOk [] = true ∧ idsLtB A35_ [] ∧ (0 : Int) + g_rdPick b (p + (1 : Int)) (7 : Int) % (7 : Int) = g_rdPick b (p + (1 : Int)) (7 : Int) % (7 : Int) ∧ dGo b (n_ A34_) A36_ A35_ [] = dGo b (n_ A34_) A36_ A35_ []) ∧ ∀ (y1 : List Int × Int × Unit × List Body × Int × Int), let y1f0_ := Prod.fst y1; let y1s1_ := Prod.snd y1; let y1f1_ := Prod.fst (Prod.snd y1); let y1s3_ := Prod.snd (Prod.snd (Prod.snd y1)); let y1f3_ := Prod.fst (Prod.snd (Prod.snd (Prod.snd y1))); let y1s4_ := Prod.snd (Prod.snd (Prod.snd (Prod.snd y1))); let y1f4_ := Prod.fst (Prod.snd (Prod.snd (Prod.snd (Prod.snd y1)))); let y1s5_ := Prod.snd (Prod.snd (Prod.snd (Prod.snd (Prod.snd y1)))); let A17_ := A35_; let A16_ := A36_; let A12_ := (↑(List.length y1f3_) : Int); let A9_ := (n_ (g_rdPick y1f0_ (Prod.fst y1s1_ + (1 : Int)) (↑(List.length [(0 : Int), (32 : Int)]) : Int) % (↑(List.length [(0 : Int), (32 : Int)]) : Int))); let A8_ := (Prod.snd y1s4_ - (1 : Int)); let A15_ := (w_ A8_); let A6_ := A34_; let A4_ := (Prod.fst (g_l11Body y1f0_ y1f1_ y1f4_)); let A13_ := (Prod.fst y1s3_ ++ [Subtype.val A4_]); let A3_ := (↑(Prod.snd (g_l11Body y1f0_ y1f1_ y1f4_) % (16 : Nat)) : Int); let A14_ := (Prod.fst y1s1_ + A3_ + (1 : Int)); let A11_ := (w_ (Prod.fst y1s4_ + (1 : Int)) + g_rdPick y1f0_ (Prod.fst y1s1_ + A3_) (3 : Int) % (3 : Int)); let A10_ := (w_ (Prod.fst y1s4_ + (1 : Int)) + g_rdPick y1f0_ A14_ (3 : Int) % (3 : Int)); let A7_ := (w_ (Prod.fst y1s4_ + (1 : Int)) + g_rdPick y1f0_ (Prod.fst y1s1_ + A3_ + (1 : Int) + (1 : Int) + (1 : Int) + (1 : Int)) (3 : Int) % (3 : Int)); let A5_ := (Vec.mk (withinS (w_ (w_ (Vec.X (Body.At (Ty.ix Ty.body y1f3_ (n_ (g_rdPick y1f0_ A14_ A12_ % A12_)))) + w_ (g_rdPick y1f0_ (Prod.fst y1s1_ + A3_ + (1 : Int) + (1 : Int)) (256 : Int) % (256 : Int) * (4 : Int))) - (512 : Int))) (2560000 : Int)) (withinS (w_ (w_ (Vec.Y (Body.At (Ty.ix Ty.body y1f3_ (n_ (g_rdPick y1f0_ A14_ A12_ % A12_)))) + w_ (g_rdPick y1f0_ (Prod.fst y1s1_ + A3_ + (1 : Int) + (1 : Int) + (1 : Int)) (256 : Int) % (256 : Int) * (4 : Int))) - (512 : Int))) (2560000 : Int))); let A2_ := (Prod.fst y1s3_ ++ [Body.mk (Body.Id (Subtype.val A4_)) (Body.Shape (Subtype.val A4_)) A5_ (Body.Drive (Subtype.val A4_)) (Body.Mass (Subtype.val A4_)) (Body.Bounce (Subtype.val A4_)) (Body.Rub (Subtype.val A4_)) (Body.Quiet (Subtype.val A4_))]); Holds (Prod.fst y1 = b ∧ (0 : Int) ≤ y1s5_ ∧ y1s5_ ≤ g_rdPick b (p + (1 : Int)) (7 : Int) % (7 : Int) ∧ (0 : Int) ≤ y1f1_ ∧ y1f1_ + (20 : Int) * y1s5_ ≤ p + (1 : Int) + (1 : Int) + (1 : Int) + (20 : Int) * A6_ ∧ (0 : Int) ≤ y1f4_ ∧ y1f4_ + (3 : Int) * y1s5_ ≤ g_rdPick b p (3 : Int) % (3 : Int) + (3 : Int) * A6_ ∧ bodiesOk y1f3_ = true ∧ idsLtB y1f4_ y1f3_ ∧ A12_ + y1s5_ = g_rdPick b (p + (1 : Int)) (7 : Int) % (7 : Int) ∧ dGo y1f0_ (n_ y1s5_) y1f1_ y1f4_ y1f3_ = dGo b (n_ A6_) A16_ A17_ []) → ifB (decide (Prod.snd y1s4_ > (0 : Int))) (((0 : Int) ≤ y1f1_ ∧ y1f1_ + (15 : Int) ≤ (1000000000000 : Int) ∧ BytesOk y1f0_) ∧ ifB (decide (A12_ > (0 : Int))) (((0 : Int) ≤ y1f1_ + A3_ ∧ y1f1_ + A3_ + (1 : Int) ≤ (1000000000000 : Int) ∧ BytesOk y1f0_ ∧ (1 : Int) ≤ (3 : Int)) ∧ ifB (decide (g_rdPick y1f0_ (Prod.fst y1s1_ + A3_) (3 : Int) % (3 : Int) > (0 : Int))) (((0 : Int) ≤ y1f1_ + A3_ + (1 : Int) ∧ y1f1_ + A3_ + (1 : Int) + (1 : Int) ≤ (1000000000000 : Int) ∧ BytesOk y1f0_ ∧ (1 : Int) ≤ A12_) ∧ ((0 : Int) ≤ g_rdPick y1f0_ A14_ A12_ % A12_ ∧ g_rdPick y1f0_ A14_ A12_ % A12_ < A12_) ∧ ((0 : Int) ≤ y1f1_ + A3_ + (1 : Int) + (1 : Int) ∧ y1f1_ + A3_ + (1 : Int) + (1 : Int) + (1 : Int) ≤ (1000000000000 : Int) ∧ BytesOk y1f0_ ∧ (1 : Int) ≤ (256 : Int)) ∧ ((0 : Int) ≤ y1f1_ + A3_ + (1 : Int) + (1 : Int) + (1 : Int) ∧ y1f1_ + A3_ + (1 : Int) + (1 : Int) + (1 : Int) + (1 : Int) ≤ (1000000000000 : Int) ∧ BytesOk y1f0_ ∧ (1 : Int) ≤ (256 : Int)) ∧ (List.length y1f3_ + List.length [Body.mk (Body.Id (Subtype.val A4_)) (Body.Shape (Subtype.val A4_)) A5_ (Body.Drive (Subtype.val A4_)) (Body.Mass (Subtype.val A4_)) (Body.Bounce (Subtype.val A4_)) (Body.Rub (Subtype.val A4_)) (Body.Quiet (Subtype.val A4_))]) * (96 : Nat) ≤ room ∧ ((0 : Int) ≤ y1f1_ + A3_ + (1 : Int) + (1 : Int) + (1 : Int) + (1 : Int) ∧ y1f1_ + A3_ + (1 : Int) + (1 : Int) + (1 : Int) + (1 : Int) + (1 : Int) ≤ (1000000000000 : Int) ∧ BytesOk y1f0_ ∧ (1 : Int) ≤ (3 : Int)) ∧ Holds (Prod.fst y1 = b ∧ (0 : Int) ≤ w_ A8_ ∧ w_ A8_ ≤ g_rdPick b (p + (1 : Int)) (7 : Int) % (7 : Int) ∧ (0 : Int) ≤ y1f1_ + A3_ + (1 : Int) + (1 : Int) + (1 : Int) + (1 : Int) + (1 : Int) ∧ y1f1_ + A3_ + (1 : Int) + (1 : Int) + (1 : Int) + (1 : Int) + (1 : Int) + (20 : Int) * w_ A8_ ≤ p + (1 : Int) + (1 : Int) + (1 : Int) + (20 : Int) * A6_ ∧ (0 : Int) ≤ w_ A7_ ∧ w_ A7_ + (3 : Int) * w_ A8_ ≤ g_rdPick b p (3 : Int) % (3 : Int) + (3 : Int) * A6_ ∧ bodiesOk A2_ = true ∧ idsLtB (w_ A7_) A2_ ∧ (↑(List.length A2_) : Int) + w_ A8_ = g_rdPick b (p + (1 : Int)) (7 : Int) % (7 : Int) ∧ dGo y1f0_ (n_ A15_) (Prod.fst y1s1_ + A3_ + (1 : Int) + (1 : Int) + (1 : Int) + (1 : Int) + (1 : Int)) (w_ A7_) A2_ = dGo b (n_ A6_) A16_ A17_ []) ∧ n_ A15_ < n_ y1s5_) ((List.length y1f3_ + List.length [Subtype.val A4_]) * (96 : Nat) ≤ room ∧ ((0 : Int) ≤ y1f1_ + A3_ + (1 : Int) ∧ y1f1_ + A3_ + (1 : Int) + (1 : Int) ≤ (1000000000000 : Int) ∧ BytesOk y1f0_ ∧ (1 : Int) ≤ (3 : Int)) ∧ Holds (Prod.fst y1 = b ∧ (0 : Int) ≤ w_ A8_ ∧ w_ A8_ ≤ g_rdPick b (p + (1 : Int)) (7 : Int) % (7 : Int) ∧ (0 : Int) ≤ y1f1_ + A3_ + (1 : Int) + (1 : Int) ∧ y1f1_ + A3_ + (1 : Int) + (1 : Int) + (20 : Int) * w_ A8_ ≤ p + (1 : Int) + (1 : Int) + (1 : Int) + (20 : Int) * A6_ ∧ (0 : Int) ≤ w_ A10_ ∧ w_ A10_ + (3 : Int) * w_ A8_ ≤ g_rdPick b p (3 : Int) % (3 : Int) + (3 : Int) * A6_ ∧ bodiesOk A13_ = true ∧ idsLtB (w_ A10_) A13_ ∧ (↑(List.length A13_) : Int) + w_ A8_ = g_rdPick b (p + (1 : Int)) (7 : Int) % (7 : Int) ∧ dGo y1f0_ (n_ A15_) (Prod.fst y1s1_ + A3_ + (1 : Int) + (1 : Int)) (w_ A10_) A13_ = dGo b (n_ A6_) A16_ A17_ []) ∧ n_ A15_ < n_ y1s5_)) ((List.length y1f3_ + List.length [Subtype.val A4_]) * (96 : Nat) ≤ room ∧ ((0 : Int) ≤ y1f1_ + A3_ ∧ y1f1_ + A3_ + (1 : Int) ≤ (1000000000000 : Int) ∧ BytesOk y1f0_ ∧ (1 : Int) ≤ (3 : Int)) ∧ Holds (Prod.fst y1 = b ∧ (0 : Int) ≤ w_ A8_ ∧ w_ A8_ ≤ g_rdPick b (p + (1 : Int)) (7 : Int) % (7 : Int) ∧ (0 : Int) ≤ y1f1_ + A3_ + (1 : Int) ∧ y1f1_ + A3_ + (1 : Int) + (20 : Int) * w_ A8_ ≤ p + (1 : Int) + (1 : Int) + (1 : Int) + (20 : Int) * A6_ ∧ (0 : Int) ≤ w_ A11_ ∧ w_ A11_ + (3 : Int) * w_ A8_ ≤ g_rdPick b p (3 : Int) % (3 : Int) + (3 : Int) * A6_ ∧ bodiesOk A13_ = true ∧ idsLtB (w_ A11_) A13_ ∧ (↑(List.length A13_) : Int) + w_ A8_ = g_rdPick b (p + (1 : Int)) (7 : Int) % (7 : Int) ∧ dGo y1f0_ (n_ A15_) A14_ (w_ A11_) A13_ = dGo b (n_ A6_) A16_ A17_ []) ∧ n_ A15_ < n_ y1s5_)) (((0 : Int) ≤ y1f1_ ∧ y1f1_ + (1 : Int) ≤ (1000000000000 : Int) ∧ BytesOk y1f0_ ∧ (1 : Int) ≤ (4 : Int)) ∧ ifB (g_rdPick y1f0_ y1f1_ (4 : Int) % (4 : Int) == (0 : Int)) (((0 : Int) ≤ y1f1_ + (1 : Int) ∧ y1f1_ + (1 : Int) + (1 : Int) ≤ (1000000000000 : Int) ∧ BytesOk y1f0_ ∧ (1 : Nat) ≤ List.length [(0 : Int), (32 : Int)]) ∧ (bodiesOk y1f3_ = true ∧ (0 : Int) ≤ ii_ [(0 : Int), (32 : Int)] A9_ ∧ ii_ [(0 : Int), (32 : Int)] A9_ ≤ (2560 : Int)) ∧ ((0 : Nat) + List.length (stepF y1f3_ (ii_ [(0 : Int), (32 : Int)] A9_))) * (96 : Nat) ≤ room ∧ Q (SV.vec (2 : Nat)) [(false, Blk.vec Ty.byte y1f0_), (true, Blk.box [SV.vec (0 : Nat), s_ (Prod.fst y1s1_ + (1 : Int) + (1 : Int))]), (true, Blk.vec Ty.body ([] ++ stepF y1f3_ (ii_ [(0 : Int), (32 : Int)] A9_)))]) (Q (SV.vec (2 : Nat)) [(false, Blk.vec Ty.byte y1f0_), (true, Blk.box [SV.vec (0 : Nat), s_ (Prod.fst y1s1_ + (1 : Int))]), (true, Blk.vec Ty.body y1f3_)])))) := by kernel_rfl

theorem ok_l11Bodies : FsOk Tryz.prog 88 fs_l11Bodies := fsOk_of tt_ok (tabFs_cons ok_rdPick (tabFs_cons ok_rdOne (tabFs_cons ok_l11Body (tabFs_cons ok_specWithin (tabFs_cons ok_l9Step tabFs_nil))))) mixed Tryz.func88 (by kernel_rfl) (by kernel_rfl) (by
    intro args LL p r HH h hp
    unfold fs_l11Bodies at h
    dsimp only at h
    split at h
    case h_2 => cases h
    rename_i b p
    simp only [Option.some.injEq, Prod.mk.injEq] at h
    obtain ⟨rfl, rfl, rfl⟩ := h
    refine ⟨by simp [Form, stays], (L_l11Bodies), ?_⟩
    rw [vc_l11Bodies]
    try dsimp only
    obtain ⟨hp0, hp1, hby⟩ := hp _ rfl
    have k1 := pk_lt b (p + 1) (n := 7) (by omega)
    have k2 := pk_lt b p (n := 3) (by omega)
    simp only [pk] at k1 k2
    refine ⟨⟨hp0, by omega, hby, by omega⟩, ⟨by omega, by omega, hby, by omega⟩, ⟨by omega, by omega, hby, by omega⟩, ifB_of (fun c => ⟨⟨(by trivial), by omega, by omega, by omega, by omega, k2.1, by omega, (by trivial), ids_nil _, by omega, (by trivial)⟩, ?_⟩) (fun c => ⟨⟨(by trivial), k1.1, by omega, by omega, by omega, k2.1, by omega, (by trivial), ids_nil _, by omega, (by trivial)⟩, ?_⟩)⟩
    case' refine_1 =>
      have hd : dDraw b p = dEnd b (dGo b (12 : Int).toNat (p + 1 + 1 + 1) (g_rdPick b p 3 % 3) []) := by
        unfold dDraw
        rw [show (pk b (p + 1 + 1) 20 == 0) = true from c]
        rfl
      obtain ⟨n0, e0, n12⟩ : ∃ n0 : Int, n0 = 12 ∧ n0 ≤ 12 := ⟨12, rfl, by omega⟩
      rw [hd, ← e0]
      clear e0
    case' refine_2 =>
      have hd : dDraw b p = dEnd b (dGo b (g_rdPick b (p + 1) 7 % 7).toNat (p + 1 + 1 + 1) (g_rdPick b p 3 % 3) []) := by
        unfold dDraw
        rw [show (pk b (p + 1 + 1) 20 == 0) = false from c]
        rfl
      have n12 : g_rdPick b (p + 1) 7 % 7 ≤ 12 := by omega
      rw [hd]
      generalize g_rdPick b (p + 1) 7 % 7 = n0 at *
    all_goals
      clear hd c
      generalize g_rdPick b p 3 % 3 = id0 at *
      rintro ⟨b', p', u, xs, id, n⟩ ⟨h⟩
      dsimp only at h ⊢
      obtain ⟨rfl, i1, i2, i3, i4, i5, i6, i7, i8, i9, i10⟩ := h
      refine ifB_of (fun c => ?_) (fun c => ?_)
      · have c := of_decide_eq_true c
        refine ⟨⟨i3, by omega, hby⟩, ifB_of (fun c1 => ⟨⟨by omega, by omega, hby, by omega⟩, ifB_of (fun c2 => ?_) (fun c2 => ?_)⟩) (fun c1 => ?_)⟩
        · have hl : 0 < (xs.length : Int) := of_decide_eq_true c1
          have hx := pk_lt b' (p' + cn b' p' id + 1) (n := xs.length) (by omega)
          have e := dGo_next (b := b') (p := p') (id := id) (topP := p + 1 + 1 + 1 + 20 * n0) (topI := id0 + 3 * n0) (show dStep b' p' id xs = (p' + cn b' p' id + 1 + 1 + 1 + 1 + 1, W (W (id + 1) + pk b' (p' + cn b' p' id + 1 + 1 + 1 + 1) 3), xs ++ [{ bd b' p' id with At := nearP b' (p' + cn b' p' id + 1 + 1) (Ty.ix .body xs (pk b' (p' + cn b' p' id + 1) xs.length).toNat).At }]) by unfold dStep; dsimp only; rw [c1, show decide (pk b' (p' + cn b' p' id) 3 > 0) = true from c2]; rfl) c i2 n12 i3 i4 i5 i6 (by omega) i7 i8 i9 i10
          exact ⟨⟨by omega, by omega, hby, by omega⟩, hx, ⟨by omega, by omega, hby, by omega⟩, ⟨by omega, by omega, hby, by omega⟩, by simp only [room, List.length_singleton]; omega, ⟨by omega, by omega, hby, by omega⟩, ⟨e.1⟩, e.2⟩
        · have e := dGo_next (b := b') (p := p') (id := id) (topP := p + 1 + 1 + 1 + 20 * n0) (topI := id0 + 3 * n0) (show dStep b' p' id xs = (p' + cn b' p' id + 1 + 1, W (W (id + 1) + pk b' (p' + cn b' p' id + 1) 3), xs ++ [bd b' p' id]) by unfold dStep; dsimp only; rw [c1, show decide (pk b' (p' + cn b' p' id) 3 > 0) = false from c2]; rfl) c i2 n12 i3 i4 i5 i6 (by omega) i7 i8 i9 i10
          exact ⟨by simp only [room, List.length_singleton]; omega, ⟨by omega, by omega, hby, by omega⟩, ⟨e.1⟩, e.2⟩
        · have e := dGo_next (b := b') (p := p') (id := id) (topP := p + 1 + 1 + 1 + 20 * n0) (topI := id0 + 3 * n0) (show dStep b' p' id xs = (p' + cn b' p' id + 1, W (W (id + 1) + pk b' (p' + cn b' p' id) 3), xs ++ [bd b' p' id]) by unfold dStep; dsimp only; rw [c1]; rfl) c i2 n12 i3 i4 i5 i6 (by omega) i7 i8 i9 i10
          exact ⟨by simp only [room, List.length_singleton]; omega, ⟨by omega, by omega, hby, by omega⟩, ⟨e.1⟩, e.2⟩
      · have c := of_decide_eq_false c
        have hn : n.toNat = 0 := by omega
        rw [hn] at i10
        have i10 : (p', xs) = _ := i10
        rw [← i10]
        have hle := bodiesOk_len i7
        refine ⟨⟨i3, by omega, hby, by omega⟩, ifB_of (fun c1 => ?_) (fun c1 => ?_)⟩
        · have hlf := length_stepF xs (Ty.ix .int ([0, 32] : List Int) (g_rdPick b' (p' + 1) 2 % 2).toNat)
          refine ⟨⟨by omega, by omega, hby, by simp⟩, ⟨i7, (ix032 _).1, (ix032 _).2⟩, by simp only [room, length_stepF]; omega, ?_⟩
          have hd : dEnd b' (p', xs) = (p' + 1 + 1, stepF xs (Ty.ix .int ([0, 32] : List Int) (g_rdPick b' (p' + 1) 2 % 2).toNat)) := by
            unfold dEnd
            rw [show (pk b' (p', xs).1 4 == 0) = true from c1]
            rfl
          rw [hd]
          exact ⟨(by trivial), (by trivial)⟩
        · have hd : dEnd b' (p', xs) = (p' + 1, xs) := by
            unfold dEnd
            rw [show (pk b' (p', xs).1 4 == 0) = false from c1]
            rfl
          rw [hd]
          exact ⟨(by trivial), (by trivial)⟩)

def bodiesP (xs : List Body) : Prop := xs.length ≤ 13
instance : Nonempty {x : List Body // bodiesP x} := ⟨⟨[], by simp [bodiesP]⟩⟩
noncomputable def g_l11AnyBodies (b : List Int) (p : Int) : ({x : List Body // bodiesP x}) × Nat := someAns tt (look [(69, fs_rdPick), (88, fs_l11Bodies), (87, fs_l11AnyBody)]) Tryz.f50 [.ptr 1 0 0] [(false, .vec .byte b), (true, .box [.vec 0, .int .i64 p])] (fun x : ({x : List Body // bodiesP x}) × Nat => (.vec 2 : SV)) (fun x : ({x : List Body // bodiesP x}) × Nat => ([(false, .vec .byte b), (true, .box [.vec 0, .int .i64 (p + ((x.2 % 451 : Nat) : Int))]), (true, .vec .body (x.1.1))] : List Ent))
noncomputable def fs_l11AnyBodies : Fs := ⟨[], fun args H => match args, H with
  | [.ptr 1 0 0], [(false, .vec .byte b), (true, .box [.vec 0, .int .i64 p])] => some ((some (0 ≤ p ∧ p + 450 ≤ 1000000000000 ∧ BytesOk b)), .vec 2, [(false, .vec .byte b), (true, .box [.vec 0, .int .i64 (p + (((g_l11AnyBodies b p).2 % 451 : Nat) : Int))]), (true, .vec .body ((g_l11AnyBodies b p).1.1))])
  | _, _ => none⟩

theorem vc_l11AnyBodies (b : List Int) (p : Int) (Q : SV → List Ent → Prop) :
    fnVC tt (look [(69, fs_rdPick), (88, fs_l11Bodies), (87, fs_l11AnyBody)]) L0 Tryz.f50 [.ptr 1 0 0] [(false, .vec .byte b), (true, .box [.vec 0, .int .i64 p])] Q =
    (((0 : Int) ≤ p ∧ p + (400 : Int) ≤ (1000000000000 : Int) ∧ BytesOk b) ∧ ifB ((↑(List.length (Prod.snd (dDraw b p))) : Int) == (0 : Int)) (Q (SV.vec (2 : Nat)) [(false, Blk.vec Ty.byte b), (true, Blk.box [SV.vec (0 : Nat), SV.int IntKind.i64 (Prod.fst (dDraw b p))]), (true, Blk.vec Ty.body (Prod.snd (dDraw b p)))]) (((0 : Int) ≤ Prod.fst (dDraw b p) ∧ Prod.fst (dDraw b p) + (1 : Int) ≤ (1000000000000 : Int) ∧ BytesOk b ∧ (1 : Int) ≤ (↑(List.length (Prod.snd (dDraw b p))) : Int)) ∧ ((0 : Int) ≤ Prod.fst (dDraw b p) + (1 : Int) ∧ Prod.fst (dDraw b p) + (1 : Int) + (1 : Int) ≤ (1000000000000 : Int) ∧ BytesOk b ∧ (1 : Int) ≤ (20 : Int)) ∧ ifB (g_rdPick b (Prod.fst (dDraw b p) + (1 : Int)) (20 : Int) % (20 : Int) == (0 : Int)) (((0 : Int) ≤ Prod.fst (dDraw b p) + (1 : Int) + (1 : Int) ∧ Prod.fst (dDraw b p) + (1 : Int) + (1 : Int) + (24 : Int) ≤ (1000000000000 : Int) ∧ BytesOk b) ∧ ((0 : Int) ≤ g_rdPick b (Prod.fst (dDraw b p)) (↑(List.length (Prod.snd (dDraw b p))) : Int) % (↑(List.length (Prod.snd (dDraw b p))) : Int) ∧ g_rdPick b (Prod.fst (dDraw b p)) (↑(List.length (Prod.snd (dDraw b p))) : Int) % (↑(List.length (Prod.snd (dDraw b p))) : Int) < (↑(List.length (Prod.snd (dDraw b p))) : Int)) ∧ Q (SV.vec (2 : Nat)) [(false, Blk.vec Ty.byte b), (true, Blk.box [SV.vec (0 : Nat), SV.int IntKind.i64 (Prod.fst (dDraw b p) + (1 : Int) + (1 : Int) + (↑(Prod.snd (g_l11AnyBody b (Prod.fst (dDraw b p) + (1 : Int) + (1 : Int))) % (25 : Nat)) : Int))]), (true, Blk.vec Ty.body (List.set (Prod.snd (dDraw b p)) (Int.toNat (g_rdPick b (Prod.fst (dDraw b p)) (↑(List.length (Prod.snd (dDraw b p))) : Int) % (↑(List.length (Prod.snd (dDraw b p))) : Int))) (Prod.fst (g_l11AnyBody b (Prod.fst (dDraw b p) + (1 : Int) + (1 : Int))))))]) (ifB (g_rdPick b (Prod.fst (dDraw b p) + (1 : Int)) (20 : Int) % (20 : Int) == (1 : Int)) (((0 : Int) ≤ (0 : Int) ∧ (0 : Int) < (↑(List.length (Prod.snd (dDraw b p))) : Int)) ∧ (List.length (Prod.snd (dDraw b p)) + List.length [Ty.ix Ty.body (Prod.snd (dDraw b p)) (Int.toNat (0 : Int))]) * (96 : Nat) ≤ room ∧ Q (SV.vec (2 : Nat)) [(false, Blk.vec Ty.byte b), (true, Blk.box [SV.vec (0 : Nat), SV.int IntKind.i64 (Prod.fst (dDraw b p) + (1 : Int) + (1 : Int))]), (true, Blk.vec Ty.body (Prod.snd (dDraw b p) ++ [Ty.ix Ty.body (Prod.snd (dDraw b p)) (Int.toNat (0 : Int))]))]) (Q (SV.vec (2 : Nat)) [(false, Blk.vec Ty.byte b), (true, Blk.box [SV.vec (0 : Nat), SV.int IntKind.i64 (Prod.fst (dDraw b p) + (1 : Int) + (1 : Int))]), (true, Blk.vec Ty.body (Prod.snd (dDraw b p)))])))) := by kernel_rfl

theorem ok_l11AnyBodies : FsOk Tryz.prog 50 fs_l11AnyBodies := fsOk_of tt_ok (tabFs_cons ok_rdPick (tabFs_cons ok_l11Bodies (tabFs_cons ok_l11AnyBody tabFs_nil))) mixed Tryz.func50 (by kernel_rfl) (by kernel_rfl) (by
    intro args LL p0 r HH h hp
    unfold fs_l11AnyBodies at h
    dsimp only at h
    split at h
    case h_2 => cases h
    rename_i b p
    simp only [Option.some.injEq, Prod.mk.injEq] at h
    obtain ⟨rfl, rfl, rfl⟩ := h
    refine ⟨by simp [Form, stays], L0, ?_⟩
    obtain ⟨hp0, hp1, hby⟩ := hp _ rfl
    refine someAns_ok (R := (fun x : ({x : List Body // bodiesP x}) × Nat => (.vec 2 : SV))) (HH := (fun x : ({x : List Body // bodiesP x}) × Nat => ([(false, .vec .byte b), (true, .box [.vec 0, .int .i64 (p + ((x.2 % 451 : Nat) : Int))]), (true, .vec .body (x.1.1))] : List Ent))) (by kernel_rfl) ?_
    have fin : ∀ (z : List Body) (p' : Int), bodiesP z → p ≤ p' → p' ≤ p + 450 → ∃ x : ({x : List Body // bodiesP x}) × Nat, ((.vec 2 : SV) : SV) = (fun x : ({x : List Body // bodiesP x}) × Nat => (.vec 2 : SV)) x ∧ (([(false, .vec .byte b), (true, .box [.vec 0, .int .i64 p']), (true, .vec .body (z))] : List Ent) : List Ent) = (fun x : ({x : List Body // bodiesP x}) × Nat => ([(false, .vec .byte b), (true, .box [.vec 0, .int .i64 (p + ((x.2 % 451 : Nat) : Int))]), (true, .vec .body (x.1.1))] : List Ent)) x := fun z p' hpred h1 h2 => ⟨(⟨z, hpred⟩, (p' - p).toNat), rfl, by
      have : p + (((p' - p).toNat % 451 : Nat) : Int) = p' := by omega
      dsimp only
      rw [this]⟩
    rw [vc_l11AnyBodies]
    try dsimp only
    try dsimp only at fin
    obtain ⟨d1, d2, d3⟩ := dDraw_spec (b := b) (p := p)
    have dl := bodiesOk_len d3
    generalize dDraw b p = d at *
    obtain ⟨q, xs⟩ := d
    dsimp only at d1 d2 d3 dl ⊢
    refine ⟨⟨hp0, by omega, hby⟩, ifB_of (fun c => ?_) (fun c => ?_)⟩
    · exact fin _ _ (by simp only [bodiesP]; omega) (by omega) (by omega)
    · have hl : 0 < (xs.length : Int) := by
        have : ¬ (xs.length : Int) = 0 := by simpa using c
        omega
      have hk := pk_lt b q (n := xs.length) (by omega)
      simp only [pk] at hk
      refine ⟨⟨by omega, by omega, hby, by omega⟩, ⟨by omega, by omega, hby, by omega⟩, ifB_of (fun _ => ⟨⟨by omega, by omega, hby⟩, hk, fin _ _ (by simp only [bodiesP, List.length_set]; omega) (by omega) (by omega)⟩) (fun _ => ifB_of (fun _ => ?_) (fun _ => ?_))⟩
      · exact ⟨⟨by omega, hl⟩, by simp only [room, List.length_cons, List.length_nil]; omega, fin _ _ (by simp only [bodiesP, List.length_append, List.length_cons, List.length_nil]; omega) (by omega) (by omega)⟩
      · exact fin _ _ (by simp only [bodiesP]; omega) (by omega) (by omega))

def pushD (z : List Body × List Contact) : Prop := z.1.length ≤ 13 ∧ z.2.length ≤ 145
instance : Nonempty {x : List Body × List Contact // pushD x} := ⟨⟨([], []), by simp [pushD]⟩⟩
def worldD (z : Int × Int × List Body × List Pair) : Prop := z.2.2.1.length ≤ 13 ∧ z.2.2.2.length ≤ 145
instance : Nonempty {x : Int × Int × List Body × List Pair // worldD x} := ⟨⟨(0, 0, [], []), by simp [worldD]⟩⟩
end
end Go.Proofs.YtnahfbjdicjdpaaGreat.Sym

namespace Go.Proofs.YtnahfbjdicjdpaaGreat.Sym
open Go
set_option linter.unusedVariables false
set_option linter.unusedSimpArgs false
set_option maxRecDepth 100000
noncomputable section

abbrev Wd := Int × Int × List Body × List Pair
end
end Go.Proofs.YtnahfbjdicjdpaaGreat.Sym

namespace Go.Proofs.YtnahfbjdicjdpaaGreat.Sym
open Go
set_option linter.unusedVariables false
set_option linter.unusedSimpArgs false
set_option maxRecDepth 100000
noncomputable section
def drawStepP (z : List Body × Int) : Prop := z.1.length ≤ 13
instance : Nonempty {x : List Body × Int // drawStepP x} := ⟨⟨([], 0), by simp [drawStepP]⟩⟩
noncomputable def g_DrawStep (b : List Int) : {x : List Body × Int // drawStepP x} := someAns tt (look [(49, fs_l1Open), (50, fs_l11AnyBodies), (51, fs_rdOne)]) Tryz.f15 [.vec 0] [(false, .vec .byte b)] (fun x : {x : List Body × Int // drawStepP x} => (.tup [.vec 1, .int .i64 ((x.1).2)] : SV)) (fun x : {x : List Body × Int // drawStepP x} => ([(false, .vec .byte b), (true, .vec .body ((x.1).1))] : List Ent))
noncomputable def fs_DrawStep : Fs := ⟨[], fun args H => match args, H with
  | [.vec 0], [(false, .vec .byte b)] => some ((some (BytesOk b)), .tup [.vec 1, .int .i64 (((g_DrawStep b).1).2)], [(false, .vec .byte b), (true, .vec .body (((g_DrawStep b).1).1))])
  | _, _ => none⟩

theorem vc_DrawStep (b : List Int) (Q : SV → List Ent → Prop) :
    fnVC tt (look [(49, fs_l1Open), (50, fs_l11AnyBodies), (51, fs_rdOne)]) L0 Tryz.f15 [.vec 0] [(false, .vec .byte b)] Q =
    (((0 : Int) ≤ (0 : Int) ∧ (0 : Int) + (450 : Int) ≤ (1000000000000 : Int) ∧ BytesOk (List.take (min (List.length b) (2000 : Nat)) (List.drop (0 : Nat) b))) ∧ ((0 : Int) ≤ (0 : Int) + (↑(Prod.snd (g_l11AnyBodies (List.take (min (List.length b) (2000 : Nat)) (List.drop (0 : Nat) b)) (0 : Int)) % (451 : Nat)) : Int) ∧ (0 : Int) + (↑(Prod.snd (g_l11AnyBodies (List.take (min (List.length b) (2000 : Nat)) (List.drop (0 : Nat) b)) (0 : Int)) % (451 : Nat)) : Int) + (1 : Int) ≤ (1000000000000 : Int) ∧ BytesOk (List.take (min (List.length b) (2000 : Nat)) (List.drop (0 : Nat) b)) ∧ (1 : Nat) ≤ List.length [(0 : Int), (0 : Int), (32 : Int), (32 : Int), (8 : Int), (2560 : Int), (2561 : Int), (-1 : Int)]) ∧ Q (SV.tup [SV.vec (1 : Nat), SV.int IntKind.i64 (Ty.ix Ty.int [(0 : Int), (0 : Int), (32 : Int), (32 : Int), (8 : Int), (2560 : Int), (2561 : Int), (-1 : Int)] (Int.toNat (g_rdPick (List.take (min (List.length b) (2000 : Nat)) (List.drop (0 : Nat) b)) ((0 : Int) + (↑(Prod.snd (g_l11AnyBodies (List.take (min (List.length b) (2000 : Nat)) (List.drop (0 : Nat) b)) (0 : Int)) % (451 : Nat)) : Int)) (↑(List.length [(0 : Int), (0 : Int), (32 : Int), (32 : Int), (8 : Int), (2560 : Int), (2561 : Int), (-1 : Int)]) : Int) % (↑(List.length [(0 : Int), (0 : Int), (32 : Int), (32 : Int), (8 : Int), (2560 : Int), (2561 : Int), (-1 : Int)]) : Int))))]) [(false, Blk.vec Ty.byte b), (true, Blk.vec Ty.body (Subtype.val (Prod.fst (g_l11AnyBodies (List.take (min (List.length b) (2000 : Nat)) (List.drop (0 : Nat) b)) (0 : Int)))))]) := by kernel_rfl

theorem ok_DrawStep : FsOk Tryz.prog 15 fs_DrawStep := fsOk_of tt_ok (tabFs_cons ok_l1Open (tabFs_cons ok_l11AnyBodies (tabFs_cons ok_rdOne tabFs_nil))) mixed Tryz.func15 (by kernel_rfl) (by kernel_rfl) (by
    intro args LL p0 r HH h hp
    unfold fs_DrawStep at h
    dsimp only at h
    split at h
    case h_2 => cases h
    rename_i b
    simp only [Option.some.injEq, Prod.mk.injEq] at h
    obtain ⟨rfl, rfl, rfl⟩ := h
    refine ⟨by simp [Form, stays], L0, ?_⟩
    have hby := hp _ rfl
    refine someAns_ok (R := (fun x : {x : List Body × Int // drawStepP x} => (.tup [.vec 1, .int .i64 ((x.1).2)] : SV))) (HH := (fun x : {x : List Body × Int // drawStepP x} => ([(false, .vec .byte b), (true, .vec .body ((x.1).1))] : List Ent))) (by kernel_rfl) ?_
    have fin : ∀ (z0 : List Body) (z1 : Int), drawStepP (z0, z1) → ∃ x : {x : List Body × Int // drawStepP x}, ((.tup [.vec 1, .int .i64 (((z0, z1)).2)] : SV) : SV) = (fun x : {x : List Body × Int // drawStepP x} => (.tup [.vec 1, .int .i64 ((x.1).2)] : SV)) x ∧ (([(false, .vec .byte b), (true, .vec .body (((z0, z1)).1))] : List Ent) : List Ent) = (fun x : {x : List Body × Int // drawStepP x} => ([(false, .vec .byte b), (true, .vec .body ((x.1).1))] : List Ent)) x := fun z0 z1 hpred => ⟨⟨(z0, z1), hpred⟩, rfl, rfl⟩
    rw [vc_DrawStep]
    try dsimp only
    try dsimp only at fin
    have hc := hby.part 0 (min b.length 2000)
    generalize List.take (min b.length 2000) (List.drop 0 b) = c at *
    have hw := (g_l11AnyBodies c 0).1.2
    simp only [bodiesP] at hw
    repeat' (first | refine ifB_of (fun _ => ?_) (fun _ => ?_) | refine pre_of ?_ (fun _ => ?_))
    all_goals first
      | omega
      | exact hc
      | exact Nat.le_add_left _ _
      | (refine fin _ _ ?_; exact hw)
      | (simp only [room, List.length_cons, List.length_nil]; omega))

def drawStepsP (z : List Body × Int × Int) : Prop := z.1.length ≤ 13 ∧ 0 ≤ z.2.1 ∧ z.2.1 ≤ 2560
instance : Nonempty {x : List Body × Int × Int // drawStepsP x} := ⟨⟨([], 0, 0), by simp [drawStepsP]⟩⟩
def goneD (z : Wd × Int) : Prop := worldD z.1
instance : Nonempty {x : Wd × Int // goneD x} := ⟨⟨((0, 0, [], []), 0), by simp [goneD, worldD]⟩⟩
def putD (z : Wd × Body) : Prop := worldD z.1
instance : Nonempty {x : Wd × Body // putD x} := ⟨⟨((0, 0, [], []), ⟨0, ⟨0, 0, 0⟩, ⟨0, 0⟩, ⟨0, 0⟩, 0, 0, 0, 0⟩), by simp [putD, worldD]⟩⟩
end
end Go.Proofs.YtnahfbjdicjdpaaGreat.Sym

namespace Go.Proofs.YtnahfbjdicjdpaaGreat.Sym
open Go
set_option linter.unusedVariables false
set_option linter.unusedSimpArgs false
set_option maxRecDepth 100000

/-- Not of a contact. -/
def offC (k : Nat) (c : Contact) : Prop := k ≠ c.A.toNat ∧ k ≠ c.B.toNat
theorem pushOne_off {xs : List Body} {c : Contact} {z : Bool} {k : Nat} (h : offC k c) : Ty.ix .body (pushOne xs c z) k = Ty.ix .body xs k := by
  unfold pushOne
  dsimp only
  split
  · rw [ix_set_ne (T := .body) (fun e => h.2 e.symm), ix_set_ne (T := .body) (fun e => h.1 e.symm)]
  · rfl
theorem apartOne_off {xs : List Body} {c : Contact} {k : Nat} (h : offC k c) : Ty.ix .body (apartOne xs c) k = Ty.ix .body xs k := by
  have e1 : ∀ (v : Body) (ys : List Body), Ty.ix .body (ys.set c.A.toNat v) k = Ty.ix .body ys k := fun v ys => ix_set_ne (T := .body) (fun e => h.1 e.symm)
  have e2 : ∀ (v : Body) (ys : List Body), Ty.ix .body (ys.set c.B.toNat v) k = Ty.ix .body ys k := fun v ys => ix_set_ne (T := .body) (fun e => h.2 e.symm)
  unfold apartOne
  dsimp only
  split
  · rfl
  · split
    · split
      · rfl
      · rw [e1]
    · rw [e2]
      split
      · rfl
      · rw [e1]
theorem pushB_fix {b : Body} {p : Vec} (h : b.Mass = 0) : pushB b p = b := by simp [pushB, h]
theorem pushOne_fix {xs : List Body} {c : Contact} {z : Bool} {k : Nat} (hk : k < xs.length) (hne : c.A.toNat ≠ c.B.toNat) (h : (Ty.ix .body xs k).Mass = 0) : Ty.ix .body (pushOne xs c z) k = Ty.ix .body xs k := by
  unfold pushOne
  dsimp only
  split
  · by_cases e2 : c.B.toNat = k
    · rw [e2, ix_set_self (T := .body) (by simpa using hk)]
      exact pushB_fix h
    · rw [ix_set_ne (T := .body) e2]
      by_cases e1 : c.A.toNat = k
      · rw [e1, ix_set_self (T := .body) hk]
        exact pushB_fix h
      · rw [ix_set_ne (T := .body) e1]
  · rfl
theorem apartOne_fix {xs : List Body} {c : Contact} {k : Nat} (hk : k < xs.length) (hne : c.A.toNat ≠ c.B.toNat) (h : (Ty.ix .body xs k).Mass = 0) : Ty.ix .body (apartOne xs c) k = Ty.ix .body xs k := by
  unfold apartOne
  dsimp only
  split
  · rfl
  · by_cases e2 : c.B.toNat = k
    · have e1 : ¬ c.A.toNat = k := fun e => hne (e.trans e2.symm)
      rw [e2, if_pos h]
      split
      · rfl
      · rw [ix_set_ne (T := .body) e1]
    · have q : ∀ (v : Body) (ys : List Body), Ty.ix .body (ys.set c.B.toNat v) k = Ty.ix .body ys k := fun v ys => ix_set_ne (T := .body) e2
      have q2 : Ty.ix .body (if (Ty.ix .body xs c.A.toNat).Mass = 0 then xs else xs.set c.A.toNat (moveB (Ty.ix .body xs c.A.toNat) (scaled (oppV c.Hit.Way) (shareF (Ty.ix .body xs c.A.toNat) (Ty.ix .body xs c.B.toNat) (W ((W (c.Hit.Deep - 64)).tdiv 4)))))) k = Ty.ix .body xs k := by
        by_cases e1 : c.A.toNat = k
        · rw [e1, if_pos h]
        · split
          · rfl
          · rw [ix_set_ne (T := .body) e1]
      split
      · exact q2
      · rw [q]
        exact q2
end Go.Proofs.YtnahfbjdicjdpaaGreat.Sym

namespace Go.Proofs.YtnahfbjdicjdpaaGreat.Sym
open Go
set_option linter.unusedVariables false
set_option linter.unusedSimpArgs false
set_option maxRecDepth 100000
noncomputable section

theorem stillG_congr {xs ys : List Body} {gs : List Int} {g : Int} : ∀ {n : Nat}, (∀ i, i < n → gi gs i = g → Ty.ix .body ys i = Ty.ix .body xs i) → stillG ys gs g n = stillG xs gs g n
  | 0, _ => rfl
  | n + 1, h => by
    have ih := stillG_congr (n := n) (xs := xs) (ys := ys) (gs := gs) (g := g) fun i hi => h i (by omega)
    have e : ∀ zs, stillG zs gs g (n + 1) = (stillG zs gs g n && (!(gi gs n == g) || (Ty.ix .body zs n).Quiet == 7)) := fun _ => rfl
    rw [e, e, ih]
    cases c : gi gs n == g with
    | false => rfl
    | true => rw [h n (by omega) (eq_of_beq c)]
/-- What comes of a body when groups are put to sleep. -/
theorem ix_settleF (gs : List Int) : ∀ (ws : List Bool) (g : Nat) (xs : List Body) (k : Nat), k < xs.length →
    Ty.ix .body (settleF gs g ws xs) k = bif decide ((g : Int) ≤ gi gs k) && decide (gi gs k < g + ws.length) && Ty.ix .bool ws (gi gs k - g).toNat && stillG xs gs (gi gs k) xs.length then bedB (Ty.ix .body xs k) else Ty.ix .body xs k
  | [], g, xs, k, hk => by
    have : (decide ((g : Int) ≤ gi gs k) && decide (gi gs k < g + ([] : List Bool).length)) = false := by
      cases c : decide ((g : Int) ≤ gi gs k) with
      | false => rfl
      | true =>
        have := of_decide_eq_true c
        rw [decide_eq_false (by simp only [List.length_nil]; omega)]
        rfl
    rw [this, Bool.false_and, Bool.false_and]
    rfl
  | a :: r, g, xs, k, hk => by
    have ih := ix_settleF gs r (g + 1) (settleOne xs gs g a) k (by rw [length_settleOne]; exact hk)
    rw [length_settleOne, ix_settleOne hk] at ih
    show Ty.ix .body (settleF gs (g + 1) r (settleOne xs gs g a)) k = _
    rw [ih]
    by_cases e : gi gs k = g
    · rw [e, decide_eq_false (show ¬ ((g + 1 : Nat) : Int) ≤ (g : Int) by omega), decide_eq_true (show (g : Int) ≤ g by omega), decide_eq_true (show (g : Int) < g + (a :: r).length by rw [List.length_cons]; omega)]
      have z : ((g : Int) - g).toNat = 0 := by omega
      rw [z]
      have z2 : Ty.ix .bool (a :: r) 0 = a := rfl
      rw [z2]
      unfold bedAt
      rw [e, beq_self_eq_true]
      simp only [Bool.false_and, Bool.true_and, Bool.and_true, cond_false]
    · have b1 : bedAt xs gs g (a && stillG xs gs g xs.length) k = Ty.ix .body xs k := by
        unfold bedAt
        rw [beq_eq_false_iff_ne.2 e, Bool.and_false]
        rfl
      have st : stillG (settleOne xs gs g a) gs (gi gs k) xs.length = stillG xs gs (gi gs k) xs.length := stillG_congr fun i hi hg => by
        rw [ix_settleOne hi]
        unfold bedAt
        rw [hg, beq_eq_false_iff_ne.2 e, Bool.and_false]
        rfl
      rw [b1, st]
      by_cases c : (g : Int) ≤ gi gs k
      · have c2 : ((g + 1 : Nat) : Int) ≤ gi gs k := by omega
        have z : (gi gs k - g).toNat = (gi gs k - ((g + 1 : Nat) : Int)).toNat + 1 := by omega
        have z2 : Ty.ix .bool (a :: r) (gi gs k - g).toNat = Ty.ix .bool r (gi gs k - ((g + 1 : Nat) : Int)).toNat := by
          rw [z]
          rfl
        rw [z2, decide_eq_true c, decide_eq_true c2]
        have z3 : decide (gi gs k < ((g + 1 : Nat) : Int) + r.length) = decide (gi gs k < (g : Int) + (a :: r).length) := by
          rw [decide_eq_decide, List.length_cons]
          omega
        rw [z3]
      · rw [decide_eq_false c, decide_eq_false (show ¬ ((g + 1 : Nat) : Int) ≤ gi gs k by omega)]
        simp only [Bool.false_and, cond_false]
/-- A body behind a step: as quiet as it is, or put to sleep. -/
theorem ix_stepF {xs : List Body} {pull : Int} {k : Nat} (hk : k < xs.length) :
    Ty.ix .body (stepF xs pull) k = bif decide (0 ≤ gi (groupsX xs) k) && Ty.ix .bool (awkF xs xs.length) (gi (groupsX xs) k).toNat && stillG (quietX xs pull) (groupsX xs) (gi (groupsX xs) k) xs.length then bedB (Ty.ix .body (quietX xs pull) k) else Ty.ix .body (quietX xs pull) k := by
  rw [stepF_eq, ix_settleF _ _ _ _ _ (by rw [length_quietX]; exact hk), length_quietX]
  cases c : decide (0 ≤ gi (groupsX xs) k) with
  | false =>
    have z : decide (((0 : Nat) : Int) ≤ gi (groupsX xs) k) = false := c
    simp only [z, Bool.false_and]
  | true =>
    have z : decide (((0 : Nat) : Int) ≤ gi (groupsX xs) k) = true := c
    have c := of_decide_eq_true c
    have f := group_free hk c
    have hg : gi (groupsX xs) k = (numX xs (cmX xs k) : Int) := by
      have e : gi (groupsX xs) k = gOf xs xs.length k := ix_gen (T := .int) hk
      rw [e, gOf_all hk, f]
      rfl
    have h1 := num_in f
    have h2 := Grp.num_mono (freeB xs) (cmX xs) (show k + 1 ≤ xs.length from hk)
    have h3 : numX xs (cmX xs k) < (awkF xs xs.length).length := by rw [length_awkF]; exact Nat.lt_of_lt_of_le h1 h2
    have z2 : decide (gi (groupsX xs) k < ((0 : Nat) : Int) + (awkF xs xs.length).length) = true := decide_eq_true (by omega)
    have z3 : gi (groupsX xs) k - ((0 : Nat) : Int) = gi (groupsX xs) k := by omega
    simp only [z, z2, z3, Bool.true_and]
theorem ix_bsnoc {ws : List Bool} {v : Bool} {k : Nat} (h : k < ws.length) : Ty.ix .bool (ws ++ [v]) k = Ty.ix .bool ws k := by
  simp only [Ty.ix, List.getD_eq_getElem?_getD]
  rw [List.getElem?_append_left h]
theorem ix_blast {ws : List Bool} {v : Bool} : Ty.ix .bool (ws ++ [v]) ws.length = v := by simp [Ty.ix, List.getD]
/-- A group is awake just if one of it is. -/
theorem awk_spec {xs : List Body} : ∀ (m : Nat) (l : Nat), Grp.lead (freeB xs) (cmX xs) l = true → l < m → (Ty.ix .bool (awkF xs m) (numX xs l) = true ↔ ∃ j, j < m ∧ freeB xs j = true ∧ cmX xs j = l ∧ (Ty.ix .body xs j).Quiet ≠ 8)
  | m + 1, l, hl, hm => by
    have hlen := length_awkF xs m
    have base : l < m → (Ty.ix .bool (awkF xs m) (numX xs l) = true ↔ ∃ j, j < m ∧ freeB xs j = true ∧ cmX xs j = l ∧ (Ty.ix .body xs j).Quiet ≠ 8) := awk_spec m l hl
    have hnl : l < m → numX xs l < (awkF xs m).length := fun h => by rw [hlen]; exact Grp.num_lt hl h
    have step : ∀ {P : Prop}, (∃ j, j < m + 1 ∧ freeB xs j = true ∧ cmX xs j = l ∧ (Ty.ix .body xs j).Quiet ≠ 8) ↔ ((∃ j, j < m ∧ freeB xs j = true ∧ cmX xs j = l ∧ (Ty.ix .body xs j).Quiet ≠ 8) ∨ (freeB xs m = true ∧ cmX xs m = l ∧ (Ty.ix .body xs m).Quiet ≠ 8)) := by
      intro P
      constructor
      · rintro ⟨j, h1, h2⟩
        by_cases e : j = m
        · subst e; exact .inr h2
        · exact .inl ⟨j, by omega, h2⟩
      · rintro (⟨j, h1, h2⟩ | h2)
        · exact ⟨j, by omega, h2⟩
        · exact ⟨m, by omega, h2⟩
    rw [step (P := True)]
    rcases (show freeB xs m = false ∨ freeB xs m = true by cases freeB xs m <;> simp) with f | f
    · have hne : l ≠ m := fun e => by
        have := (lead_iff.1 hl).1
        rw [e, f] at this
        cases this
      rw [awk_fixed f, base (by omega)]
      simp [f]
    · have key : ∀ {out : List Bool} {q : Bool}, numX xs (cmX xs m) < out.length → numX xs l < out.length → (Ty.ix .bool out (numX xs l) = true ↔ ∃ j, j < m ∧ freeB xs j = true ∧ cmX xs j = l ∧ (Ty.ix .body xs j).Quiet ≠ 8) → (!((Ty.ix .body xs m).Quiet == 8)) = q →
          (Ty.ix .bool (bif q then out.set (numX xs (cmX xs m)) true else out) (numX xs l) = true ↔ ((∃ j, j < m ∧ freeB xs j = true ∧ cmX xs j = l ∧ (Ty.ix .body xs j).Quiet ≠ 8) ∨ (freeB xs m = true ∧ cmX xs m = l ∧ (Ty.ix .body xs m).Quiet ≠ 8))) := by
        intro out q h1 h2 h3 h4
        cases q with
        | false =>
          have h8 : (Ty.ix .body xs m).Quiet = 8 := eq_of_beq (not_false h4)
          simp only [cond_false]
          rw [h3]
          simp [h8]
        | true =>
          have h8 : (Ty.ix .body xs m).Quiet ≠ 8 := beq_eq_false_iff_ne.1 (not_true h4)
          simp only [cond_true]
          by_cases e : cmX xs m = l
          · rw [e, ix_set_self (T := .bool) h2]
            simp [h8, f]
          · have hne : numX xs (cmX xs m) ≠ numX xs l := fun z => e (Grp.num_inj (lead_cm f) hl z)
            rw [ix_set_ne (T := .bool) hne, h3]
            simp [e]
      cases hlm : Grp.lead (freeB xs) (cmX xs) m with
      | false =>
        have hne : l ≠ m := fun e => by rw [e, hlm] at hl; cases hl
        have hcm : cmX xs m < m := by
          have := cmX_le xs m
          have : cmX xs m ≠ m := fun e => by rw [lead_iff.2 ⟨f, e⟩] at hlm; cases hlm
          omega
        rw [awk_free f hlm rfl]
        simp only [cond_false, List.append_nil]
        exact key (by rw [hlen]; exact Grp.num_lt (lead_cm f) hcm) (hnl (by omega)) (base (by omega)) rfl
      | true =>
        have hcm : cmX xs m = m := (lead_iff.1 hlm).2
        rw [awk_free f hlm rfl]
        simp only [cond_true]
        by_cases e : l = m
        · refine key (by simp only [hcm, List.length_append, hlen, List.length_singleton]; omega) (by simp only [e, List.length_append, hlen, List.length_singleton]; omega) ?_ rfl
          have z : Ty.ix .bool (awkF xs m ++ [false]) (numX xs l) = false := by
            rw [e, ← hlen]
            exact ix_blast
          rw [z]
          refine ⟨fun h => (by cases h), fun ⟨j, j1, j2, j3, _⟩ => ?_⟩
          have := cmX_le xs j
          omega
        · refine key (by simp only [hcm, List.length_append, hlen, List.length_singleton]; omega) (by rw [List.length_append]; have := hnl (by omega); omega) ?_ rfl
          rw [ix_bsnoc (hnl (by omega))]
          exact base (by omega)
/-- The group of a body, and whether it is awake. -/
theorem group_awake {xs : List Body} {k : Nat} (hk : k < xs.length) (hg : 0 ≤ gi (groupsX xs) k) :
    Ty.ix .bool (awkF xs xs.length) (gi (groupsX xs) k).toNat = true ↔ ∃ j, j < xs.length ∧ freeB xs j = true ∧ cmX xs j = cmX xs k ∧ (Ty.ix .body xs j).Quiet ≠ 8 := by
  have f := group_free hk hg
  have e : gi (groupsX xs) k = gOf xs xs.length k := ix_gen (T := .int) hk
  rw [e, gOf_all hk, f]
  have := cmX_le xs k
  exact awk_spec xs.length (cmX xs k) (lead_cm f) (by omega)
theorem group_of_free {xs : List Body} {k : Nat} (hk : k < xs.length) (f : freeB xs k = true) : gi (groupsX xs) k = (numX xs (cmX xs k) : Int) := by
  have e : gi (groupsX xs) k = gOf xs xs.length k := ix_gen (T := .int) hk
  rw [e, gOf_all hk, f]
  rfl
theorem group_fixed {xs : List Body} {k : Nat} (hk : k < xs.length) (f : freeB xs k = false) : gi (groupsX xs) k = -1 := by
  have e : gi (groupsX xs) k = gOf xs xs.length k := ix_gen (T := .int) hk
  rw [e, gOf_all hk, f]
  rfl
theorem fix_quiet {b : Body} (h : bodyOk b = true) (m : b.Mass = 0) : b.Quiet = 0 := ((bok_iff.1 h).2.2.2.2.2.2.2.2.1 m).2.2
theorem live_sub {xs : List Body} {pull : Int} {c : Contact} (h : c ∈ liveX xs pull) : c ∈ contactsF xs ∧ (moves (Ty.ix .body (pulledF xs pull) c.A.toNat) = true ∨ moves (Ty.ix .body (pulledF xs pull) c.B.toNat) = true) := by
  obtain ⟨h1, h2⟩ := List.mem_filter.1 h
  rw [Bool.or_eq_true] at h2
  exact ⟨h1, h2⟩
end
end Go.Proofs.YtnahfbjdicjdpaaGreat.Sym

namespace Go.Proofs.YtnahfbjdicjdpaaGreat.Sym
open Go
set_option linter.unusedVariables false
set_option linter.unusedSimpArgs false
set_option maxRecDepth 100000
noncomputable section
theorem ok_of_len {xs : List Body} {pull : Int} (hl : (stepOf xs pull).length = xs.length) (h : 0 < xs.length) : bodiesOk xs = true ∧ 0 ≤ pull ∧ pull ≤ 2560 := by
  cases q : bodiesOk xs && isIn pull 0 2560 with
  | false =>
    exfalso
    simp only [stepOf, q, cond_false, List.length_nil] at hl
    omega
  | true =>
    rw [Bool.and_eq_true] at q
    exact ⟨q.1, in_pull.1 q.2⟩
theorem groupsOf_len {xs : List Body} (h : bodiesOk xs = true) : groupsOf xs = groupsX xs ∧ (groupsX xs).length = xs.length ∧ awakeOf xs = awkF xs xs.length := by
  refine ⟨by simp [groupsOf, h], ?_, by simp [awakeOf, h]⟩
  unfold groupsX
  simp [gen]
end
end Go.Proofs.YtnahfbjdicjdpaaGreat.Sym

namespace Go.Proofs.YtnahfbjdicjdpaaGreat.Sym
open Go
set_option linter.unusedVariables false
set_option linter.unusedSimpArgs false
set_option maxRecDepth 100000
noncomputable section

theorem len0 {xs : List Body} {pull : Int} (hl : (stepOf xs pull).length = xs.length) : xs.length ≤ 12 := by
  have := length_stepOf xs pull
  omega
end
end Go.Proofs.YtnahfbjdicjdpaaGreat.Sym

namespace Go.Proofs.YtnahfbjdicjdpaaGreat.Sym
open Go
set_option linter.unusedVariables false
set_option linter.unusedSimpArgs false
set_option maxRecDepth 100000

end Go.Proofs.YtnahfbjdicjdpaaGreat.Sym

namespace Go.Proofs.YtnahfbjdicjdpaaGreat.Sym
open Go
set_option linter.unusedVariables false
set_option linter.unusedSimpArgs false
set_option maxRecDepth 100000

end Go.Proofs.YtnahfbjdicjdpaaGreat.Sym

namespace Go.Proofs.YtnahfbjdicjdpaaGreat.Sym
open Go
set_option linter.unusedVariables false
set_option linter.unusedSimpArgs false
set_option maxRecDepth 100000
noncomputable section
def beforeC (c d : Contact) : Prop := c.A < d.A ∨ c.A = d.A ∧ c.B < d.B
theorem pw_one {α : Type} {R : α → α → Prop} : ∀ {xs : List α}, xs.length ≤ 1 → xs.Pairwise R
  | [], _ => List.Pairwise.nil
  | [a], _ => by simp
  | a :: b :: t, h => by simp at h
theorem conAt_spec {xs : List Body} {i k : Nat} {c : Contact} (h : c ∈ conAt xs i k) : c.A = i ∧ c.B = k := by
  obtain ⟨e, _⟩ := mem_conAt h
  rw [e]
  exact ⟨rfl, rfl⟩
theorem conRow_mem {xs : List Body} {i : Nat} {c : Contact} : ∀ {m : Nat}, m ≤ xs.length → c ∈ conRow xs i m → c.A = i ∧ ((xs.length - m : Nat) : Int) ≤ c.B
  | 0, _, h => by simp [conRow] at h
  | m + 1, hm, h => by
    rcases List.mem_append.1 h with h | h
    · obtain ⟨a, b⟩ := conAt_spec h
      exact ⟨a, by omega⟩
    · obtain ⟨a, b⟩ := conRow_mem (by omega) h
      exact ⟨a, by omega⟩
theorem conRow_sorted {xs : List Body} {i : Nat} : ∀ {m : Nat}, m ≤ xs.length → (conRow xs i m).Pairwise beforeC
  | 0, _ => List.Pairwise.nil
  | m + 1, hm => by
    show (conAt xs i (xs.length - (m + 1)) ++ conRow xs i m).Pairwise beforeC
    rw [List.pairwise_append]
    refine ⟨pw_one (length_conAt ..), conRow_sorted (by omega), fun c hc d hd => ?_⟩
    obtain ⟨a, b⟩ := conAt_spec hc
    obtain ⟨a2, b2⟩ := conRow_mem (by omega) hd
    exact .inr ⟨by omega, by omega⟩
theorem conAll_mem {xs : List Body} {c : Contact} : ∀ {m : Nat}, m ≤ xs.length → c ∈ conAll xs m → ((xs.length - m : Nat) : Int) ≤ c.A
  | 0, _, h => by simp [conAll] at h
  | m + 1, hm, h => by
    rcases List.mem_append.1 h with h | h
    · have := (conRow_mem (by omega) h).1
      omega
    · have := conAll_mem (by omega) h
      omega
theorem conAll_sorted {xs : List Body} : ∀ {m : Nat}, m ≤ xs.length → (conAll xs m).Pairwise beforeC
  | 0, _ => List.Pairwise.nil
  | m + 1, hm => by
    show (conRow xs (xs.length - (m + 1)) m ++ conAll xs m).Pairwise beforeC
    rw [List.pairwise_append]
    refine ⟨conRow_sorted (by omega), conAll_sorted (by omega), fun c hc d hd => ?_⟩
    have a := (conRow_mem (by omega) hc).1
    have b := conAll_mem (by omega) hd
    exact .inl (by omega)
theorem contacts_sorted (xs : List Body) : (contactsF xs).Pairwise beforeC := conAll_sorted (Nat.le_refl _)
end
end Go.Proofs.YtnahfbjdicjdpaaGreat.Sym

namespace Go.Proofs.YtnahfbjdicjdpaaGreat.Sym
open Go
set_option linter.unusedVariables false
set_option linter.unusedSimpArgs false
set_option maxRecDepth 100000
noncomputable section
theorem conAt_in {xs : List Body} {i k : Nat} (h2 : (touchB (Ty.ix .body xs i) (Ty.ix .body xs k)).2 = true) (h3 : ¬ ((Ty.ix .body xs i).Mass = 0 ∧ (Ty.ix .body xs k).Mass = 0)) : (⟨i, k, (touchB (Ty.ix .body xs i) (Ty.ix .body xs k)).1⟩ : Contact) ∈ conAt xs i k := by
  unfold conAt
  have e : ((Ty.ix .body xs i).Mass == 0 && (Ty.ix .body xs k).Mass == 0) = false := by
    cases q : (Ty.ix .body xs i).Mass == 0 && (Ty.ix .body xs k).Mass == 0 with
    | false => rfl
    | true =>
      rw [Bool.and_eq_true] at q
      exact absurd ⟨eq_of_beq q.1, eq_of_beq q.2⟩ h3
  rw [e, h2]
  simp
theorem conRow_in {xs : List Body} {i k : Nat} {c : Contact} (hc : c ∈ conAt xs i k) : ∀ {m : Nat}, m ≤ xs.length → xs.length - m ≤ k → k < xs.length → c ∈ conRow xs i m
  | 0, _, h1, h2 => by omega
  | m + 1, h0, h1, h2 => by
    show c ∈ conAt xs i (xs.length - (m + 1)) ++ conRow xs i m
    rw [List.mem_append]
    by_cases e : k = xs.length - (m + 1)
    · rw [← e]
      exact .inl hc
    · exact .inr (conRow_in hc (by omega) (by omega) h2)
theorem conAll_in {xs : List Body} {i k : Nat} {c : Contact} (hc : c ∈ conAt xs i k) (hik : i < k) (hk : k < xs.length) : ∀ {m : Nat}, m ≤ xs.length → xs.length - m ≤ i → c ∈ conAll xs m
  | 0, _, h1 => by omega
  | m + 1, h0, h1 => by
    show c ∈ conRow xs (xs.length - (m + 1)) m ++ conAll xs m
    rw [List.mem_append]
    by_cases e : i = xs.length - (m + 1)
    · rw [← e]
      exact .inl (conRow_in hc (by omega) (by omega) hk)
    · exact .inr (conAll_in hc hik hk (by omega) (by omega))
theorem mem_contacts_iff {xs : List Body} {c : Contact} : c ∈ contactsF xs ↔ isCt xs c := by
  refine ⟨mem_contactsF, fun ⟨i, k, h1, h2, h3, h4, h5⟩ => ?_⟩
  rw [h3]
  exact conAll_in (conAt_in h4 h5) h1 h2 (Nat.le_refl _) (by omega)
/-- Lists in the same order with the same members are the same. -/
theorem sorted_eq {α : Type} {R : α → α → Prop} (irr : ∀ a, ¬ R a a) (asy : ∀ {a b}, R a b → ¬ R b a) : ∀ {A B : List α}, A.Pairwise R → B.Pairwise R → (∀ x, x ∈ A ↔ x ∈ B) → A = B
  | [], [], _, _, _ => rfl
  | [], b :: B, _, _, h => absurd ((h b).2 (List.mem_cons_self ..)) (by simp)
  | a :: A, [], _, _, h => absurd ((h a).1 (List.mem_cons_self ..)) (by simp)
  | a :: A, b :: B, ha, hb, h => by
    rw [List.pairwise_cons] at ha hb
    have e : a = b := by
      have h1 := (h a).1 (List.mem_cons_self ..)
      have h2 := (h b).2 (List.mem_cons_self ..)
      rw [List.mem_cons] at h1 h2
      rcases h1 with h1 | h1
      · exact h1
      · rcases h2 with h2 | h2
        · exact h2.symm
        · exact absurd (hb.1 a h1) (asy (ha.1 b h2))
    subst e
    congr 1
    refine sorted_eq irr asy ha.2 hb.2 fun x => ?_
    constructor
    · intro hx
      have := (h x).1 (List.mem_cons_of_mem _ hx)
      rw [List.mem_cons] at this
      rcases this with e | e
      · rw [e] at hx
        exact absurd (ha.1 _ hx) (irr _)
      · exact e
    · intro hx
      have := (h x).2 (List.mem_cons_of_mem _ hx)
      rw [List.mem_cons] at this
      rcases this with e | e
      · rw [e] at hx
        exact absurd (hb.1 _ hx) (irr _)
      · exact e
/-- The bodies ys are those of xs that u picks, in their order; what touches a body of the part from outside touches one that is fixed. -/
structure Part (xs ys : List Body) (u : Nat → Nat) : Prop where
  lt : ∀ e, e < ys.length → u e < xs.length
  mono : ∀ e f, e < f → f < ys.length → u e < u f
  same : ∀ e, e < ys.length → Ty.ix .body ys e = Ty.ix .body xs (u e)
  shut : ∀ a b, a < xs.length → b < xs.length → (∃ h, (⟨a, b, h⟩ : Contact) ∈ contactsF xs ∨ (⟨b, a, h⟩ : Contact) ∈ contactsF xs) → (∃ e, e < ys.length ∧ u e = a) → freeB xs a = true → ∃ f, f < ys.length ∧ u f = b
def inU (n : Nat) (u : Nat → Nat) (a : Nat) : Prop := ∃ e, e < n ∧ u e = a
/-- The numbers of a contact of the part, in the whole. -/
def ren (u : Nat → Nat) (c : Contact) : Contact := ⟨u c.A.toNat, u c.B.toNat, c.Hit⟩
theorem Part.inj {xs ys : List Body} {u : Nat → Nat} (p : Part xs ys u) {e f : Nat} (he : e < ys.length) (hf : f < ys.length) (h : u e = u f) : e = f := by
  rcases Nat.lt_trichotomy e f with q | q | q
  · have := p.mono _ _ q hf
    omega
  · exact q
  · have := p.mono _ _ q he
    omega
def both (n : Nat) (u : Nat → Nat) (c : Contact) : Bool := @decide (inU n u c.A.toNat ∧ inU n u c.B.toNat) (Classical.propDecidable _)
theorem both_iff {n : Nat} {u : Nat → Nat} {c : Contact} : both n u c = true ↔ inU n u c.A.toNat ∧ inU n u c.B.toNat := by
  unfold both
  exact @decide_eq_true_iff _ (Classical.propDecidable _)
theorem Part.ct {xs ys : List Body} {u : Nat → Nat} (p : Part xs ys u) {e f : Nat} (h1 : e < f) (h2 : f < ys.length) : (touchB (Ty.ix .body ys e) (Ty.ix .body ys f)) = touchB (Ty.ix .body xs (u e)) (Ty.ix .body xs (u f)) := by
  rw [p.same e (by omega), p.same f h2]
theorem Part.contacts {xs ys : List Body} {u : Nat → Nat} (p : Part xs ys u) : (contactsF xs).filter (both ys.length u) = (contactsF ys).map (ren u) := by
  refine sorted_eq (R := beforeC) (fun a h => by unfold beforeC at h; omega) (fun h h2 => by unfold beforeC at h h2; omega) ((contacts_sorted xs).filter _) ?_ fun c => ?_
  · rw [List.pairwise_map]
    refine (contacts_sorted ys).imp_of_mem ?_
    intro c d hc hd h
    obtain ⟨a, b, q1, q2, q3, _⟩ := mem_contactsF hc
    obtain ⟨a2, b2, r1, r2, r3, _⟩ := mem_contactsF hd
    rw [q3, r3] at h ⊢
    unfold beforeC ren at *
    dsimp only at *
    simp only [Int.toNat_natCast]
    rcases h with h | ⟨h, h2⟩
    · have := p.mono a a2 (by omega) (by omega)
      exact .inl (by omega)
    · have e : a = a2 := by omega
      have := p.mono b b2 (by omega) (by omega)
      rw [e]
      exact .inr ⟨rfl, by omega⟩
  · rw [List.mem_filter, List.mem_map, mem_contacts_iff, both_iff]
    constructor
    · rintro ⟨⟨i, k, h1, h2, h3, h4, h5⟩, ⟨e, he, ue⟩, f, hf, uf⟩
      rw [h3] at ue uf
      simp only [Int.toNat_natCast] at ue uf
      have hef : e < f := by
        refine Nat.lt_of_not_le fun hle => ?_
        by_cases q : e = f
        · rw [q] at ue
          omega
        · have := p.mono f e (by omega) he
          omega
      refine ⟨⟨e, f, (touchB (Ty.ix .body ys e) (Ty.ix .body ys f)).1⟩, mem_contacts_iff.2 ⟨e, f, hef, hf, rfl, ?_, ?_⟩, ?_⟩
      · rw [p.ct hef hf, ue, uf]
        exact h4
      · rw [p.same e he, p.same f hf, ue, uf]
        exact h5
      · rw [h3]
        unfold ren
        simp only [Int.toNat_natCast]
        rw [p.ct hef hf, ue, uf]
    · rintro ⟨d, hd, hr⟩
      obtain ⟨e, f, h1, h2, h3, h4, h5⟩ := mem_contactsF hd
      rw [← hr, h3]
      unfold ren
      simp only [Int.toNat_natCast]
      refine ⟨⟨u e, u f, p.mono e f h1 h2, p.lt f h2, ?_, ?_, ?_⟩, ⟨e, by omega, rfl⟩, f, h2, rfl⟩
      · rw [p.ct h1 h2]
      · rw [← p.ct h1 h2]
        exact h4
      · rw [← p.same e (by omega), ← p.same f h2]
        exact h5
/-- What is at e in ws is at u e in zs. -/
def Along (n : Nat) (u : Nat → Nat) (zs ws : List Body) : Prop := ws.length = n ∧ ∀ e, e < n → Ty.ix .body ws e = Ty.ix .body zs (u e)
theorem Along.set {n m : Nat} {u : Nat → Nat} {zs ws : List Body} (h : Along n u zs ws) (hz : zs.length = m) (lt : ∀ e, e < n → u e < m) (inj : ∀ e f, e < n → f < n → u e = u f → e = f) {k : Nat} (hk : k < n) (b : Body) : Along n u (zs.set (u k) b) (ws.set k b) := by
  refine ⟨by rw [List.length_set]; exact h.1, fun e he => ?_⟩
  by_cases q : e = k
  · rw [q, ix_set_self (T := .body) (by rw [h.1]; exact hk), ix_set_self (T := .body) (by rw [hz]; exact lt k hk)]
  · rw [ix_set_ne (T := .body) (fun w => q w.symm), ix_set_ne (T := .body) (fun w => q (inj _ _ hk he w).symm)]
    exact h.2 e he
theorem along_pushOne {n m : Nat} {u : Nat → Nat} {zs ws : List Body} (h : Along n u zs ws) (hz : zs.length = m) (lt : ∀ e, e < n → u e < m) (inj : ∀ e f, e < n → f < n → u e = u f → e = f) {d : Contact} {z : Bool} (ha : d.A.toNat < n) (hb : d.B.toNat < n) : Along n u (pushOne zs (ren u d) z) (pushOne ws d z) := by
  unfold pushOne
  have eA : (ren u d).A.toNat = u d.A.toNat := rfl
  have eB : (ren u d).B.toNat = u d.B.toNat := rfl
  have eH : (ren u d).Hit = d.Hit := rfl
  rw [eA, eB, eH, ← h.2 _ ha, ← h.2 _ hb]
  dsimp only
  split
  · exact (h.set hz lt inj ha _).set (by rw [List.length_set]; exact hz) lt inj hb _
  · exact h
theorem along_apartOne {n m : Nat} {u : Nat → Nat} {zs ws : List Body} (h : Along n u zs ws) (hz : zs.length = m) (lt : ∀ e, e < n → u e < m) (inj : ∀ e f, e < n → f < n → u e = u f → e = f) {d : Contact} (ha : d.A.toNat < n) (hb : d.B.toNat < n) : Along n u (apartOne zs (ren u d)) (apartOne ws d) := by
  unfold apartOne
  have eA : (ren u d).A.toNat = u d.A.toNat := rfl
  have eB : (ren u d).B.toNat = u d.B.toNat := rfl
  have eH : (ren u d).Hit = d.Hit := rfl
  rw [eA, eB, eH, ← h.2 _ ha, ← h.2 _ hb]
  dsimp only
  split
  · exact h
  · split <;> split
    · exact h
    · exact h.set hz lt inj ha _
    · exact h.set hz lt inj hb _
    · exact (h.set hz lt inj ha _).set (by rw [List.length_set]; exact hz) lt inj hb _
/-- A contact that goes out of the part touches only what is fixed of it. -/
def Outer (xs : List Body) (n : Nat) (u : Nat → Nat) (c : Contact) : Prop := both n u c = false → ∀ e, e < n → (u e = c.A.toNat ∨ u e = c.B.toNat) → (Ty.ix .body xs (u e)).Mass = 0
theorem Part.along_round {xs ys : List Body} {u : Nat → Nat} (p : Part xs ys u) {z : Bool} : ∀ {cs ds : List Contact} {zs ws : List Body}, Along ys.length u zs ws → Kin xs zs → (∀ c, c ∈ cs → ctOk xs.length c ∧ Outer xs ys.length u c) → cs.filter (both ys.length u) = ds.map (ren u) → (∀ d, d ∈ ds → ctOk ys.length d) → Along ys.length u (pushRound zs z cs) (pushRound ws z ds)
  | [], [], zs, ws, h, _, _, _, _ => h
  | [], d :: ds, zs, ws, _, _, _, e, _ => by simp at e
  | c :: cs, ds, zs, ws, h, k, hc, e, hd => by
    obtain ⟨⟨c1, c2, c3, c4, c5⟩, ho⟩ := hc c (List.mem_cons_self ..)
    have hne : c.A.toNat ≠ c.B.toNat := by omega
    have k2 := k.trans (kin_pushOne (c := c) (z := z) (xs := zs) hne)
    cases q : both ys.length u c with
    | false =>
      rw [List.filter_cons_of_neg (by rw [q]; simp)] at e
      have h2 : Along ys.length u (pushOne zs c z) ws := by
        refine ⟨h.1, fun f hf => ?_⟩
        rw [h.2 f hf]
        by_cases w : u f = c.A.toNat ∨ u f = c.B.toNat
        · have hm := ho q f hf w
          have hlt := p.lt f hf
          exact (pushOne_fix (by rw [← k.1]; exact hlt) hne (by rw [← (k.2 _ hlt).2.2.1]; exact hm)).symm
        · rw [not_or] at w
          exact (pushOne_off w).symm
      exact Part.along_round p (cs := cs) (ds := ds) (zs := pushOne zs c z) (ws := ws) h2 k2 (fun c hc2 => hc c (List.mem_cons_of_mem _ hc2)) e hd
    | true =>
      rw [List.filter_cons_of_pos q] at e
      match ds, e, hd with
      | [], e, _ => simp at e
      | d :: ds, e, hd =>
        rw [List.map_cons] at e
        have e1 : c = ren u d := (List.cons.inj e).1
        have e2 := (List.cons.inj e).2
        obtain ⟨d1, d2, d3, d4, _⟩ := hd d (List.mem_cons_self ..)
        have h2 : Along ys.length u (pushOne zs c z) (pushOne ws d z) := by
          rw [e1]
          exact along_pushOne h k.1.symm p.lt (fun e f he hf w => p.inj he hf w) (by omega) (by omega)
        exact Part.along_round p (cs := cs) (ds := ds) (zs := pushOne zs c z) (ws := pushOne ws d z) h2 k2 (fun c hc2 => hc c (List.mem_cons_of_mem _ hc2)) e2 (fun d hd2 => hd d (List.mem_cons_of_mem _ hd2))
theorem Part.along_apart {xs ys : List Body} {u : Nat → Nat} (p : Part xs ys u) : ∀ {cs ds : List Contact} {zs ws : List Body}, Along ys.length u zs ws → Kin xs zs → (∀ c, c ∈ cs → ctOk xs.length c ∧ Outer xs ys.length u c) → cs.filter (both ys.length u) = ds.map (ren u) → (∀ d, d ∈ ds → ctOk ys.length d) → Along ys.length u (apartF zs cs) (apartF ws ds)
  | [], [], zs, ws, h, _, _, _, _ => h
  | [], d :: ds, zs, ws, _, _, _, e, _ => by simp at e
  | c :: cs, ds, zs, ws, h, k, hc, e, hd => by
    obtain ⟨hc1, ho⟩ := hc c (List.mem_cons_self ..)
    have k2 := k.trans (kin_apartF (cs := [c]) (xs := zs) (by rw [← k.1]; intro c2 h2; rw [List.mem_singleton] at h2; rw [h2]; exact hc1))
    obtain ⟨c1, c2, c3, c4, c5⟩ := hc1
    have hne : c.A.toNat ≠ c.B.toNat := by omega
    cases q : both ys.length u c with
    | false =>
      rw [List.filter_cons_of_neg (by rw [q]; simp)] at e
      have h2 : Along ys.length u (apartOne zs c) ws := by
        refine ⟨h.1, fun f hf => ?_⟩
        rw [h.2 f hf]
        by_cases w : u f = c.A.toNat ∨ u f = c.B.toNat
        · have hm := ho q f hf w
          have hlt := p.lt f hf
          exact (apartOne_fix (by rw [← k.1]; exact hlt) hne (by rw [← (k.2 _ hlt).2.2.1]; exact hm)).symm
        · rw [not_or] at w
          exact (apartOne_off w).symm
      exact Part.along_apart p (cs := cs) (ds := ds) (zs := apartOne zs c) (ws := ws) h2 k2 (fun c hc2 => hc c (List.mem_cons_of_mem _ hc2)) e hd
    | true =>
      rw [List.filter_cons_of_pos q] at e
      match ds, e, hd with
      | [], e, _ => simp at e
      | d :: ds, e, hd =>
        rw [List.map_cons] at e
        have e1 : c = ren u d := (List.cons.inj e).1
        have e2 := (List.cons.inj e).2
        obtain ⟨d1, d2, d3, d4, _⟩ := hd d (List.mem_cons_self ..)
        have h2 : Along ys.length u (apartOne zs c) (apartOne ws d) := by
          rw [e1]
          exact along_apartOne h k.1.symm p.lt (fun e f he hf w => p.inj he hf w) (by omega) (by omega)
        exact Part.along_apart p (cs := cs) (ds := ds) (zs := apartOne zs c) (ws := apartOne ws d) h2 k2 (fun c hc2 => hc c (List.mem_cons_of_mem _ hc2)) e2 (fun d hd2 => hd d (List.mem_cons_of_mem _ hd2))
theorem along_mapX {n : Nat} {u : Nat → Nat} {zs ws : List Body} {f g : Nat → Body → Body} (h : Along n u zs ws) (lt : ∀ e, e < n → u e < zs.length) (hf : ∀ e, e < n → g e (Ty.ix .body ws e) = f (u e) (Ty.ix .body ws e)) : Along n u (mapX f zs) (mapX g ws) := by
  refine ⟨by unfold mapX; simp [gen, h.1], fun e he => ?_⟩
  rw [ix_mapX (by rw [h.1]; exact he), ix_mapX (lt e he), hf e he, h.2 e he]
theorem Part.free {xs ys : List Body} {u : Nat → Nat} (p : Part xs ys u) {e : Nat} (he : e < ys.length) : freeB ys e = freeB xs (u e) := by
  unfold freeB
  rw [p.same e he]
theorem Part.edge {xs ys : List Body} {u : Nat → Nat} (p : Part xs ys u) {e f : Nat} (h : (e, f) ∈ edgesX ys) : (u e, u f) ∈ edgesX xs := by
  obtain ⟨c, h1, h2, h3, h4, h5, h6⟩ := of_edges h
  have hm : ren u c ∈ (contactsF xs).filter (both ys.length u) := by
    rw [p.contacts]
    exact List.mem_map.2 ⟨c, h1, rfl⟩
  have hm := (List.mem_filter.1 hm).1
  have eA : c.A.toNat = e := congrArg Prod.fst h2
  have eB : c.B.toNat = f := congrArg Prod.snd h2
  have := mem_edges hm (by show freeB xs (u c.A.toNat) = true; rw [eA, ← p.free h5]; exact h3) (by show freeB xs (u c.B.toNat) = true; rw [eB, ← p.free h6]; exact h4)
  rwa [show edgeC (ren u c) = (u e, u f) by unfold edgeC ren; dsimp only; rw [eA, eB]; rfl] at this
theorem Part.edge_back {xs ys : List Body} {u : Nat → Nat} (p : Part xs ys u) {e f : Nat} (he : e < ys.length) (hf : f < ys.length) (h : (u e, u f) ∈ edgesX xs) : (e, f) ∈ edgesX ys := by
  obtain ⟨c, h1, h2, h3, h4, h5, h6⟩ := of_edges h
  have eA : c.A.toNat = u e := congrArg Prod.fst h2
  have eB : c.B.toNat = u f := congrArg Prod.snd h2
  have hm : c ∈ (contactsF xs).filter (both ys.length u) := List.mem_filter.2 ⟨h1, both_iff.2 ⟨⟨e, he, eA.symm⟩, f, hf, eB.symm⟩⟩
  rw [p.contacts] at hm
  obtain ⟨d, d1, d2⟩ := List.mem_map.1 hm
  obtain ⟨a, b, q1, q2, q3, _⟩ := mem_contactsF d1
  have dA : d.A.toNat = a := by rw [q3]; rfl
  have dB : d.B.toNat = b := by rw [q3]; rfl
  have e1 : a = e := p.inj (by omega) he (by rw [← eA, ← d2, ← dA]; rfl)
  have e2 : b = f := p.inj q2 hf (by rw [← eB, ← d2, ← dB]; rfl)
  have := mem_edges d1 (by rw [dA, e1, p.free he]; exact h3) (by rw [dB, e2, p.free hf]; exact h4)
  rwa [show edgeC d = (e, f) by unfold edgeC; rw [dA, dB, e1, e2]] at this
theorem Part.edge_in {xs ys : List Body} {u : Nat → Nat} (p : Part xs ys u) {a b : Nat} (h : (a, b) ∈ edgesX xs) : inU ys.length u a ↔ inU ys.length u b := by
  obtain ⟨c, h1, h2, h3, h4, h5, h6⟩ := of_edges h
  have h3 : freeB xs a = true := h3
  have h4 : freeB xs b = true := h4
  have h5 : a < xs.length := h5
  have h6 : b < xs.length := h6
  obtain ⟨i, k, q1, q2, q3, _⟩ := mem_contactsF h1
  have eA : c.A.toNat = a := congrArg Prod.fst h2
  have eB : c.B.toNat = b := congrArg Prod.snd h2
  have e1 : i = a := by rw [q3] at eA; exact eA
  have e2 : k = b := by rw [q3] at eB; exact eB
  rw [q3, e1, e2] at h1
  exact ⟨fun hi => p.shut a b h5 h6 ⟨_, .inl h1⟩ hi h3, fun hi => p.shut b a h6 h5 ⟨_, .inr h1⟩ hi h4⟩
theorem Part.cm {xs ys : List Body} {u : Nat → Nat} (p : Part xs ys u) {e f : Nat} (he : e < ys.length) (hf : f < ys.length) : cmX ys e = cmX ys f ↔ cmX xs (u e) = cmX xs (u f) := by
  unfold cmX
  rw [← Grp.conn_iff, ← Grp.conn_iff]
  constructor
  · intro h C hC hi
    refine h (fun g => C (u g)) (fun x hx => ?_) hi
    exact hC _ (p.edge (e := x.1) (f := x.2) hx)
  · intro h C hC hi
    obtain ⟨g, hg, q, r⟩ := h (fun a => ∃ g, g < ys.length ∧ u g = a ∧ C g) (fun x hx => by
      obtain ⟨a, b⟩ := x
      constructor
      · rintro ⟨g, hg, q, r⟩
        obtain ⟨f, hf, w⟩ := (p.edge_in hx).1 ⟨g, hg, q⟩
        refine ⟨f, hf, w, ?_⟩
        exact (hC (g, f) (p.edge_back hg hf (by rw [q, w]; exact hx))).1 r
      · rintro ⟨g, hg, q, r⟩
        obtain ⟨f, hf, w⟩ := (p.edge_in hx).2 ⟨g, hg, q⟩
        refine ⟨f, hf, w, ?_⟩
        exact (hC (f, g) (p.edge_back hf hg (by rw [q, w]; exact hx))).2 r) ⟨e, he, rfl, hi⟩
    rw [p.inj hg hf q] at r
    exact r
theorem Part.mem {xs ys : List Body} {u : Nat → Nat} (p : Part xs ys u) {e a : Nat} (he : e < ys.length) (h : cmX xs (u e) = cmX xs a) : inU ys.length u a := by
  have h : Grp.conn (edgesX xs) (u e) a := Grp.conn_iff.2 h
  exact h (inU ys.length u) (fun x hx => p.edge_in (a := x.1) (b := x.2) hx) ⟨e, he, rfl⟩
theorem group_iff {xs : List Body} {j k : Nat} (hj : j < xs.length) (hk : k < xs.length) (fk : freeB xs k = true) : gi (groupsX xs) j = gi (groupsX xs) k ↔ freeB xs j = true ∧ cmX xs j = cmX xs k := by
  rw [group_of_free hk fk]
  constructor
  · intro h
    have fj := group_free hj (by rw [h]; exact Int.natCast_nonneg _)
    rw [group_of_free hj fj] at h
    exact ⟨fj, Grp.num_inj (lead_cm fj) (lead_cm fk) (Int.ofNat.inj h)⟩
  · rintro ⟨fj, h⟩
    rw [group_of_free hj fj, h]
theorem Part.awake {xs ys : List Body} {u : Nat → Nat} (p : Part xs ys u) {e : Nat} (he : e < ys.length) (f : freeB ys e = true) : Ty.ix .bool (awkF ys ys.length) (gi (groupsX ys) e).toNat = Ty.ix .bool (awkF xs xs.length) (gi (groupsX xs) (u e)).toNat := by
  have f2 : freeB xs (u e) = true := by rw [← p.free he]; exact f
  have h1 := group_awake he (by rw [group_of_free he f]; exact Int.natCast_nonneg _)
  have h2 := group_awake (p.lt e he) (by rw [group_of_free (p.lt e he) f2]; exact Int.natCast_nonneg _)
  rw [Bool.eq_iff_iff]
  refine h1.trans (Iff.trans ?_ h2.symm)
  constructor
  · rintro ⟨j, hj, fj, cj, qj⟩
    exact ⟨u j, p.lt j hj, by rw [← p.free hj]; exact fj, (p.cm hj he).1 cj, by rw [← p.same j hj]; exact qj⟩
  · rintro ⟨a, ha, fa, ca, qa⟩
    obtain ⟨j, hj, rfl⟩ := p.mem he ca.symm
    exact ⟨j, hj, by rw [p.free hj]; exact fa, (p.cm hj he).2 ca, by rw [p.same j hj]; exact qa⟩
theorem Part.woken {xs ys : List Body} {u : Nat → Nat} (p : Part xs ys u) (hy : bodiesOk ys = true) : Along ys.length u (wokenF xs) (wokenF ys) := by
  refine along_mapX ⟨rfl, p.same⟩ p.lt fun e he => ?_
  unfold wakeS
  cases f : freeB ys e with
  | true => rw [p.awake he f]
  | false =>
    have q0 := fix_quiet (bodiesOk_each hy he) (by simpa [freeB] using f)
    rw [q0]
    rfl
theorem Part.pulled {xs ys : List Body} {u : Nat → Nat} (p : Part xs ys u) (hy : bodiesOk ys = true) (pull : Int) : Along ys.length u (pulledF xs pull) (pulledF ys pull) :=
  along_mapX (p.woken hy) (fun e he => by rw [length_wokenF]; exact p.lt e he) fun _ _ => rfl
theorem Part.live {xs ys : List Body} {u : Nat → Nat} (p : Part xs ys u) (hy : bodiesOk ys = true) (pull : Int) : (liveX xs pull).filter (both ys.length u) = (liveX ys pull).map (ren u) := by
  unfold liveX liveF
  rw [List.filter_filter, show (fun a => both ys.length u a && (moves (Ty.ix .body (pulledF xs pull) a.A.toNat) || moves (Ty.ix .body (pulledF xs pull) a.B.toNat))) = (fun a => (moves (Ty.ix .body (pulledF xs pull) a.A.toNat) || moves (Ty.ix .body (pulledF xs pull) a.B.toNat)) && both ys.length u a) from funext fun a => Bool.and_comm _ _, ← List.filter_filter, p.contacts, List.filter_map]
  congr 1
  refine List.filter_congr fun d hd => ?_
  obtain ⟨a, b, q1, q2, q3, _⟩ := mem_contactsF hd
  have hp := p.pulled hy pull
  have dA : d.A.toNat = a := by rw [q3]; rfl
  have dB : d.B.toNat = b := by rw [q3]; rfl
  show (moves (Ty.ix .body (pulledF xs pull) (u d.A.toNat)) || moves (Ty.ix .body (pulledF xs pull) (u d.B.toNat))) = _
  rw [dA, dB, hp.2 a (by omega), hp.2 b q2]
theorem Part.outer {xs ys : List Body} {u : Nat → Nat} (p : Part xs ys u) {c : Contact} (h : c ∈ contactsF xs) : Outer xs ys.length u c := by
  intro hb e he w
  obtain ⟨a, b, q1, q2, q3, _⟩ := mem_contactsF h
  have cA : c.A.toNat = a := by rw [q3]; rfl
  have cB : c.B.toNat = b := by rw [q3]; rfl
  have no : ∀ {g}, freeB xs g = false → (Ty.ix .body xs g).Mass = 0 := fun {g} z => by simpa [freeB] using z
  rw [q3] at h
  cases f : freeB xs (u e) with
  | false => exact no f
  | true =>
    exfalso
    have : both ys.length u c = true := by
      rw [both_iff, cA, cB]
      rcases w with w | w
      · have w : u e = a := w.trans cA
        have ha : inU ys.length u a := ⟨e, he, w⟩
        exact ⟨ha, p.shut a b (by omega) q2 ⟨_, .inl h⟩ ha (by rw [← w]; exact f)⟩
      · have w : u e = b := w.trans cB
        have hb : inU ys.length u b := ⟨e, he, w⟩
        exact ⟨p.shut b a q2 (by omega) ⟨_, .inr h⟩ hb (by rw [← w]; exact f), hb⟩
    rw [hb] at this
    cases this
theorem Part.pushed {xs ys : List Body} {u : Nat → Nat} (p : Part xs ys u) (hx : bodiesOk xs = true) (hy : bodiesOk ys = true) (pull : Int) : Along ys.length u (pushAllF (pulledF xs pull) (liveX xs pull)) (pushAllF (pulledF ys pull) (liveX ys pull)) := by
  have lx := bodiesOk_len hx
  have ly := bodiesOk_len hy
  have hc : ∀ c, c ∈ liveX xs pull → ctOk xs.length c ∧ Outer xs ys.length u c := fun c h => ⟨live_mem lx c h, p.outer (live_sub h).1⟩
  have hd : ∀ d, d ∈ liveX ys pull → ctOk ys.length d := live_mem ly
  have e := p.live hy pull
  have kr : ∀ {zs : List Body} {z : Bool}, Kin xs zs → Kin xs (pushRound zs z (liveX xs pull)) := fun {zs z} k => k.trans (kin_pushRound (by rw [← k.1]; exact live_mem lx))
  have k0 := kin_pulledF (pull := pull) xs
  have k1 := kr (z := true) k0
  have k2 := kr (z := false) k1
  have k3 := kr (z := false) k2
  unfold pushAllF
  exact p.along_round (p.along_round (p.along_round (p.along_round (p.pulled hy pull) k0 hc e hd) k1 hc e hd) k2 hc e hd) k3 hc e hd
theorem Part.quiet {xs ys : List Body} {u : Nat → Nat} (p : Part xs ys u) (hx : bodiesOk xs = true) (hy : bodiesOk ys = true) (pull : Int) : Along ys.length u (quietX xs pull) (quietX ys pull) := by
  have lx := bodiesOk_len hx
  have ly := bodiesOk_len hy
  have h1 : Along ys.length u (movedF xs pull) (movedF ys pull) := along_mapX (p.pushed hx hy pull) (fun e he => by rw [length_pushAllF, length_pulledF]; exact p.lt e he) fun _ _ => rfl
  have h2 : Along ys.length u (apartX xs pull) (apartX ys pull) := p.along_apart h1 (kin_movedF lx pull) (fun c h => ⟨live_mem lx c h, p.outer (live_sub h).1⟩) (p.live hy pull) (live_mem ly)
  refine along_mapX h2 (fun e he => by rw [length_apartX]; exact p.lt e he) fun e he => ?_
  unfold quietS
  rw [(p.woken hy).2 e he]
/-- A step of the part is the part of a step. -/
theorem Part.step {xs ys : List Body} {u : Nat → Nat} (p : Part xs ys u) (hx : bodiesOk xs = true) (hy : bodiesOk ys = true) (pull : Int) {e : Nat} (he : e < ys.length) : Ty.ix .body (stepF ys pull) e = Ty.ix .body (stepF xs pull) (u e) := by
  have hq := p.quiet hx hy pull
  have hu := p.lt e he
  rw [ix_stepF he, ix_stepF hu, hq.2 e he]
  cases f : freeB ys e with
  | false =>
    have f2 : freeB xs (u e) = false := by rw [← p.free he]; exact f
    rw [group_fixed he f, group_fixed hu f2]
    rfl
  | true =>
    have f2 : freeB xs (u e) = true := by rw [← p.free he]; exact f
    have d1 : decide (0 ≤ gi (groupsX ys) e) = true := by rw [group_of_free he f]; exact decide_eq_true (Int.natCast_nonneg _)
    have d2 : decide (0 ≤ gi (groupsX xs) (u e)) = true := by rw [group_of_free hu f2]; exact decide_eq_true (Int.natCast_nonneg _)
    have st : stillG (quietX ys pull) (groupsX ys) (gi (groupsX ys) e) ys.length = stillG (quietX xs pull) (groupsX xs) (gi (groupsX xs) (u e)) xs.length := by
      rw [Bool.eq_iff_iff]
      unfold stillG
      rw [allTo_iff, allTo_iff]
      constructor
      · intro h a ha
        rw [Bool.or_eq_true, Bool.not_eq_true', beq_eq_false_iff_ne]
        by_cases g : gi (groupsX xs) a = gi (groupsX xs) (u e)
        · obtain ⟨fa, ca⟩ := (group_iff ha hu f2).1 g
          obtain ⟨j, hj, rfl⟩ := p.mem he ca.symm
          have gj : gi (groupsX ys) j = gi (groupsX ys) e := (group_iff hj he f).2 ⟨by rw [p.free hj]; exact fa, (p.cm hj he).2 ca⟩
          have := h j hj
          rw [Bool.or_eq_true, Bool.not_eq_true', beq_eq_false_iff_ne, hq.2 j hj] at this
          exact .inr (this.resolve_left fun z => z gj)
        · exact .inl g
      · intro h j hj
        rw [Bool.or_eq_true, Bool.not_eq_true', beq_eq_false_iff_ne]
        by_cases g : gi (groupsX ys) j = gi (groupsX ys) e
        · obtain ⟨fj, cj⟩ := (group_iff hj he f).1 g
          have gj : gi (groupsX xs) (u j) = gi (groupsX xs) (u e) := (group_iff (p.lt j hj) hu f2).2 ⟨by rw [← p.free hj]; exact fj, (p.cm hj he).1 cj⟩
          have := h (u j) (p.lt j hj)
          rw [Bool.or_eq_true, Bool.not_eq_true', beq_eq_false_iff_ne, ← hq.2 j hj] at this
          exact .inr (this.resolve_left fun z => z gj)
        · exact .inl g
    rw [d1, d2, p.awake he f, st]
end
end Go.Proofs.YtnahfbjdicjdpaaGreat.Sym

namespace Go.Proofs.YtnahfbjdicjdpaaGreat.Sym
open Go
set_option linter.unusedVariables false
set_option linter.unusedSimpArgs false
set_option maxRecDepth 100000
noncomputable section
def inG (gs : List Int) (k : Int) (i : Nat) : Bool := gi gs i == k || decide (gi gs i < 0)
/-- Who of the first is of group k or fixed. -/
def idxP (gs : List Int) (k : Int) : Nat → List Nat
  | 0 => []
  | i + 1 => idxP gs k i ++ (bif inG gs k i then [i] else [])
theorem mem_idxP {gs : List Int} {k : Int} {a : Nat} : ∀ {n : Nat}, a ∈ idxP gs k n ↔ a < n ∧ inG gs k a = true
  | 0 => by simp [idxP]
  | n + 1 => by
    rw [idxP, List.mem_append, mem_idxP (n := n)]
    cases h : inG gs k n with
    | false =>
      simp only [cond_false, List.not_mem_nil, or_false]
      constructor
      · rintro ⟨q1, q2⟩
        exact ⟨by omega, q2⟩
      · rintro ⟨q1, q2⟩
        refine ⟨?_, q2⟩
        by_cases e : a = n
        · rw [e, h] at q2
          cases q2
        · omega
    | true =>
      simp only [cond_true, List.mem_singleton]
      constructor
      · rintro (⟨q1, q2⟩ | rfl)
        · exact ⟨by omega, q2⟩
        · exact ⟨by omega, h⟩
      · rintro ⟨q1, q2⟩
        by_cases e : a = n
        · exact .inr e
        · exact .inl ⟨by omega, q2⟩
theorem idxP_sorted {gs : List Int} {k : Int} : ∀ (n : Nat), (idxP gs k n).Pairwise (· < ·)
  | 0 => List.Pairwise.nil
  | n + 1 => by
    rw [idxP, List.pairwise_append]
    refine ⟨idxP_sorted n, ?_, fun a ha b hb => ?_⟩
    · cases inG gs k n <;> simp
    · have h1 := (mem_idxP.1 ha).1
      cases h : inG gs k n with
      | false => simp [h] at hb
      | true =>
        simp only [h, cond_true, List.mem_singleton] at hb
        omega
theorem length_idxP (gs : List Int) (k : Int) : ∀ n, (idxP gs k n).length ≤ n
  | 0 => by simp [idxP]
  | n + 1 => by
    have := length_idxP gs k n
    rw [idxP, List.length_append]
    cases inG gs k n <;> simp <;> omega
def partF (xs : List Body) (gs : List Int) (k : Int) (n : Nat) : List Body := (idxP gs k n).map (Ty.ix .body xs)
theorem partF_succ (xs : List Body) (gs : List Int) (k : Int) (n : Nat) : partF xs gs k (n + 1) = partF xs gs k n ++ (bif inG gs k n then [Ty.ix .body xs n] else []) := by
  unfold partF
  rw [idxP, List.map_append]
  cases inG gs k n <;> rfl
theorem length_partF (xs : List Body) (gs : List Int) (k : Int) (n : Nat) : (partF xs gs k n).length ≤ n := by
  unfold partF
  rw [List.length_map]
  exact length_idxP ..
def upP (gs : List Int) (k : Int) (n e : Nat) : Nat := (idxP gs k n).getD e 0
theorem upP_at {gs : List Int} {k : Int} {n e : Nat} (h : e < (idxP gs k n).length) : upP gs k n e = (idxP gs k n)[e] := by
  unfold upP
  rw [List.getD_eq_getElem?_getD, List.getElem?_eq_getElem h]
  rfl
theorem part_group {xs : List Body} (hok : bodiesOk xs = true) {k : Int} (k0 : 0 ≤ k) : Part xs (partF xs (groupsX xs) k xs.length) (upP (groupsX xs) k xs.length) := by
  have hl : (partF xs (groupsX xs) k xs.length).length = (idxP (groupsX xs) k xs.length).length := List.length_map ..
  have mem : ∀ {e}, e < (idxP (groupsX xs) k xs.length).length → upP (groupsX xs) k xs.length e ∈ idxP (groupsX xs) k xs.length := fun {e} h => by
    rw [upP_at h]
    exact List.getElem_mem h
  have back : ∀ {a}, a < xs.length → inG (groupsX xs) k a = true → ∃ e, e < (partF xs (groupsX xs) k xs.length).length ∧ upP (groupsX xs) k xs.length e = a := fun {a} ha h => by
    obtain ⟨e, he, q⟩ := List.getElem_of_mem (mem_idxP.2 ⟨ha, h⟩)
    exact ⟨e, by omega, by rw [upP_at he, q]⟩
  refine ⟨fun e he => (mem_idxP.1 (mem (by omega))).1, fun e f hef hf => ?_, fun e he => ?_, fun a b ha hb hc hi fa => ?_⟩
  · rw [upP_at (by omega), upP_at (by omega)]
    exact List.pairwise_iff_getElem.1 (idxP_sorted xs.length) e f _ _ hef
  · apply ix_eq (T := .body)
    unfold partF
    rw [List.getElem?_map, List.getElem?_eq_getElem (show e < (idxP (groupsX xs) k xs.length).length by omega), ← upP_at (show e < (idxP (groupsX xs) k xs.length).length by omega)]
    rfl
  · obtain ⟨e, he, rfl⟩ := hi
    have ia := (mem_idxP.1 (mem (show e < (idxP (groupsX xs) k xs.length).length by omega))).2
    generalize upP (groupsX xs) k xs.length e = a at *
    have ga := group_of_free ha fa
    have gk : gi (groupsX xs) a = k := by
      unfold inG at ia
      rw [Bool.or_eq_true] at ia
      rcases ia with q | q
      · exact eq_of_beq q
      · have := of_decide_eq_true q
        omega
    refine back hb ?_
    cases fb : freeB xs b with
    | false =>
      unfold inG
      rw [group_fixed hb fb]
      simp
    | true =>
      have hcm : cmX xs b = cmX xs a := by
        obtain ⟨h, hc | hc⟩ := hc
        · exact (Grp.cm_eq (Grp.conn_edge (mem_edges hc fa fb))).symm
        · exact Grp.cm_eq (Grp.conn_edge (mem_edges hc fb fa))
      have := (group_iff hb ha fa).2 ⟨fb, hcm⟩
      unfold inG
      rw [this, gk, beq_self_eq_true, Bool.true_or]
theorem Part.ok {xs ys : List Body} {u : Nat → Nat} (p : Part xs ys u) (hx : bodiesOk xs = true) (hl : ys.length ≤ 12) : bodiesOk ys = true := by
  refine bodiesOk_iff.2 ⟨hl, fun e he => ?_, fun e he => ?_⟩
  · rw [p.same e he]
    exact bodiesOk_each hx (p.lt e he)
  · rw [p.same e (by omega), p.same (e + 1) he]
    exact bodies_lt hx (p.mono e (e + 1) (by omega) he) (p.lt _ he)
/-- Each body behind a step of a group is one behind the step of all. -/
theorem step_group {xs : List Body} {pull k : Int} (hok : bodiesOk xs = true) (p0 : 0 ≤ pull) (p1 : pull ≤ 2560) (k0 : 0 ≤ k) : ∃ ys, stepOf (partF xs (groupsX xs) k xs.length) pull = ys ∧ ys.length ≤ 12 ∧ ∀ e, e < ys.length → ∃ a, a < (stepF xs pull).length ∧ Ty.ix .body ys e = Ty.ix .body (stepF xs pull) a := by
  have p := part_group hok k0
  have hl := bodiesOk_len hok
  have hl2 := length_partF xs (groupsX xs) k xs.length
  have hy := p.ok hok (by omega)
  refine ⟨_, rfl, length_stepOf _ _, fun e he => ?_⟩
  rw [stepOf_ok hy p0 p1] at he ⊢
  rw [length_stepF] at he
  exact ⟨_, by rw [length_stepF]; exact p.lt e he, p.step hok hy pull he⟩
end
end Go.Proofs.YtnahfbjdicjdpaaGreat.Sym

namespace Go.Proofs.YtnahfbjdicjdpaaGreat.Sym
open Go
set_option linter.unusedVariables false
set_option linter.unusedSimpArgs false
set_option maxRecDepth 100000
noncomputable section
def groupOfF (xs : List Body) (k : Int) : List Body := bif decide (k < 0) then [] else partF xs (groupsOf xs) k (groupsOf xs).length
theorem groupsOf_le (xs : List Body) : (groupsOf xs).length ≤ xs.length := by
  unfold groupsOf
  cases bodiesOk xs with
  | false => simp
  | true =>
    simp only [cond_true, groupsX]
    simp [gen]
theorem length_groupOfF (xs : List Body) (k : Int) : (groupOfF xs k).length ≤ xs.length := by
  have h1 := length_partF xs (groupsOf xs) k (groupsOf xs).length
  have h2 := groupsOf_le xs
  unfold groupOfF
  cases decide (k < 0)
  · simp only [cond_false]
    omega
  · simp
def LSgof  : LS where
  S := List Body × Unit × Int × List Body × List Int × Int × Int
  live := [(0, [none]), (1, [none]), (5, [some .body]), (11, [some .int]), (12, [none]), (13, [none])]
  shape := fun s => ([.vec 0, .int .i64 s.2.2.1, .vec 1, .vec 2, .int .i64 s.2.2.2.2.2.1, .int .i64 s.2.2.2.2.2.2], [(false, .vec .body s.1), (true, .vec .body s.2.2.2.1), (true, .vec .int s.2.2.2.2.1)])
  get := fun v h => match v, h with
    | [.vec 0, .int .i64 g, .vec 1, .vec 2, .int .i64 n, .int .i64 i], [(false, .vec .body xs), (true, .vec .body out), (true, .vec .int gs)] => some (xs, (), g, out, gs, n, i)
    | _, _ => none
  inv := fun s0 s => Holds (s.1 = s0.1 ∧ s.2.2.1 = s0.2.2.1 ∧ s.2.2.2.2.1 = s0.2.2.2.2.1 ∧ s.2.2.2.2.2.1 = s0.2.2.2.2.1.length ∧ 0 ≤ s.2.2.2.2.2.2 ∧ s.2.2.2.2.2.2 ≤ s0.2.2.2.2.1.length ∧ s.2.2.2.1 = partF s0.1 s0.2.2.2.2.1 s0.2.2.1 s.2.2.2.2.2.2.toNat)
  mu := fun s => (s.2.2.2.2.2.1 - s.2.2.2.2.2.2).toNat
  ok := by
    intro v h s hg
    try dsimp only at hg
    split at hg <;> cases hg
    rfl

def L_gof : Loops := fun n => match n with
  | 5 => some LSgof
  | _ => none
noncomputable def fs_implGroupOf : Fs := ⟨[], fun args H => match args, H with
  | [.vec 0, .int .i64 k], [(false, .vec .body xs)] => some ((some (xs.length ≤ 1048576)), .vec 1, [(false, .vec .body xs), (true, .vec .body (groupOfF xs k))])
  | _, _ => none⟩

theorem vc_implGroupOf (xs : List Body) (k : Int) (Q : SV → List Ent → Prop) :
    fnVC tt (look [(19, fs_implGroups)]) (L_gof) Tryz.f46 [.vec 0, .int .i64 k] [(false, .vec .body xs)] Q =
    (let w_ := IntKind.wrap IntKind.i64; let n_ := Int.toNat; ifB (decide (k < (0 : Int))) (Q (SV.vec (1 : Nat)) [(false, Blk.vec Ty.body xs), (true, Blk.vec Ty.body [])]) (List.length xs ≤ (1048576 : Nat) ∧ Holds (xs = xs ∧ k = k ∧ groupsOf xs = groupsOf xs ∧ (↑(List.length (groupsOf xs)) : Int) = (↑(List.length (groupsOf xs)) : Int) ∧ (0 : Int) ≤ (0 : Int) ∧ (0 : Int) ≤ (↑(List.length (groupsOf xs)) : Int) ∧ [] = partF xs (groupsOf xs) k (n_ (0 : Int))) ∧ ∀ (y1 : List Body × Unit × Int × List Body × List Int × Int × Int), let y1f0_ := Prod.fst y1; let y1s1_ := Prod.snd y1; let y1f2_ := Prod.fst (Prod.snd (Prod.snd y1)); let y1f3_ := Prod.fst (Prod.snd (Prod.snd (Prod.snd y1))); let y1f4_ := Prod.fst (Prod.snd (Prod.snd (Prod.snd (Prod.snd y1)))); let y1s5_ := Prod.snd (Prod.snd (Prod.snd (Prod.snd (Prod.snd y1)))); let y1f5_ := Prod.fst (Prod.snd (Prod.snd (Prod.snd (Prod.snd (Prod.snd y1))))); let y1s6_ := Prod.snd (Prod.snd (Prod.snd (Prod.snd (Prod.snd (Prod.snd y1))))); let A3_ := (↑(List.length (groupsOf xs)) : Int); let A2_ := (Prod.snd y1s5_ + (1 : Int)); Holds (Prod.fst y1 = xs ∧ y1f2_ = k ∧ y1f4_ = groupsOf xs ∧ y1f5_ = A3_ ∧ (0 : Int) ≤ y1s6_ ∧ y1s6_ ≤ A3_ ∧ y1f3_ = partF xs (groupsOf xs) k (n_ y1s6_)) → ifB (decide (Prod.snd y1s5_ < y1f5_)) (((0 : Int) ≤ y1s6_ ∧ y1s6_ < (↑(List.length y1f4_) : Int)) ∧ ifB (Ty.ix Ty.int y1f4_ (n_ y1s6_) == y1f2_) (((0 : Int) ≤ y1s6_ ∧ y1s6_ < (↑(List.length y1f0_) : Int)) ∧ (List.length y1f3_ + List.length [Ty.ix Ty.body y1f0_ (n_ y1s6_)]) * (96 : Nat) ≤ room ∧ Holds (Prod.fst y1 = xs ∧ y1f2_ = k ∧ y1f4_ = groupsOf xs ∧ y1f5_ = A3_ ∧ (0 : Int) ≤ w_ A2_ ∧ w_ A2_ ≤ A3_ ∧ y1f3_ ++ [Ty.ix Ty.body y1f0_ (n_ y1s6_)] = partF xs (groupsOf xs) k (n_ (w_ A2_))) ∧ n_ (Prod.fst y1s5_ - w_ A2_) < n_ (Prod.fst y1s5_ - y1s6_)) (ifB (decide (Ty.ix Ty.int y1f4_ (n_ y1s6_) < (0 : Int))) (((0 : Int) ≤ y1s6_ ∧ y1s6_ < (↑(List.length y1f0_) : Int)) ∧ (List.length y1f3_ + List.length [Ty.ix Ty.body y1f0_ (n_ y1s6_)]) * (96 : Nat) ≤ room ∧ Holds (Prod.fst y1 = xs ∧ y1f2_ = k ∧ y1f4_ = groupsOf xs ∧ y1f5_ = A3_ ∧ (0 : Int) ≤ w_ A2_ ∧ w_ A2_ ≤ A3_ ∧ y1f3_ ++ [Ty.ix Ty.body y1f0_ (n_ y1s6_)] = partF xs (groupsOf xs) k (n_ (w_ A2_))) ∧ n_ (Prod.fst y1s5_ - w_ A2_) < n_ (Prod.fst y1s5_ - y1s6_)) (Holds (Prod.fst y1 = xs ∧ y1f2_ = k ∧ y1f4_ = groupsOf xs ∧ y1f5_ = A3_ ∧ (0 : Int) ≤ w_ A2_ ∧ w_ A2_ ≤ A3_ ∧ y1f3_ = partF xs (groupsOf xs) k (n_ (w_ A2_))) ∧ n_ (Prod.fst y1s5_ - w_ A2_) < n_ (Prod.fst y1s5_ - y1s6_)))) (Q (SV.vec (1 : Nat)) [(false, Blk.vec Ty.body y1f0_), (true, Blk.vec Ty.body y1f3_)]))) := by kernel_rfl

theorem ok_implGroupOf : FsOk Tryz.prog 46 fs_implGroupOf := fsOk_of tt_ok (tabFs_cons ok_implGroups tabFs_nil) mixed Tryz.func46 (by kernel_rfl) (by kernel_rfl) (by
    intro args LL p r HH h hp
    unfold fs_implGroupOf at h
    dsimp only at h
    split at h
    case h_2 => cases h
    rename_i k xs
    simp only [Option.some.injEq, Prod.mk.injEq] at h
    obtain ⟨rfl, rfl, rfl⟩ := h
    refine ⟨by simp [Form, stays], (L_gof), ?_⟩
    rw [vc_implGroupOf]
    try dsimp only
    have hb := hp _ rfl
    have hgl := groupsOf_le xs
    refine ifB_of (fun c => ?_) (fun c => ?_)
    · simp only [groupOfF, c, cond_true]
      exact ⟨(by trivial), (by trivial)⟩
    refine ⟨hb, ⟨(by trivial), (by trivial), (by trivial), (by trivial), by omega, by omega, rfl⟩, ?_⟩
    rintro ⟨xs', u, g, out, gs, n, i⟩ ⟨h⟩
    dsimp only at h ⊢
    obtain ⟨rfl, rfl, rfl, rfl, i0, i1, rfl⟩ := h
    refine ifB_of (fun d => ?_) (fun d => ?_)
    · have d := of_decide_eq_true d
      have e1 : (i + 1).toNat = i.toNat + 1 := by omega
      have w : IntKind.i64.wrap (i + 1) = i + 1 := wrap_small (by omega) (by omega)
      have hp := length_partF xs' (groupsOf xs') g i.toNat
      have hs := partF_succ xs' (groupsOf xs') g i.toNat
      rw [w, e1]
      have yes : inG (groupsOf xs') g i.toNat = true → partF xs' (groupsOf xs') g i.toNat ++ [Ty.ix .body xs' i.toNat] = partF xs' (groupsOf xs') g (i.toNat + 1) := fun q => by rw [hs, q]; rfl
      have no : inG (groupsOf xs') g i.toNat = false → partF xs' (groupsOf xs') g i.toNat = partF xs' (groupsOf xs') g (i.toNat + 1) := fun q => by rw [hs, q]; simp
      have rm : (List.length (partF xs' (groupsOf xs') g i.toNat) + List.length [Ty.ix .body xs' i.toNat]) * 96 ≤ room := by
        simp only [room, List.length_singleton]
        omega
      refine ⟨⟨i0, d⟩, ifB_of (fun q => ⟨⟨i0, by omega⟩, rm, ⟨(by trivial), (by trivial), (by trivial), (by trivial), by omega, by omega, yes ?_⟩, by omega⟩) (fun q => ifB_of (fun q2 => ⟨⟨i0, by omega⟩, rm, ⟨(by trivial), (by trivial), (by trivial), (by trivial), by omega, by omega, yes ?_⟩, by omega⟩) (fun q2 => ⟨⟨(by trivial), (by trivial), (by trivial), (by trivial), by omega, by omega, no ?_⟩, by omega⟩))⟩
      · unfold inG
        rw [show (gi (groupsOf xs') i.toNat == g) = true from q]
        rfl
      · unfold inG
        rw [show decide (gi (groupsOf xs') i.toNat < 0) = true from q2, Bool.or_true]
      · unfold inG
        rw [show (gi (groupsOf xs') i.toNat == g) = false from q, show decide (gi (groupsOf xs') i.toNat < 0) = false from q2]
        rfl
    · have d := of_decide_eq_false d
      rw [show i.toNat = (groupsOf xs').length by omega]
      simp only [groupOfF, c, cond_false]
      exact ⟨(by trivial), (by trivial)⟩)

def LSlgr1  : LS where
  S := List Int × List Body × Int × List Body × Int × Int
  live := [(3, [some .body]), (4, [none]), (5, [some .body]), (6, [none]), (7, [none])]
  shape := fun s => ([.vec 1, .int .i64 s.2.2.1, .vec 2, .int .i64 s.2.2.2.2.1, .int .i64 s.2.2.2.2.2], [(false, .vec .byte s.1), (true, .vec .body s.2.1), (true, .vec .body s.2.2.2.1)])
  get := fun v h => match v, h with
    | [.vec 1, .int .i64 pull, .vec 2, .int .i64 n, .int .i64 k], [(false, .vec .byte b), (true, .vec .body xs), (true, .vec .body us)] => some (b, xs, pull, us, n, k)
    | _, _ => none
  inv := fun s0 s => Holds (s.1 = s0.1 ∧ s.2.1 = s0.2.1 ∧ s.2.2.1 = s0.2.2.1 ∧ s.2.2.2.1 = s0.2.2.2.1 ∧ s.2.2.2.2.1 = s0.2.2.2.2.1 ∧ 0 ≤ s.2.2.2.2.2 ∧ s.2.2.2.2.2 ≤ s0.2.2.2.2.1)
  mu := fun s => (s.2.2.2.2.1 - s.2.2.2.2.2).toNat
  ok := by
    intro v h s hg
    try dsimp only at hg
    split at hg <;> cases hg
    rfl

def LSlgr2  : LS where
  S := List Int × List Body × Int × List Body × Int × Int × List Body × Int
  live := [(3, [some .body]), (4, [none]), (5, [some .body]), (6, [none]), (7, [none]), (8, [some .body]), (9, [none])]
  shape := fun s => ([.vec 1, .int .i64 s.2.2.1, .vec 2, .int .i64 s.2.2.2.2.1, .int .i64 s.2.2.2.2.2.1, .vec 3, .int .i64 s.2.2.2.2.2.2.2], [(false, .vec .byte s.1), (true, .vec .body s.2.1), (true, .vec .body s.2.2.2.1), (true, .vec .body s.2.2.2.2.2.2.1)])
  get := fun v h => match v, h with
    | [.vec 1, .int .i64 pull, .vec 2, .int .i64 n, .int .i64 k, .vec 3, .int .i64 i], [(false, .vec .byte b), (true, .vec .body xs), (true, .vec .body us), (true, .vec .body ys)] => some (b, xs, pull, us, n, k, ys, i)
    | _, _ => none
  inv := fun s0 s => Holds (s.1 = s0.1 ∧ s.2.1 = s0.2.1 ∧ s.2.2.1 = s0.2.2.1 ∧ s.2.2.2.1 = s0.2.2.2.1 ∧ s.2.2.2.2.1 = s0.2.2.2.2.1 ∧ s.2.2.2.2.2.1 = s0.2.2.2.2.2.1 ∧ s.2.2.2.2.2.2.1 = s0.2.2.2.2.2.2.1 ∧ 0 ≤ s.2.2.2.2.2.2.2 ∧ s.2.2.2.2.2.2.2 ≤ s0.2.2.2.2.2.2.1.length)
  mu := fun s => ((s.2.2.2.2.2.2.1.length : Int) - s.2.2.2.2.2.2.2).toNat
  ok := by
    intro v h s hg
    try dsimp only at hg
    split at hg <;> cases hg
    rfl

def LSlgr3  : LS where
  S := List Int × List Body × Int × List Body × Int × Int × List Body × Int × Bool × Int
  live := [(3, [some .body]), (4, [none]), (5, [some .body]), (6, [none]), (7, [none]), (8, [some .body]), (9, [none]), (10, [none]), (11, [none])]
  shape := fun s => ([.vec 1, .int .i64 s.2.2.1, .vec 2, .int .i64 s.2.2.2.2.1, .int .i64 s.2.2.2.2.2.1, .vec 3, .int .i64 s.2.2.2.2.2.2.2.1, .bool s.2.2.2.2.2.2.2.2.1, .int .i64 s.2.2.2.2.2.2.2.2.2], [(false, .vec .byte s.1), (true, .vec .body s.2.1), (true, .vec .body s.2.2.2.1), (true, .vec .body s.2.2.2.2.2.2.1)])
  get := fun v h => match v, h with
    | [.vec 1, .int .i64 pull, .vec 2, .int .i64 n, .int .i64 k, .vec 3, .int .i64 i, .bool f, .int .i64 j], [(false, .vec .byte b), (true, .vec .body xs), (true, .vec .body us), (true, .vec .body ys)] => some (b, xs, pull, us, n, k, ys, i, f, j)
    | _, _ => none
  inv := fun s0 s => Holds (s.1 = s0.1 ∧ s.2.1 = s0.2.1 ∧ s.2.2.1 = s0.2.2.1 ∧ s.2.2.2.1 = s0.2.2.2.1 ∧ s.2.2.2.2.1 = s0.2.2.2.2.1 ∧ s.2.2.2.2.2.1 = s0.2.2.2.2.2.1 ∧ s.2.2.2.2.2.2.1 = s0.2.2.2.2.2.2.1 ∧ s.2.2.2.2.2.2.2.1 = s0.2.2.2.2.2.2.2.1 ∧ 0 ≤ s.2.2.2.2.2.2.2.2.2 ∧ s.2.2.2.2.2.2.2.2.2 ≤ s0.2.2.2.1.length ∧ (s.2.2.2.2.2.2.2.2.1 = false → ∀ l, l < s.2.2.2.2.2.2.2.2.2.toNat → Ty.ix .body s0.2.2.2.1 l ≠ Ty.ix .body s0.2.2.2.2.2.2.1 s0.2.2.2.2.2.2.2.1.toNat))
  mu := fun s => ((s.2.2.2.1.length : Int) - s.2.2.2.2.2.2.2.2.2).toNat
  ok := by
    intro v h s hg
    try dsimp only at hg
    split at hg <;> cases hg
    rfl

def L_lawStepGroups : Loops := fun n => match n with
  | 9 => some LSlgr1
  | 13 => some LSlgr2
  | 17 => some LSlgr3
  | _ => none
noncomputable def fs_lawStepGroups : Fs := ⟨[], fun args H => match args, H with
  | [.vec 0], [(false, .vec .byte b)] => some ((some (LOk .byte b)), .bool (true), [(false, .vec .byte b)])
  | _, _ => none⟩

theorem vc_lawStepGroups (b : List Int) (Q : SV → List Ent → Prop) :
    fnVC tt (look [(15, fs_DrawStep), (16, fs_implStep), (18, fs_specStep), (17, fs_lawsPqBodies), (20, fs_implAwake), (46, fs_implGroupOf), (47, fs_implBodiesOk)]) (L_lawStepGroups) Tryz.f13 [.vec 0] [(false, .vec .byte b)] Q =
    (let w_ := IntKind.wrap IntKind.i64; let n_ := Int.toNat; let ib_ := Ty.ix Ty.body; let vy_ := Blk.vec Ty.byte; let A14_ := (Subtype.val (g_DrawStep b)); let A15_ := (stepOf (Prod.fst A14_) (Prod.snd A14_)); ifB (decide ((↑(List.length b) : Int) > (1048576 : Int))) (Q (SV.bool true) [(false, vy_ b)]) (BytesOk b ∧ List.length (Prod.fst A14_) ≤ (1048576 : Nat) ∧ List.length (Prod.fst A14_) ≤ (1048576 : Nat) ∧ List.length A15_ ≤ (4611686018427387904 : Nat) ∧ ifB (!same A15_ A15_) (List.length (Prod.fst A14_) ≤ (1048576 : Nat) ∧ List.length A15_ ≤ (4611686018427387904 : Nat) ∧ Q (SV.bool (same A15_ A15_)) [(false, vy_ b)]) (ifB ((↑(List.length A15_) : Int) != (↑(List.length (Prod.fst A14_)) : Int)) (List.length (Prod.fst A14_) ≤ (1048576 : Nat) ∧ List.length A15_ ≤ (4611686018427387904 : Nat) ∧ Q (SV.bool (same A15_ A15_)) [(false, vy_ b)]) (List.length (Prod.fst A14_) ≤ (1048576 : Nat) ∧ Holds (b = b ∧ Prod.fst A14_ = Prod.fst A14_ ∧ Prod.snd A14_ = Prod.snd A14_ ∧ stepOf (Prod.fst A14_) (Prod.snd A14_) = stepOf (Prod.fst A14_) (Prod.snd A14_) ∧ (↑(List.length (awakeOf (Prod.fst A14_))) : Int) = (↑(List.length (awakeOf (Prod.fst A14_))) : Int) ∧ (0 : Int) ≤ (0 : Int) ∧ (0 : Int) ≤ (↑(List.length (awakeOf (Prod.fst A14_))) : Int)) ∧ ∀ (y12 : List Int × List Body × Int × List Body × Int × Int), let y12f0_ := Prod.fst y12; let y12f1_ := Prod.fst (Prod.snd y12); let y12f2_ := Prod.fst (Prod.snd (Prod.snd y12)); let y12f3_ := Prod.fst (Prod.snd (Prod.snd (Prod.snd y12))); let y12s4_ := Prod.snd (Prod.snd (Prod.snd (Prod.snd y12))); let y12f4_ := Prod.fst (Prod.snd (Prod.snd (Prod.snd (Prod.snd y12)))); let y12s5_ := Prod.snd (Prod.snd (Prod.snd (Prod.snd (Prod.snd y12)))); let A13_ := A14_; Holds (Prod.fst y12 = b ∧ y12f1_ = Prod.fst A13_ ∧ y12f2_ = Prod.snd A13_ ∧ y12f3_ = stepOf (Prod.fst A13_) (Prod.snd A13_) ∧ y12f4_ = (↑(List.length (awakeOf (Prod.fst A13_))) : Int) ∧ (0 : Int) ≤ y12s5_ ∧ y12s5_ ≤ (↑(List.length (awakeOf (Prod.fst A13_))) : Int)) → ifB (decide (Prod.snd y12s4_ < y12f4_)) (List.length y12f1_ ≤ (1048576 : Nat) ∧ List.length (groupOfF y12f1_ y12s5_) ≤ (1048576 : Nat) ∧ Holds (Prod.fst y12 = y12f0_ ∧ y12f1_ = y12f1_ ∧ y12f2_ = y12f2_ ∧ y12f3_ = y12f3_ ∧ y12f4_ = y12f4_ ∧ y12s5_ = y12s5_ ∧ stepOf (groupOfF y12f1_ y12s5_) y12f2_ = stepOf (groupOfF y12f1_ y12s5_) y12f2_ ∧ (0 : Int) ≤ (0 : Int) ∧ (0 : Int) ≤ (↑(List.length (stepOf (groupOfF y12f1_ y12s5_) y12f2_)) : Int)) ∧ ∀ (y9 : List Int × List Body × Int × List Body × Int × Int × List Body × Int), let y9f0_ := Prod.fst y9; let y9f1_ := Prod.fst (Prod.snd y9); let y9f2_ := Prod.fst (Prod.snd (Prod.snd y9)); let y9s3_ := Prod.snd (Prod.snd (Prod.snd y9)); let y9f3_ := Prod.fst (Prod.snd (Prod.snd (Prod.snd y9))); let y9f4_ := Prod.fst (Prod.snd (Prod.snd (Prod.snd (Prod.snd y9)))); let y9s5_ := Prod.snd (Prod.snd (Prod.snd (Prod.snd (Prod.snd y9)))); let y9f5_ := Prod.fst (Prod.snd (Prod.snd (Prod.snd (Prod.snd (Prod.snd y9))))); let y9f6_ := Prod.fst (Prod.snd (Prod.snd (Prod.snd (Prod.snd (Prod.snd (Prod.snd y9)))))); let y9s7_ := Prod.snd (Prod.snd (Prod.snd (Prod.snd (Prod.snd (Prod.snd (Prod.snd y9)))))); let A11_ := A13_; let A10_ := y12s4_; Holds (Prod.fst y9 = y12f0_ ∧ y9f1_ = y12f1_ ∧ y9f2_ = y12f2_ ∧ y9f3_ = y12f3_ ∧ y9f4_ = Prod.fst A10_ ∧ y9f5_ = Prod.snd A10_ ∧ y9f6_ = stepOf (groupOfF y12f1_ (Prod.snd A10_)) y12f2_ ∧ (0 : Int) ≤ y9s7_ ∧ y9s7_ ≤ (↑(List.length (stepOf (groupOfF y12f1_ (Prod.snd A10_)) y12f2_)) : Int)) → ifB (decide (Prod.snd (Prod.snd y9s5_) < (↑(List.length y9f6_) : Int))) (Holds (Prod.fst y9 = y9f0_ ∧ y9f1_ = y9f1_ ∧ y9f2_ = y9f2_ ∧ y9f3_ = y9f3_ ∧ y9f4_ = y9f4_ ∧ y9f5_ = y9f5_ ∧ y9f6_ = y9f6_ ∧ y9s7_ = y9s7_ ∧ (0 : Int) ≤ (0 : Int) ∧ (0 : Int) ≤ (↑(List.length y9f3_) : Int) ∧ (false = false → ∀ (l : Nat), l < n_ (0 : Int) → ib_ y9f3_ l ≠ ib_ y9f6_ (n_ y9s7_))) ∧ ∀ (y1 : List Int × List Body × Int × List Body × Int × Int × List Body × Int × Bool × Int), let y1f0_ := Prod.fst y1; let y1s1_ := Prod.snd y1; let y1f1_ := Prod.fst (Prod.snd y1); let y1f2_ := Prod.fst (Prod.snd (Prod.snd y1)); let y1f3_ := Prod.fst (Prod.snd (Prod.snd (Prod.snd y1))); let y1f4_ := Prod.fst (Prod.snd (Prod.snd (Prod.snd (Prod.snd y1)))); let y1f5_ := Prod.fst (Prod.snd (Prod.snd (Prod.snd (Prod.snd (Prod.snd y1))))); let y1f6_ := Prod.fst (Prod.snd (Prod.snd (Prod.snd (Prod.snd (Prod.snd (Prod.snd y1)))))); let y1s7_ := Prod.snd (Prod.snd (Prod.snd (Prod.snd (Prod.snd (Prod.snd (Prod.snd y1)))))); let y1f7_ := Prod.fst (Prod.snd (Prod.snd (Prod.snd (Prod.snd (Prod.snd (Prod.snd (Prod.snd y1))))))); let y1s8_ := Prod.snd (Prod.snd (Prod.snd (Prod.snd (Prod.snd (Prod.snd (Prod.snd (Prod.snd y1))))))); let y1f8_ := Prod.fst (Prod.snd (Prod.snd (Prod.snd (Prod.snd (Prod.snd (Prod.snd (Prod.snd (Prod.snd y1)))))))); let y1s9_ := Prod.snd (Prod.snd (Prod.snd (Prod.snd (Prod.snd (Prod.snd (Prod.snd (Prod.snd (Prod.snd y1)))))))); let A8_ := (↑(List.length y1f3_) : Int); let A7_ := A10_; let A6_ := (Prod.snd y1s8_ + (1 : Int)); let A5_ := (ib_ y1f6_ (n_ y1f7_)); let A4_ := (ib_ y1f3_ (n_ y1s9_)); let A2_ := y9s3_; let A3_ := (Prod.snd (Prod.snd (Prod.snd A2_))); Holds (Prod.fst y1 = y9f0_ ∧ y1f1_ = y9f1_ ∧ y1f2_ = y9f2_ ∧ y1f3_ = Prod.fst A2_ ∧ y1f4_ = Prod.fst (Prod.snd A2_) ∧ y1f5_ = Prod.fst (Prod.snd (Prod.snd A2_)) ∧ y1f6_ = Prod.fst A3_ ∧ y1f7_ = Prod.snd A3_ ∧ (0 : Int) ≤ y1s9_ ∧ y1s9_ ≤ (↑(List.length (Prod.fst A2_)) : Int) ∧ (Prod.fst y1s8_ = false → ∀ (l : Nat), l < n_ y1s9_ → ib_ (Prod.fst A2_) l ≠ ib_ (Prod.fst A3_) (n_ (Prod.snd A3_)))) → ifB (decide (Prod.snd y1s8_ < A8_)) (ifB y1f8_ (Holds (Prod.fst y1 = y9f0_ ∧ y1f1_ = y9f1_ ∧ y1f2_ = y9f2_ ∧ y1f3_ = Prod.fst A2_ ∧ y1f4_ = Prod.fst (Prod.snd A2_) ∧ y1f5_ = Prod.fst (Prod.snd (Prod.snd A2_)) ∧ y1f6_ = Prod.fst A3_ ∧ y1f7_ = Prod.snd A3_ ∧ (0 : Int) ≤ w_ A6_ ∧ w_ A6_ ≤ (↑(List.length (Prod.fst A2_)) : Int) ∧ (true = false → ∀ (l : Nat), l < n_ (w_ A6_) → ib_ (Prod.fst A2_) l ≠ ib_ (Prod.fst A3_) (n_ (Prod.snd A3_)))) ∧ n_ (A8_ - w_ A6_) < n_ (A8_ - y1s9_)) (((0 : Int) ≤ y1s9_ ∧ y1s9_ < A8_) ∧ ((0 : Int) ≤ y1f7_ ∧ y1f7_ < (↑(List.length y1f6_) : Int)) ∧ Holds (Prod.fst y1 = y9f0_ ∧ y1f1_ = y9f1_ ∧ y1f2_ = y9f2_ ∧ y1f3_ = Prod.fst A2_ ∧ y1f4_ = Prod.fst (Prod.snd A2_) ∧ y1f5_ = Prod.fst (Prod.snd (Prod.snd A2_)) ∧ y1f6_ = Prod.fst A3_ ∧ y1f7_ = Prod.snd A3_ ∧ (0 : Int) ≤ w_ A6_ ∧ w_ A6_ ≤ (↑(List.length (Prod.fst A2_)) : Int) ∧ ((Body.Id A4_ == Body.Id A5_ && (Shape.Kind (Body.Shape A4_) == Shape.Kind (Body.Shape A5_) && (Shape.Wide (Body.Shape A4_) == Shape.Wide (Body.Shape A5_) && (Shape.High (Body.Shape A4_) == Shape.High (Body.Shape A5_) && (Vec.X (Body.At A4_) == Vec.X (Body.At A5_) && (Vec.Y (Body.At A4_) == Vec.Y (Body.At A5_) && (Vec.X (Body.Drive A4_) == Vec.X (Body.Drive A5_) && (Vec.Y (Body.Drive A4_) == Vec.Y (Body.Drive A5_) && (Body.Mass A4_ == Body.Mass A5_ && (Body.Bounce A4_ == Body.Bounce A5_ && (Body.Rub A4_ == Body.Rub A5_ && Body.Quiet A4_ == Body.Quiet A5_))))))))))) = false → ∀ (l : Nat), l < n_ (w_ A6_) → ib_ (Prod.fst A2_) l ≠ ib_ (Prod.fst A3_) (n_ (Prod.snd A3_)))) ∧ n_ (A8_ - w_ A6_) < n_ (A8_ - y1s9_))) (ifB (!y1f8_) (Q (SV.bool false) [(false, vy_ y1f0_)]) (Holds (Prod.fst y1 = y12f0_ ∧ y1f1_ = y12f1_ ∧ y1f2_ = y12f2_ ∧ y1f3_ = y12f3_ ∧ y1f4_ = Prod.fst A7_ ∧ y1f5_ = Prod.snd A7_ ∧ y1f6_ = stepOf (groupOfF y12f1_ (Prod.snd A7_)) y12f2_ ∧ (0 : Int) ≤ w_ (Prod.fst y1s7_ + (1 : Int)) ∧ w_ (Prod.fst y1s7_ + (1 : Int)) ≤ (↑(List.length (stepOf (groupOfF y12f1_ (Prod.snd A7_)) y12f2_)) : Int)) ∧ n_ ((↑(List.length y1f6_) : Int) - w_ (Prod.fst y1s7_ + (1 : Int))) < n_ ((↑(List.length (Prod.fst A3_)) : Int) - Prod.snd A3_)))) (Holds (Prod.fst y9 = b ∧ y9f1_ = Prod.fst A11_ ∧ y9f2_ = Prod.snd A11_ ∧ y9f3_ = stepOf (Prod.fst A11_) (Prod.snd A11_) ∧ y9f4_ = (↑(List.length (awakeOf (Prod.fst A11_))) : Int) ∧ (0 : Int) ≤ w_ (Prod.fst y9s5_ + (1 : Int)) ∧ w_ (Prod.fst y9s5_ + (1 : Int)) ≤ (↑(List.length (awakeOf (Prod.fst A11_))) : Int)) ∧ n_ (Prod.fst (Prod.snd y9s3_) - w_ (Prod.fst y9s5_ + (1 : Int))) < n_ (Prod.fst A10_ - Prod.snd A10_))) (List.length y12f3_ ≤ (4611686018427387904 : Nat) ∧ Q (SV.bool (bodiesOk y12f3_)) [(false, vy_ y12f0_)]))))) := by kernel_rfl

theorem ok_lawStepGroups : FsOk Tryz.prog 13 fs_lawStepGroups := fsOk_of tt_ok (tabFs_cons ok_DrawStep (tabFs_cons ok_implStep (tabFs_cons ok_specStep (tabFs_cons ok_lawsPqBodies (tabFs_cons ok_implAwake (tabFs_cons ok_implGroupOf (tabFs_cons ok_implBodiesOk tabFs_nil))))))) mixed Tryz.func13 (by kernel_rfl) (by kernel_rfl) (by
    intro args LL p r HH h hp
    unfold fs_lawStepGroups at h
    dsimp only at h
    split at h
    case h_2 => cases h
    rename_i b
    simp only [Option.some.injEq, Prod.mk.injEq] at h
    obtain ⟨rfl, rfl, rfl⟩ := h
    refine ⟨by simp [Form, stays], (L_lawStepGroups), ?_⟩
    rw [vc_lawStepGroups]
    try dsimp only
    have hb := bytesOk_of (hp _ rfl)
    refine ifB_of (fun c => ⟨rfl, rfl⟩) (fun c => ⟨hb, ?_⟩)
    generalize g_DrawStep b = z
    obtain ⟨⟨xs, pull⟩, h1⟩ := z
    simp only [drawStepP] at h1
    dsimp only at h1 ⊢
    have g1 := length_stepOf xs pull
    simp only [same_self, Bool.not_true, ifBt, ifBf]
    refine ⟨by omega, by omega, by omega, ifB_of (fun d => ⟨by omega, by omega, (by trivial), (by trivial)⟩) (fun d => ⟨by omega, ⟨(by trivial), (by trivial), (by trivial), (by trivial), (by trivial), by omega, by omega⟩, ?_⟩)⟩
    have d := bne_eq_false_iff_eq.1 d
    have hl : (stepOf xs pull).length = xs.length := by omega
    have hxo : bodiesOk (stepOf xs pull) = true := by
      cases q : bodiesOk xs && isIn pull 0 2560 with
      | false =>
        unfold stepOf
        rw [q]
        rfl
      | true =>
        rw [Bool.and_eq_true] at q
        have hp2 := in_pull.1 q.2
        rw [stepOf_ok q.1 hp2.1 hp2.2]
        exact ok_stepF q.1 hp2.1 hp2.2
    rintro ⟨b', xs', pull', us, n, k⟩ ⟨h⟩
    dsimp only at h ⊢
    obtain ⟨rfl, rfl, rfl, rfl, rfl, k0, k1⟩ := h
    refine ifB_of (fun c1 => ?_) (fun c1 => ?_)
    · have ck := of_decide_eq_true c1
      clear c1
      have hok : bodiesOk xs' = true := by
        cases q : bodiesOk xs' with
        | true => rfl
        | false =>
          exfalso
          simp only [awakeOf, q, cond_false, List.length_nil] at ck
          omega
      obtain ⟨q1, q2, q3⟩ := groupsOf_len hok
      rw [q3] at ck k1 ⊢
      have hn := num_le xs' xs'.length
      have hn2 := length_awkF xs' xs'.length
      have hlx := bodiesOk_len hok
      obtain ⟨_, p0, p1⟩ := ok_of_len hl (by omega)
      have hS : stepOf xs' pull' = stepF xs' pull' := stepOf_ok hok p0 p1
      obtain ⟨ys, hy, hy12, hfind⟩ := step_group hok p0 p1 k0
      have hG : groupOfF xs' k = partF xs' (groupsX xs') k xs'.length := by
        unfold groupOfF
        rw [decide_eq_false (show ¬ k < 0 by omega), q1, q2]
        rfl
      have hgl := length_groupOfF xs' k
      have wk : IntKind.i64.wrap (k + 1) = k + 1 := wrap_small (by omega) (by omega)
      rw [hG] at hgl ⊢
      rw [hy]
      clear hy hG
      simp only [← hS] at hfind
      refine ⟨by omega, by omega, ⟨(by trivial), (by trivial), (by trivial), (by trivial), (by trivial), (by trivial), (by trivial), by omega, by omega⟩, ?_⟩
      rintro ⟨b2, xs2, pull2, us2, n2, k2, ys2, i⟩ ⟨h⟩
      dsimp only at h ⊢
      obtain ⟨rfl, rfl, rfl, rfl, rfl, rfl, rfl, i0, i1⟩ := h
      refine ifB_of (fun c2 => ?_) (fun c2 => ?_)
      · have ci := of_decide_eq_true c2
        have wi : IntKind.i64.wrap (i + 1) = i + 1 := wrap_small (by omega) (by omega)
        clear c2
        refine ⟨⟨(by trivial), (by trivial), (by trivial), (by trivial), (by trivial), (by trivial), (by trivial), (by trivial), by omega, by omega, fun _ l hl => absurd hl (by simp)⟩, ?_⟩
        rintro ⟨b3, xs3, pull3, us3, n3, k3, ys3, i3, f, j⟩ ⟨h⟩
        dsimp only at h ⊢
        obtain ⟨rfl, rfl, rfl, rfl, rfl, rfl, rfl, rfl, j0, j1, hf⟩ := h
        refine ifB_of (fun c3 => ?_) (fun c3 => ?_)
        · have cj := of_decide_eq_true c3
          have wj : IntKind.i64.wrap (j + 1) = j + 1 := wrap_small (by omega) (by omega)
          have e1 : (j + 1).toNat = j.toNat + 1 := by omega
          rw [wj, e1]
          refine ifB_of (fun f1 => ⟨⟨(by trivial), (by trivial), (by trivial), (by trivial), (by trivial), (by trivial), (by trivial), (by trivial), by omega, by omega, fun z => (by cases z)⟩, by omega⟩) (fun f1 => ⟨⟨j0, cj⟩, ⟨i0, ci⟩, ⟨(by trivial), (by trivial), (by trivial), (by trivial), (by trivial), (by trivial), (by trivial), (by trivial), by omega, by omega, fun z l hl => ?_⟩, by omega⟩)
          by_cases e : l = j.toNat
          · rw [e]
            intro q
            rw [q] at z
            simp at z
          · exact hf f1 l (by omega)
        · have cj := of_decide_eq_false c3
          have ft : f = true := by
            cases f with
            | true => rfl
            | false =>
              exfalso
              obtain ⟨a, ha, q⟩ := hfind i3.toNat (by omega)
              exact hf rfl a (by omega) q.symm
          rw [ft, wi]
          simp only [Bool.not_true, ifBf]
          exact ⟨⟨(by trivial), (by trivial), (by trivial), (by trivial), (by trivial), (by trivial), (by trivial), by omega, by omega⟩, by omega⟩
      · rw [wk]
        exact ⟨⟨(by trivial), (by trivial), (by trivial), (by trivial), (by trivial), by omega, by omega⟩, by omega⟩
    · rw [hxo]
      exact ⟨by omega, (by trivial), (by trivial)⟩)

end
end Go.Proofs.YtnahfbjdicjdpaaGreat.Sym

