/-
  What the rows of this claim stand on, part 8: the machine, the walks, the plain laws, as far as they are used.
  No condition.
-/
import Derived.Test.YtnahfbjdicjdpaaGreatDB7
namespace Go.Proofs.YtnahfbjdicjdpaaGreat.Sym
open Go
set_option linter.unusedVariables false
set_option linter.unusedSimpArgs false
set_option maxRecDepth 100000

theorem shapeD_ok {s : Shape} (h : shapeD s) : shapeOk s = true := by
  obtain ⟨h1, h2, h3⟩ := h
  unfold shapeOk
  rcases h3 with ⟨k, e⟩ | ⟨k, e1, e2⟩
  · rw [if_pos k]
    simp only [isIn, Bool.and_eq_true, decide_eq_true_eq, beq_iff_eq]
    omega
  · rw [if_neg (by omega), if_pos k]
    simp only [isIn, Bool.and_eq_true, decide_eq_true_eq]
    omega
theorem bodyD_ok {id : Int} {b : Body} (h0 : 0 ≤ id) (h1 : id ≤ 999999999) (h : bodyD id b) : bodyOk b = true := by
  obtain ⟨q1, q2, q3, ⟨q4, q5⟩, q6, q7, q8, q9, q10, q11, q12, q13, q14, q15⟩ := h
  simp only [placeP] at q3
  refine bok_iff.2 ⟨by omega, shapeD_ok q2, by omega, by omega, by omega, by omega, by omega, by omega, fun e => ⟨(q5 e).1, (q5 e).2, q14 e⟩, fun e => ?_⟩
  by_cases c : b.Quiet = 8
  · exact .inr (q15 c)
  · exact .inl (by omega)
theorem bok_at {b : Body} {p : Vec} (h : bodyOk b = true) (hp : -2560000 ≤ p.X ∧ p.X ≤ 2560000 ∧ -2560000 ≤ p.Y ∧ p.Y ≤ 2560000) : bodyOk { b with At := p } = true := by
  rw [bok_iff] at h ⊢
  obtain ⟨h1, h2, h3, h4, h5, h6, h7, h8, h9, h10⟩ := h
  exact ⟨h1, h2, hp, h4, h5, h6, h7, h8, h9, h10⟩
theorem ix_snoc {xs : List Body} {x : Body} {e : Nat} (h : e < xs.length) : Ty.ix .body (xs ++ [x]) e = Ty.ix .body xs e := by
  simp only [Ty.ix, List.getD_eq_getElem?_getD]
  rw [List.getElem?_append_left h]
theorem ix_last {xs : List Body} {x : Body} : Ty.ix .body (xs ++ [x]) xs.length = x := by
  simp [Ty.ix, List.getD]
def idsLtB (m : Int) (xs : List Body) : Prop := ∀ e, e < xs.length → (Ty.ix .body xs e).Id < m
theorem ok_snoc {xs : List Body} {x : Body} (h : bodiesOk xs = true) (hi : idsLtB x.Id xs) (hx : bodyOk x = true) (hl : xs.length < 12) : bodiesOk (xs ++ [x]) = true := by
  obtain ⟨h1, h2, h3⟩ := bodiesOk_iff.1 h
  have len : (xs ++ [x]).length = xs.length + 1 := by simp
  refine bodiesOk_iff.2 ⟨by omega, fun k hk => ?_, fun k hk => ?_⟩
  · by_cases e : k < xs.length
    · rw [ix_snoc e]
      exact h2 k e
    · rw [show k = xs.length by omega, ix_last]
      exact hx
  · by_cases e : k + 1 < xs.length
    · rw [ix_snoc e, ix_snoc (show k < xs.length by omega)]
      exact h3 k e
    · have e2 : k + 1 = xs.length := by omega
      rw [e2, ix_last, ix_snoc (by omega)]
      exact hi k (by omega)
theorem ids_snoc {xs : List Body} {x : Body} {m n : Int} (hi : idsLtB m xs) (hm : m ≤ n) (hx : x.Id < n) : idsLtB n (xs ++ [x]) := by
  intro e he
  have len : (xs ++ [x]).length = xs.length + 1 := by simp
  by_cases c : e < xs.length
  · rw [ix_snoc c]
    have := hi e c
    omega
  · rw [show e = xs.length by omega, ix_last]
    exact hx
noncomputable section
def bd (b : List Int) (p id : Int) : Body := (g_l11Body b p id).1.1
def cn (b : List Int) (p id : Int) : Int := (((g_l11Body b p id).2 % 16 : Nat) : Int)
theorem cn_le (b : List Int) (p id : Int) : 0 ≤ cn b p id ∧ cn b p id ≤ 15 := by
  unfold cn
  omega
def nearP (b : List Int) (p : Int) (v : Vec) : Vec := ⟨withinS (W (W (v.X + W (pk b p 256 * 4)) - 512)) 2560000, withinS (W (W (v.Y + W (pk b (p + 1) 256 * 4)) - 512)) 2560000⟩
theorem nearP_le (b : List Int) (p : Int) (v : Vec) : -2560000 ≤ (nearP b p v).X ∧ (nearP b p v).X ≤ 2560000 ∧ -2560000 ≤ (nearP b p v).Y ∧ (nearP b p v).Y ≤ 2560000 := ⟨(withinS_to _).1, (withinS_to _).2, (withinS_to _).1, (withinS_to _).2⟩
def dStep (b : List Int) (p id : Int) (xs : List Body) : Int × Int × List Body :=
  let q := p + cn b p id
  bif decide ((xs.length : Int) > 0) then
    bif decide (pk b q 3 > 0) then
      (q + 1 + 1 + 1 + 1 + 1, W (W (id + 1) + pk b (q + 1 + 1 + 1 + 1) 3), xs ++ [{ bd b p id with At := nearP b (q + 1 + 1) (Ty.ix .body xs (pk b (q + 1) xs.length).toNat).At }])
    else (q + 1 + 1, W (W (id + 1) + pk b (q + 1) 3), xs ++ [bd b p id])
  else (q + 1, W (W (id + 1) + pk b q 3), xs ++ [bd b p id])
def dGo (b : List Int) : Nat → Int → Int → List Body → Int × List Body
  | 0, p, _, xs => (p, xs)
  | k + 1, p, id, xs => dGo b k (dStep b p id xs).1 (dStep b p id xs).2.1 (dStep b p id xs).2.2
def dEnd (b : List Int) (s : Int × List Body) : Int × List Body :=
  bif pk b s.1 4 == 0 then (s.1 + 1 + 1, stepF s.2 (Ty.ix .int ([0, 32] : List Int) (pk b (s.1 + 1) 2).toNat)) else (s.1 + 1, s.2)
def dDraw (b : List Int) (p : Int) : Int × List Body :=
  dEnd b (dGo b (bif pk b (p + 1 + 1) 20 == 0 then 12 else (pk b (p + 1) 7).toNat) (p + 1 + 1 + 1) (pk b p 3) [])
theorem dStep_spec {b : List Int} {p id : Int} {xs : List Body} (i0 : 0 ≤ id) (i1 : id ≤ 40) (h : bodiesOk xs = true) (hi : idsLtB id xs) (hl : xs.length < 12) :
    p ≤ (dStep b p id xs).1 ∧ (dStep b p id xs).1 ≤ p + 20 ∧ id < (dStep b p id xs).2.1 ∧ (dStep b p id xs).2.1 ≤ id + 3 ∧ bodiesOk (dStep b p id xs).2.2 = true ∧ idsLtB (dStep b p id xs).2.1 (dStep b p id xs).2.2 ∧ (dStep b p id xs).2.2.length = xs.length + 1 := by
  have hc := cn_le b p id
  have hid : (bd b p id).Id = id := (g_l11Body b p id).1.2.1
  have hbd : bodyOk (bd b p id) = true := bodyD_ok i0 (by omega) (g_l11Body b p id).1.2
  have w1 : W (id + 1) = id + 1 := W_small (by omega) (by omega)
  have hpk : ∀ q, W (W (id + 1) + pk b q 3) = id + 1 + pk b q 3 := fun q => by
    have := pk_lt b q (n := 3) (by omega)
    rw [w1]
    exact W_small (by omega) (by omega)
  have fin : ∀ {x : Body} (q : Int), x.Id = id → bodyOk x = true → bodiesOk (xs ++ [x]) = true ∧ idsLtB (W (W (id + 1) + pk b q 3)) (xs ++ [x]) ∧ (xs ++ [x]).length = xs.length + 1 := fun {x} q h1 h2 => by
    have := pk_lt b q (n := 3) (by omega)
    refine ⟨ok_snoc h (by rw [h1]; exact hi) h2 hl, ?_, by simp⟩
    rw [hpk q]
    exact ids_snoc hi (by omega) (by omega)
  unfold dStep
  dsimp only
  cases decide ((xs.length : Int) > 0) with
  | false =>
    simp only [cond_false]
    have hk := pk_lt b (p + cn b p id) (n := 3) (by omega)
    have := fin (p + cn b p id) hid hbd
    exact ⟨by omega, by omega, by rw [hpk]; omega, by rw [hpk]; omega, this.1, this.2.1, this.2.2⟩
  | true =>
    simp only [cond_true]
    cases decide (pk b (p + cn b p id) 3 > 0) with
    | false =>
      simp only [cond_false]
      have hk := pk_lt b (p + cn b p id + 1) (n := 3) (by omega)
      have := fin (p + cn b p id + 1) hid hbd
      exact ⟨by omega, by omega, by rw [hpk]; omega, by rw [hpk]; omega, this.1, this.2.1, this.2.2⟩
    | true =>
      simp only [cond_true]
      have hk := pk_lt b (p + cn b p id + 1 + 1 + 1 + 1) (n := 3) (by omega)
      have := fin (x := { bd b p id with At := nearP b (p + cn b p id + 1 + 1) (Ty.ix .body xs (pk b (p + cn b p id + 1) xs.length).toNat).At }) (p + cn b p id + 1 + 1 + 1 + 1) hid (bok_at hbd (nearP_le _ _ _))
      exact ⟨by omega, by omega, by rw [hpk]; omega, by rw [hpk]; omega, this.1, this.2.1, this.2.2⟩
theorem dGo_next {b : List Int} {p id n n0 topP topI q id' : Int} {xs ys : List Body} {R : Int × List Body} (e : dStep b p id xs = (q, id', ys)) (h1 : 0 < n) (h2 : n ≤ n0) (h12 : n0 ≤ 12) (p0 : 0 ≤ p) (hp : p + 20 * n ≤ topP) (i0 : 0 ≤ id) (hi : id + 3 * n ≤ topI) (ti : topI ≤ 40)
    (ok : bodiesOk xs = true) (ids : idsLtB id xs) (hl : (xs.length : Int) + n = n0) (h7 : dGo b n.toNat p id xs = R) :
    (b = b ∧ 0 ≤ IntKind.i64.wrap (n - 1) ∧ IntKind.i64.wrap (n - 1) ≤ n0 ∧ 0 ≤ q ∧ q + 20 * IntKind.i64.wrap (n - 1) ≤ topP ∧ 0 ≤ id' ∧ id' + 3 * IntKind.i64.wrap (n - 1) ≤ topI ∧ bodiesOk ys = true ∧ idsLtB id' ys ∧ (ys.length : Int) + IntKind.i64.wrap (n - 1) = n0 ∧ dGo b (IntKind.i64.wrap (n - 1)).toNat q id' ys = R) ∧
    (IntKind.i64.wrap (n - 1)).toNat < n.toNat := by
  obtain ⟨s1, s2, s3, s4, s5, s6, s7⟩ := dStep_spec (b := b) (p := p) i0 (by omega) ok ids (by omega)
  rw [e] at s1 s2 s3 s4 s5 s6 s7
  dsimp only at s1 s2 s3 s4 s5 s6 s7
  have w : IntKind.i64.wrap (n - 1) = n - 1 := wrap_small (by omega) (by omega)
  rw [w]
  refine ⟨⟨rfl, by omega, by omega, by omega, by omega, by omega, by omega, s5, s6, by omega, ?_⟩, by omega⟩
  rw [← h7, show n.toNat = (n - 1).toNat + 1 by omega]
  simp only [dGo, e]
theorem dGo_spec {b : List Int} : ∀ {k : Nat} {p id : Int} {xs : List Body}, 0 ≤ id → id + 3 * k ≤ 40 → bodiesOk xs = true → idsLtB id xs → xs.length + k ≤ 12 → p ≤ (dGo b k p id xs).1 ∧ (dGo b k p id xs).1 ≤ p + 20 * k ∧ bodiesOk (dGo b k p id xs).2 = true
  | 0, p, id, xs, _, _, h, _, _ => ⟨by simp only [dGo]; omega, by simp only [dGo]; omega, h⟩
  | k + 1, p, id, xs, i0, i1, h, hi, hl => by
    obtain ⟨s1, s2, s3, s4, s5, s6, s7⟩ := dStep_spec (b := b) (p := p) i0 (by omega) h hi (by omega)
    obtain ⟨r1, r2, r3⟩ := dGo_spec (b := b) (k := k) (p := (dStep b p id xs).1) (id := (dStep b p id xs).2.1) (xs := (dStep b p id xs).2.2) (by omega) (by omega) s5 s6 (by omega)
    simp only [dGo]
    exact ⟨by omega, by omega, r3⟩
theorem ids_nil (m : Int) : idsLtB m [] := fun e h => by simp at h
def pullI (i : Nat) : Int := if i = 0 then 0 else if i = 1 then 32 else 0
theorem ixPull (i : Nat) : @Eq Int (Ty.ix .int ([0, 32] : List Int) i) (pullI i) := ix2 ..
theorem pullI_le (i : Nat) : 0 ≤ pullI i ∧ pullI i ≤ 2560 := by
  unfold pullI
  (repeat' split) <;> omega
theorem ix032 (i : Nat) : @LE.le Int _ 0 (Ty.ix .int ([0, 32] : List Int) i) ∧ @LE.le Int _ (Ty.ix .int ([0, 32] : List Int) i) 2560 := by
  rw [ixPull]
  exact pullI_le i
theorem dEnd_spec {b : List Int} {s : Int × List Body} (h : bodiesOk s.2 = true) : s.1 < (dEnd b s).1 ∧ (dEnd b s).1 ≤ s.1 + 2 ∧ bodiesOk (dEnd b s).2 = true := by
  unfold dEnd
  cases pk b s.1 4 == 0 with
  | false => exact ⟨by simp only [cond_false]; omega, by simp only [cond_false]; omega, h⟩
  | true => exact ⟨by simp only [cond_true]; omega, by simp only [cond_true]; omega, ok_stepF h (ix032 _).1 (ix032 _).2⟩
theorem bodiesOk_nil : bodiesOk [] = true := rfl
theorem dDraw_spec {b : List Int} {p : Int} : p ≤ (dDraw b p).1 ∧ (dDraw b p).1 ≤ p + 400 ∧ bodiesOk (dDraw b p).2 = true := by
  have k1 := pk_lt b (p + 1) (n := 7) (by omega)
  have k2 := pk_lt b p (n := 3) (by omega)
  have hk : (bif pk b (p + 1 + 1) 20 == 0 then 12 else (pk b (p + 1) 7).toNat) ≤ 12 := by
    cases pk b (p + 1 + 1) 20 == 0 <;> simp only [cond_true, cond_false] <;> omega
  unfold dDraw
  generalize (bif pk b (p + 1 + 1) 20 == 0 then 12 else (pk b (p + 1) 7).toNat) = k at *
  obtain ⟨r1, r2, r3⟩ := dGo_spec (b := b) (k := k) (p := p + 1 + 1 + 1) (id := pk b p 3) (xs := []) (by omega) (by omega) bodiesOk_nil (ids_nil _) (by simpa using hk)
  obtain ⟨e1, e2, e3⟩ := dEnd_spec (b := b) r3
  exact ⟨by omega, by omega, e3⟩
def LSdGo  : LS where
  S := List Int × Int × Unit × List Body × Int × Int
  live := [(0, [none]), (3, [some .body]), (4, [none]), (5, [none])]
  shape := fun s => ([.ptr 1 0 0, .vec 2, .int .i64 s.2.2.2.2.1, .int .i64 s.2.2.2.2.2], [(false, .vec .byte s.1), (true, .box [.vec 0, .int .i64 s.2.1]), (true, .vec .body s.2.2.2.1)])
  get := fun v h => match v, h with
    | [.ptr 1 0 0, .vec 2, .int .i64 id, .int .i64 n], [(false, .vec .byte b), (true, .box [.vec 0, .int .i64 p]), (true, .vec .body xs)] => some (b, p, (), xs, id, n)
    | _, _ => none
  inv := fun s0 s => Holds (s.1 = s0.1 ∧ 0 ≤ s.2.2.2.2.2 ∧ s.2.2.2.2.2 ≤ s0.2.2.2.2.2 ∧ 0 ≤ s.2.1 ∧ s.2.1 + 20 * s.2.2.2.2.2 ≤ s0.2.1 + 20 * s0.2.2.2.2.2 ∧ 0 ≤ s.2.2.2.2.1 ∧ s.2.2.2.2.1 + 3 * s.2.2.2.2.2 ≤ s0.2.2.2.2.1 + 3 * s0.2.2.2.2.2 ∧ bodiesOk s.2.2.2.1 = true ∧ idsLtB s.2.2.2.2.1 s.2.2.2.1 ∧ s.2.2.2.1.length + s.2.2.2.2.2 = s0.2.2.2.2.2 ∧ dGo s.1 s.2.2.2.2.2.toNat s.2.1 s.2.2.2.2.1 s.2.2.2.1 = dGo s0.1 s0.2.2.2.2.2.toNat s0.2.1 s0.2.2.2.2.1 s0.2.2.2.1)
  mu := fun s => s.2.2.2.2.2.toNat
  ok := by
    intro v h s hg
    try dsimp only at hg
    split at hg <;> cases hg
    rfl

def L_l11Bodies : Loops := fun n => match n with
  | 6 => some LSdGo
  | _ => none
noncomputable def fs_l11Bodies : Fs := ⟨[], fun args H => match args, H with
  | [.ptr 1 0 0], [(false, .vec .byte b), (true, .box [.vec 0, .int .i64 p])] => some ((some (0 ≤ p ∧ p + 400 ≤ 1000000000000 ∧ BytesOk b)), .vec 2, [(false, .vec .byte b), (true, .box [.vec 0, .int .i64 (dDraw b p).1]), (true, .vec .body (dDraw b p).2)])
  | _, _ => none⟩

theorem vc_l11Bodies (b : List Int) (p : Int) (Q : SV → List Ent → Prop) :
    fnVC tt (look [(69, fs_rdPick), (51, fs_rdOne), (124, fs_l11Body), (127, fs_specWithin), (63, fs_l9Step)]) (L_l11Bodies) Tryz.f88 [.ptr 1 0 0] [(false, .vec .byte b), (true, .box [.vec 0, .int .i64 p])] Q =
    (let w_ := IntKind.wrap IntKind.i64; let s_ := SV.int IntKind.i64; let n_ := Int.toNat; let ii_ := Ty.ix Ty.int; let A36_ := (p + (1 : Int) + (1 : Int) + (1 : Int)); let A35_ := (g_rdPick b p (3 : Int) % (3 : Int)); let A34_ := (g_rdPick b (p + (1 : Int)) (7 : Int) % (7 : Int)); ((0 : Int) ≤ p ∧ p + (1 : Int) ≤ (1000000000000 : Int) ∧ BytesOk b ∧ (1 : Int) ≤ (3 : Int)) ∧ ((0 : Int) ≤ p + (1 : Int) ∧ p + (1 : Int) + (1 : Int) ≤ (1000000000000 : Int) ∧ BytesOk b ∧ (1 : Int) ≤ (7 : Int)) ∧ ((0 : Int) ≤ p + (1 : Int) + (1 : Int) ∧ p + (1 : Int) + (1 : Int) + (1 : Int) ≤ (1000000000000 : Int) ∧ BytesOk b ∧ (1 : Int) ≤ (20 : Int)) ∧ ifB (g_rdPick b (p + (1 : Int) + (1 : Int)) (20 : Int) % (20 : Int) == (0 : Int)) (Holds (b = b ∧ (0 : Int) ≤ (12 : Int) ∧ (12 : Int) ≤ (12 : Int) ∧ (0 : Int) ≤ p + (1 : Int) + (1 : Int) + (1 : Int) ∧ p + (1 : Int) + (1 : Int) + (1 : Int) + (20 : Int) * (12 : Int) ≤ p + (1 : Int) + (1 : Int) + (1 : Int) + (20 : Int) * (12 : Int) ∧ (0 : Int) ≤ g_rdPick b p (3 : Int) % (3 : Int) ∧ g_rdPick b p (3 : Int) % (3 : Int) + (3 : Int) * (12 : Int) ≤ g_rdPick b p (3 : Int) % (3 : Int) + (3 : Int) * (12 : Int) ∧ bodiesOk [] = true ∧ idsLtB A35_ [] ∧ (0 : Int) + (12 : Int) = (12 : Int) ∧ dGo b (n_ (12 : Int)) A36_ A35_ [] = dGo b (n_ (12 : Int)) A36_ A35_ []) ∧ ∀ (y18 : List Int × Int × Unit × List Body × Int × Int), let y18f0_ := Prod.fst y18; let y18s1_ := Prod.snd y18; let y18f1_ := Prod.fst (Prod.snd y18); let y18s3_ := Prod.snd (Prod.snd (Prod.snd y18)); let y18f3_ := Prod.fst (Prod.snd (Prod.snd (Prod.snd y18))); let y18s4_ := Prod.snd (Prod.snd (Prod.snd (Prod.snd y18))); let y18f4_ := Prod.fst (Prod.snd (Prod.snd (Prod.snd (Prod.snd y18)))); let y18s5_ := Prod.snd (Prod.snd (Prod.snd (Prod.snd (Prod.snd y18)))); let A33_ := A35_; let A32_ := A36_; let A28_ := (↑(List.length y18f3_) : Int); let A25_ := (n_ (g_rdPick y18f0_ (Prod.fst y18s1_ + (1 : Int)) (↑(List.length [(0 : Int), (32 : Int)]) : Int) % (↑(List.length [(0 : Int), (32 : Int)]) : Int))); let A23_ := (Prod.snd y18s4_ - (1 : Int)); let A31_ := (w_ A23_); let A21_ := (Prod.fst (g_l11Body y18f0_ y18f1_ y18f4_)); let A29_ := (Prod.fst y18s3_ ++ [Subtype.val A21_]); let A20_ := (↑(Prod.snd (g_l11Body y18f0_ y18f1_ y18f4_) % (16 : Nat)) : Int); let A30_ := (Prod.fst y18s1_ + A20_ + (1 : Int)); let A27_ := (w_ (Prod.fst y18s4_ + (1 : Int)) + g_rdPick y18f0_ (Prod.fst y18s1_ + A20_) (3 : Int) % (3 : Int)); let A26_ := (w_ (Prod.fst y18s4_ + (1 : Int)) + g_rdPick y18f0_ A30_ (3 : Int) % (3 : Int)); let A24_ := (w_ (Prod.fst y18s4_ + (1 : Int)) + g_rdPick y18f0_ (Prod.fst y18s1_ + A20_ + (1 : Int) + (1 : Int) + (1 : Int) + (1 : Int)) (3 : Int) % (3 : Int)); let A22_ := (Vec.mk (withinS (w_ (w_ (Vec.X (Body.At (Ty.ix Ty.body y18f3_ (n_ (g_rdPick y18f0_ A30_ A28_ % A28_)))) + w_ (g_rdPick y18f0_ (Prod.fst y18s1_ + A20_ + (1 : Int) + (1 : Int)) (256 : Int) % (256 : Int) * (4 : Int))) - (512 : Int))) (2560000 : Int)) (withinS (w_ (w_ (Vec.Y (Body.At (Ty.ix Ty.body y18f3_ (n_ (g_rdPick y18f0_ A30_ A28_ % A28_)))) + w_ (g_rdPick y18f0_ (Prod.fst y18s1_ + A20_ + (1 : Int) + (1 : Int) + (1 : Int)) (256 : Int) % (256 : Int) * (4 : Int))) - (512 : Int))) (2560000 : Int))); let A19_ := (Prod.fst y18s3_ ++ [Body.mk (Body.Id (Subtype.val A21_)) (Body.Shape (Subtype.val A21_)) A22_ (Body.Drive (Subtype.val A21_)) (Body.Mass (Subtype.val A21_)) (Body.Bounce (Subtype.val A21_)) (Body.Rub (Subtype.val A21_)) (Body.Quiet (Subtype.val A21_))]); Holds (Prod.fst y18 = b ∧ (0 : Int) ≤ y18s5_ ∧ y18s5_ ≤ (12 : Int) ∧ (0 : Int) ≤ y18f1_ ∧ y18f1_ + (20 : Int) * y18s5_ ≤ p + (1 : Int) + (1 : Int) + (1 : Int) + (20 : Int) * (12 : Int) ∧ (0 : Int) ≤ y18f4_ ∧ y18f4_ + (3 : Int) * y18s5_ ≤ g_rdPick b p (3 : Int) % (3 : Int) + (3 : Int) * (12 : Int) ∧ bodiesOk y18f3_ = true ∧ idsLtB y18f4_ y18f3_ ∧ A28_ + y18s5_ = (12 : Int) ∧ dGo y18f0_ (n_ y18s5_) y18f1_ y18f4_ y18f3_ = dGo b (n_ (12 : Int)) A32_ A33_ []) → ifB (decide (Prod.snd y18s4_ > (0 : Int))) (((0 : Int) ≤ y18f1_ ∧ y18f1_ + (15 : Int) ≤ (1000000000000 : Int) ∧ BytesOk y18f0_) ∧ ifB (decide (A28_ > (0 : Int))) (((0 : Int) ≤ y18f1_ + A20_ ∧ y18f1_ + A20_ + (1 : Int) ≤ (1000000000000 : Int) ∧ BytesOk y18f0_ ∧ (1 : Int) ≤ (3 : Int)) ∧ ifB (decide (g_rdPick y18f0_ (Prod.fst y18s1_ + A20_) (3 : Int) % (3 : Int) > (0 : Int))) (((0 : Int) ≤ y18f1_ + A20_ + (1 : Int) ∧ y18f1_ + A20_ + (1 : Int) + (1 : Int) ≤ (1000000000000 : Int) ∧ BytesOk y18f0_ ∧ (1 : Int) ≤ A28_) ∧ ((0 : Int) ≤ g_rdPick y18f0_ A30_ A28_ % A28_ ∧ g_rdPick y18f0_ A30_ A28_ % A28_ < A28_) ∧ ((0 : Int) ≤ y18f1_ + A20_ + (1 : Int) + (1 : Int) ∧ y18f1_ + A20_ + (1 : Int) + (1 : Int) + (1 : Int) ≤ (1000000000000 : Int) ∧ BytesOk y18f0_ ∧ (1 : Int) ≤ (256 : Int)) ∧ ((0 : Int) ≤ y18f1_ + A20_ + (1 : Int) + (1 : Int) + (1 : Int) ∧ y18f1_ + A20_ + (1 : Int) + (1 : Int) + (1 : Int) + (1 : Int) ≤ (1000000000000 : Int) ∧ BytesOk y18f0_ ∧ (1 : Int) ≤ (256 : Int)) ∧ (List.length y18f3_ + List.length [Body.mk (Body.Id (Subtype.val A21_)) (Body.Shape (Subtype.val A21_)) A22_ (Body.Drive (Subtype.val A21_)) (Body.Mass (Subtype.val A21_)) (Body.Bounce (Subtype.val A21_)) (Body.Rub (Subtype.val A21_)) (Body.Quiet (Subtype.val A21_))]) * (96 : Nat) ≤ room ∧ ((0 : Int) ≤ y18f1_ + A20_ + (1 : Int) + (1 : Int) + (1 : Int) + (1 : Int) ∧ y18f1_ + A20_ + (1 : Int) + (1 : Int) + (1 : Int) + (1 : Int) + (1 : Int) ≤ (1000000000000 : Int) ∧ BytesOk y18f0_ ∧ (1 : Int) ≤ (3 : Int)) ∧ Holds (Prod.fst y18 = b ∧ (0 : Int) ≤ w_ A23_ ∧ w_ A23_ ≤ (12 : Int) ∧ (0 : Int) ≤ y18f1_ + A20_ + (1 : Int) + (1 : Int) + (1 : Int) + (1 : Int) + (1 : Int) ∧ y18f1_ + A20_ + (1 : Int) + (1 : Int) + (1 : Int) + (1 : Int) + (1 : Int) + (20 : Int) * w_ A23_ ≤ p + (1 : Int) + (1 : Int) + (1 : Int) + (20 : Int) * (12 : Int) ∧ (0 : Int) ≤ w_ A24_ ∧ w_ A24_ + (3 : Int) * w_ A23_ ≤ g_rdPick b p (3 : Int) % (3 : Int) + (3 : Int) * (12 : Int) ∧ bodiesOk A19_ = true ∧ idsLtB (w_ A24_) A19_ ∧ (↑(List.length A19_) : Int) + w_ A23_ = (12 : Int) ∧ dGo y18f0_ (n_ A31_) (Prod.fst y18s1_ + A20_ + (1 : Int) + (1 : Int) + (1 : Int) + (1 : Int) + (1 : Int)) (w_ A24_) A19_ = dGo b (n_ (12 : Int)) A32_ A33_ []) ∧ n_ A31_ < n_ y18s5_) ((List.length y18f3_ + List.length [Subtype.val A21_]) * (96 : Nat) ≤ room ∧ ((0 : Int) ≤ y18f1_ + A20_ + (1 : Int) ∧ y18f1_ + A20_ + (1 : Int) + (1 : Int) ≤ (1000000000000 : Int) ∧ BytesOk y18f0_ ∧ (1 : Int) ≤ (3 : Int)) ∧ Holds (Prod.fst y18 = b ∧ (0 : Int) ≤ w_ A23_ ∧ w_ A23_ ≤ (12 : Int) ∧ (0 : Int) ≤ y18f1_ + A20_ + (1 : Int) + (1 : Int) ∧ y18f1_ + A20_ + (1 : Int) + (1 : Int) + (20 : Int) * w_ A23_ ≤ p + (1 : Int) + (1 : Int) + (1 : Int) + (20 : Int) * (12 : Int) ∧ (0 : Int) ≤ w_ A26_ ∧ w_ A26_ + (3 : Int) * w_ A23_ ≤ g_rdPick b p (3 : Int) % (3 : Int) + (3 : Int) * (12 : Int) ∧ bodiesOk A29_ = true ∧ idsLtB (w_ A26_) A29_ ∧ (↑(List.length A29_) : Int) + w_ A23_ = (12 : Int) ∧ dGo y18f0_ (n_ A31_) (Prod.fst y18s1_ + A20_ + (1 : Int) + (1 : Int)) (w_ A26_) A29_ = dGo b (n_ (12 : Int)) A32_ A33_ []) ∧ n_ A31_ < n_ y18s5_)) ((List.length y18f3_ + List.length [Subtype.val A21_]) * (96 : Nat) ≤ room ∧ ((0 : Int) ≤ y18f1_ + A20_ ∧ y18f1_ + A20_ + (1 : Int) ≤ (1000000000000 : Int) ∧ BytesOk y18f0_ ∧ (1 : Int) ≤ (3 : Int)) ∧ Holds (Prod.fst y18 = b ∧ (0 : Int) ≤ w_ A23_ ∧ w_ A23_ ≤ (12 : Int) ∧ (0 : Int) ≤ y18f1_ + A20_ + (1 : Int) ∧ y18f1_ + A20_ + (1 : Int) + (20 : Int) * w_ A23_ ≤ p + (1 : Int) + (1 : Int) + (1 : Int) + (20 : Int) * (12 : Int) ∧ (0 : Int) ≤ w_ A27_ ∧ w_ A27_ + (3 : Int) * w_ A23_ ≤ g_rdPick b p (3 : Int) % (3 : Int) + (3 : Int) * (12 : Int) ∧ bodiesOk A29_ = true ∧ idsLtB (w_ A27_) A29_ ∧ (↑(List.length A29_) : Int) + w_ A23_ = (12 : Int) ∧ dGo y18f0_ (n_ A31_) A30_ (w_ A27_) A29_ = dGo b (n_ (12 : Int)) A32_ A33_ []) ∧ n_ A31_ < n_ y18s5_)) (((0 : Int) ≤ y18f1_ ∧ y18f1_ + (1 : Int) ≤ (1000000000000 : Int) ∧ BytesOk y18f0_ ∧ (1 : Int) ≤ (4 : Int)) ∧ ifB (g_rdPick y18f0_ y18f1_ (4 : Int) % (4 : Int) == (0 : Int)) (((0 : Int) ≤ y18f1_ + (1 : Int) ∧ y18f1_ + (1 : Int) + (1 : Int) ≤ (1000000000000 : Int) ∧ BytesOk y18f0_ ∧ (1 : Nat) ≤ List.length [(0 : Int), (32 : Int)]) ∧ (bodiesOk y18f3_ = true ∧ (0 : Int) ≤ ii_ [(0 : Int), (32 : Int)] A25_ ∧ ii_ [(0 : Int), (32 : Int)] A25_ ≤ (2560 : Int)) ∧ ((0 : Nat) + List.length (stepF y18f3_ (ii_ [(0 : Int), (32 : Int)] A25_))) * (96 : Nat) ≤ room ∧ Q (SV.vec (2 : Nat)) [(false, Blk.vec Ty.byte y18f0_), (true, Blk.box [SV.vec (0 : Nat), s_ (Prod.fst y18s1_ + (1 : Int) + (1 : Int))]), (true, Blk.vec Ty.body ([] ++ stepF y18f3_ (ii_ [(0 : Int), (32 : Int)] A25_)))]) (Q (SV.vec (2 : Nat)) [(false, Blk.vec Ty.byte y18f0_), (true, Blk.box [SV.vec (0 : Nat), s_ (Prod.fst y18s1_ + (1 : Int))]), (true, Blk.vec Ty.body y18f3_)]))) (Holds (b = b ∧ (0 : Int) ≤ g_rdPick b (p + (1 : Int)) (7 : Int) % (7 : Int) ∧ g_rdPick b (p + (1 : Int)) (7 : Int) % (7 : Int) ≤ g_rdPick b (p + (1 : Int)) (7 : Int) % (7 : Int) ∧ (0 : Int) ≤ p + (1 : Int) + (1 : Int) + (1 : Int) ∧ p + (1 : Int) + (1 : Int) + (1 : Int) + (20 : Int) * A34_ ≤ p + (1 : Int) + (1 : Int) + (1 : Int) + (20 : Int) * A34_ ∧ (0 : Int) ≤ g_rdPick b p (3 : Int) % (3 : Int) ∧ g_rdPick b p (3 : Int) % (3 : Int) + (3 : Int) * A34_ ≤ g_rdPick b p (3 : Int) % (3 : Int) + (3 : Int) * A34_ ∧ bodiesOk [] = true ∧ idsLtB A35_ [] ∧ (0 : Int) + g_rdPick b (p + (1 : Int)) (7 : Int) % (7 : Int) = g_rdPick b (p + (1 : Int)) (7 : Int) % (7 : Int) ∧ dGo b (n_ A34_) A36_ A35_ [] = dGo b (n_ A34_) A36_ A35_ []) ∧ ∀ (y1 : List Int × Int × Unit × List Body × Int × Int), let y1f0_ := Prod.fst y1; let y1s1_ := Prod.snd y1; let y1f1_ := Prod.fst (Prod.snd y1); let y1s3_ := Prod.snd (Prod.snd (Prod.snd y1)); let y1f3_ := Prod.fst (Prod.snd (Prod.snd (Prod.snd y1))); let y1s4_ := Prod.snd (Prod.snd (Prod.snd (Prod.snd y1))); let y1f4_ := Prod.fst (Prod.snd (Prod.snd (Prod.snd (Prod.snd y1)))); let y1s5_ := Prod.snd (Prod.snd (Prod.snd (Prod.snd (Prod.snd y1)))); let A17_ := A35_; let A16_ := A36_; let A12_ := (↑(List.length y1f3_) : Int); let A9_ := (n_ (g_rdPick y1f0_ (Prod.fst y1s1_ + (1 : Int)) (↑(List.length [(0 : Int), (32 : Int)]) : Int) % (↑(List.length [(0 : Int), (32 : Int)]) : Int))); let A8_ := (Prod.snd y1s4_ - (1 : Int)); let A15_ := (w_ A8_); let A6_ := A34_; let A4_ := (Prod.fst (g_l11Body y1f0_ y1f1_ y1f4_)); let A13_ := (Prod.fst y1s3_ ++ [Subtype.val A4_]); let A3_ := (↑(Prod.snd (g_l11Body y1f0_ y1f1_ y1f4_) % (16 : Nat)) : Int); let A14_ := (Prod.fst y1s1_ + A3_ + (1 : Int)); let A11_ := (w_ (Prod.fst y1s4_ + (1 : Int)) + g_rdPick y1f0_ (Prod.fst y1s1_ + A3_) (3 : Int) % (3 : Int)); let A10_ := (w_ (Prod.fst y1s4_ + (1 : Int)) + g_rdPick y1f0_ A14_ (3 : Int) % (3 : Int)); let A7_ := (w_ (Prod.fst y1s4_ + (1 : Int)) + g_rdPick y1f0_ (Prod.fst y1s1_ + A3_ + (1 : Int) + (1 : Int) + (1 : Int) + (1 : Int)) (3 : Int) % (3 : Int)); let A5_ := (Vec.mk (withinS (w_ (w_ (Vec.X (Body.At (Ty.ix Ty.body y1f3_ (n_ (g_rdPick y1f0_ A14_ A12_ % A12_)))) + w_ (g_rdPick y1f0_ (Prod.fst y1s1_ + A3_ + (1 : Int) + (1 : Int)) (256 : Int) % (256 : Int) * (4 : Int))) - (512 : Int))) (2560000 : Int)) (withinS (w_ (w_ (Vec.Y (Body.At (Ty.ix Ty.body y1f3_ (n_ (g_rdPick y1f0_ A14_ A12_ % A12_)))) + w_ (g_rdPick y1f0_ (Prod.fst y1s1_ + A3_ + (1 : Int) + (1 : Int) + (1 : Int)) (256 : Int) % (256 : Int) * (4 : Int))) - (512 : Int))) (2560000 : Int))); let A2_ := (Prod.fst y1s3_ ++ [Body.mk (Body.Id (Subtype.val A4_)) (Body.Shape (Subtype.val A4_)) A5_ (Body.Drive (Subtype.val A4_)) (Body.Mass (Subtype.val A4_)) (Body.Bounce (Subtype.val A4_)) (Body.Rub (Subtype.val A4_)) (Body.Quiet (Subtype.val A4_))]); Holds (Prod.fst y1 = b ∧ (0 : Int) ≤ y1s5_ ∧ y1s5_ ≤ g_rdPick b (p + (1 : Int)) (7 : Int) % (7 : Int) ∧ (0 : Int) ≤ y1f1_ ∧ y1f1_ + (20 : Int) * y1s5_ ≤ p + (1 : Int) + (1 : Int) + (1 : Int) + (20 : Int) * A6_ ∧ (0 : Int) ≤ y1f4_ ∧ y1f4_ + (3 : Int) * y1s5_ ≤ g_rdPick b p (3 : Int) % (3 : Int) + (3 : Int) * A6_ ∧ bodiesOk y1f3_ = true ∧ idsLtB y1f4_ y1f3_ ∧ A12_ + y1s5_ = g_rdPick b (p + (1 : Int)) (7 : Int) % (7 : Int) ∧ dGo y1f0_ (n_ y1s5_) y1f1_ y1f4_ y1f3_ = dGo b (n_ A6_) A16_ A17_ []) → ifB (decide (Prod.snd y1s4_ > (0 : Int))) (((0 : Int) ≤ y1f1_ ∧ y1f1_ + (15 : Int) ≤ (1000000000000 : Int) ∧ BytesOk y1f0_) ∧ ifB (decide (A12_ > (0 : Int))) (((0 : Int) ≤ y1f1_ + A3_ ∧ y1f1_ + A3_ + (1 : Int) ≤ (1000000000000 : Int) ∧ BytesOk y1f0_ ∧ (1 : Int) ≤ (3 : Int)) ∧ ifB (decide (g_rdPick y1f0_ (Prod.fst y1s1_ + A3_) (3 : Int) % (3 : Int) > (0 : Int))) (((0 : Int) ≤ y1f1_ + A3_ + (1 : Int) ∧ y1f1_ + A3_ + (1 : Int) + (1 : Int) ≤ (1000000000000 : Int) ∧ BytesOk y1f0_ ∧ (1 : Int) ≤ A12_) ∧ ((0 : Int) ≤ g_rdPick y1f0_ A14_ A12_ % A12_ ∧ g_rdPick y1f0_ A14_ A12_ % A12_ < A12_) ∧ ((0 : Int) ≤ y1f1_ + A3_ + (1 : Int) + (1 : Int) ∧ y1f1_ + A3_ + (1 : Int) + (1 : Int) + (1 : Int) ≤ (1000000000000 : Int) ∧ BytesOk y1f0_ ∧ (1 : Int) ≤ (256 : Int)) ∧ ((0 : Int) ≤ y1f1_ + A3_ + (1 : Int) + (1 : Int) + (1 : Int) ∧ y1f1_ + A3_ + (1 : Int) + (1 : Int) + (1 : Int) + (1 : Int) ≤ (1000000000000 : Int) ∧ BytesOk y1f0_ ∧ (1 : Int) ≤ (256 : Int)) ∧ (List.length y1f3_ + List.length [Body.mk (Body.Id (Subtype.val A4_)) (Body.Shape (Subtype.val A4_)) A5_ (Body.Drive (Subtype.val A4_)) (Body.Mass (Subtype.val A4_)) (Body.Bounce (Subtype.val A4_)) (Body.Rub (Subtype.val A4_)) (Body.Quiet (Subtype.val A4_))]) * (96 : Nat) ≤ room ∧ ((0 : Int) ≤ y1f1_ + A3_ + (1 : Int) + (1 : Int) + (1 : Int) + (1 : Int) ∧ y1f1_ + A3_ + (1 : Int) + (1 : Int) + (1 : Int) + (1 : Int) + (1 : Int) ≤ (1000000000000 : Int) ∧ BytesOk y1f0_ ∧ (1 : Int) ≤ (3 : Int)) ∧ Holds (Prod.fst y1 = b ∧ (0 : Int) ≤ w_ A8_ ∧ w_ A8_ ≤ g_rdPick b (p + (1 : Int)) (7 : Int) % (7 : Int) ∧ (0 : Int) ≤ y1f1_ + A3_ + (1 : Int) + (1 : Int) + (1 : Int) + (1 : Int) + (1 : Int) ∧ y1f1_ + A3_ + (1 : Int) + (1 : Int) + (1 : Int) + (1 : Int) + (1 : Int) + (20 : Int) * w_ A8_ ≤ p + (1 : Int) + (1 : Int) + (1 : Int) + (20 : Int) * A6_ ∧ (0 : Int) ≤ w_ A7_ ∧ w_ A7_ + (3 : Int) * w_ A8_ ≤ g_rdPick b p (3 : Int) % (3 : Int) + (3 : Int) * A6_ ∧ bodiesOk A2_ = true ∧ idsLtB (w_ A7_) A2_ ∧ (↑(List.length A2_) : Int) + w_ A8_ = g_rdPick b (p + (1 : Int)) (7 : Int) % (7 : Int) ∧ dGo y1f0_ (n_ A15_) (Prod.fst y1s1_ + A3_ + (1 : Int) + (1 : Int) + (1 : Int) + (1 : Int) + (1 : Int)) (w_ A7_) A2_ = dGo b (n_ A6_) A16_ A17_ []) ∧ n_ A15_ < n_ y1s5_) ((List.length y1f3_ + List.length [Subtype.val A4_]) * (96 : Nat) ≤ room ∧ ((0 : Int) ≤ y1f1_ + A3_ + (1 : Int) ∧ y1f1_ + A3_ + (1 : Int) + (1 : Int) ≤ (1000000000000 : Int) ∧ BytesOk y1f0_ ∧ (1 : Int) ≤ (3 : Int)) ∧ Holds (Prod.fst y1 = b ∧ (0 : Int) ≤ w_ A8_ ∧ w_ A8_ ≤ g_rdPick b (p + (1 : Int)) (7 : Int) % (7 : Int) ∧ (0 : Int) ≤ y1f1_ + A3_ + (1 : Int) + (1 : Int) ∧ y1f1_ + A3_ + (1 : Int) + (1 : Int) + (20 : Int) * w_ A8_ ≤ p + (1 : Int) + (1 : Int) + (1 : Int) + (20 : Int) * A6_ ∧ (0 : Int) ≤ w_ A10_ ∧ w_ A10_ + (3 : Int) * w_ A8_ ≤ g_rdPick b p (3 : Int) % (3 : Int) + (3 : Int) * A6_ ∧ bodiesOk A13_ = true ∧ idsLtB (w_ A10_) A13_ ∧ (↑(List.length A13_) : Int) + w_ A8_ = g_rdPick b (p + (1 : Int)) (7 : Int) % (7 : Int) ∧ dGo y1f0_ (n_ A15_) (Prod.fst y1s1_ + A3_ + (1 : Int) + (1 : Int)) (w_ A10_) A13_ = dGo b (n_ A6_) A16_ A17_ []) ∧ n_ A15_ < n_ y1s5_)) ((List.length y1f3_ + List.length [Subtype.val A4_]) * (96 : Nat) ≤ room ∧ ((0 : Int) ≤ y1f1_ + A3_ ∧ y1f1_ + A3_ + (1 : Int) ≤ (1000000000000 : Int) ∧ BytesOk y1f0_ ∧ (1 : Int) ≤ (3 : Int)) ∧ Holds (Prod.fst y1 = b ∧ (0 : Int) ≤ w_ A8_ ∧ w_ A8_ ≤ g_rdPick b (p + (1 : Int)) (7 : Int) % (7 : Int) ∧ (0 : Int) ≤ y1f1_ + A3_ + (1 : Int) ∧ y1f1_ + A3_ + (1 : Int) + (20 : Int) * w_ A8_ ≤ p + (1 : Int) + (1 : Int) + (1 : Int) + (20 : Int) * A6_ ∧ (0 : Int) ≤ w_ A11_ ∧ w_ A11_ + (3 : Int) * w_ A8_ ≤ g_rdPick b p (3 : Int) % (3 : Int) + (3 : Int) * A6_ ∧ bodiesOk A13_ = true ∧ idsLtB (w_ A11_) A13_ ∧ (↑(List.length A13_) : Int) + w_ A8_ = g_rdPick b (p + (1 : Int)) (7 : Int) % (7 : Int) ∧ dGo y1f0_ (n_ A15_) A14_ (w_ A11_) A13_ = dGo b (n_ A6_) A16_ A17_ []) ∧ n_ A15_ < n_ y1s5_)) (((0 : Int) ≤ y1f1_ ∧ y1f1_ + (1 : Int) ≤ (1000000000000 : Int) ∧ BytesOk y1f0_ ∧ (1 : Int) ≤ (4 : Int)) ∧ ifB (g_rdPick y1f0_ y1f1_ (4 : Int) % (4 : Int) == (0 : Int)) (((0 : Int) ≤ y1f1_ + (1 : Int) ∧ y1f1_ + (1 : Int) + (1 : Int) ≤ (1000000000000 : Int) ∧ BytesOk y1f0_ ∧ (1 : Nat) ≤ List.length [(0 : Int), (32 : Int)]) ∧ (bodiesOk y1f3_ = true ∧ (0 : Int) ≤ ii_ [(0 : Int), (32 : Int)] A9_ ∧ ii_ [(0 : Int), (32 : Int)] A9_ ≤ (2560 : Int)) ∧ ((0 : Nat) + List.length (stepF y1f3_ (ii_ [(0 : Int), (32 : Int)] A9_))) * (96 : Nat) ≤ room ∧ Q (SV.vec (2 : Nat)) [(false, Blk.vec Ty.byte y1f0_), (true, Blk.box [SV.vec (0 : Nat), s_ (Prod.fst y1s1_ + (1 : Int) + (1 : Int))]), (true, Blk.vec Ty.body ([] ++ stepF y1f3_ (ii_ [(0 : Int), (32 : Int)] A9_)))]) (Q (SV.vec (2 : Nat)) [(false, Blk.vec Ty.byte y1f0_), (true, Blk.box [SV.vec (0 : Nat), s_ (Prod.fst y1s1_ + (1 : Int))]), (true, Blk.vec Ty.body y1f3_)])))) := by kernel_rfl

theorem ok_l11Bodies : FsOk Tryz.prog 88 fs_l11Bodies := fsOk_of tt_ok (tabFs_cons ok_rdPick (tabFs_cons ok_rdOne (tabFs_cons ok_l11Body (tabFs_cons ok_specWithin (tabFs_cons ok_l9Step tabFs_nil))))) mixed Tryz.func88 (by kernel_rfl) (by kernel_rfl) (by
    intro args LL p r HH h hp
    unfold fs_l11Bodies at h
    dsimp only at h
    split at h
    case h_2 => cases h
    rename_i b p
    simp only [Option.some.injEq, Prod.mk.injEq] at h
    obtain ⟨rfl, rfl, rfl⟩ := h
    refine ⟨by simp [Form, stays], (L_l11Bodies), ?_⟩
    rw [vc_l11Bodies]
    try dsimp only
    obtain ⟨hp0, hp1, hby⟩ := hp _ rfl
    have k1 := pk_lt b (p + 1) (n := 7) (by omega)
    have k2 := pk_lt b p (n := 3) (by omega)
    simp only [pk] at k1 k2
    refine ⟨⟨hp0, by omega, hby, by omega⟩, ⟨by omega, by omega, hby, by omega⟩, ⟨by omega, by omega, hby, by omega⟩, ifB_of (fun c => ⟨⟨(by trivial), by omega, by omega, by omega, by omega, k2.1, by omega, (by trivial), ids_nil _, by omega, (by trivial)⟩, ?_⟩) (fun c => ⟨⟨(by trivial), k1.1, by omega, by omega, by omega, k2.1, by omega, (by trivial), ids_nil _, by omega, (by trivial)⟩, ?_⟩)⟩
    case' refine_1 =>
      have hd : dDraw b p = dEnd b (dGo b (12 : Int).toNat (p + 1 + 1 + 1) (g_rdPick b p 3 % 3) []) := by
        unfold dDraw
        rw [show (pk b (p + 1 + 1) 20 == 0) = true from c]
        rfl
      obtain ⟨n0, e0, n12⟩ : ∃ n0 : Int, n0 = 12 ∧ n0 ≤ 12 := ⟨12, rfl, by omega⟩
      rw [hd, ← e0]
      clear e0
    case' refine_2 =>
      have hd : dDraw b p = dEnd b (dGo b (g_rdPick b (p + 1) 7 % 7).toNat (p + 1 + 1 + 1) (g_rdPick b p 3 % 3) []) := by
        unfold dDraw
        rw [show (pk b (p + 1 + 1) 20 == 0) = false from c]
        rfl
      have n12 : g_rdPick b (p + 1) 7 % 7 ≤ 12 := by omega
      rw [hd]
      generalize g_rdPick b (p + 1) 7 % 7 = n0 at *
    all_goals
      clear hd c
      generalize g_rdPick b p 3 % 3 = id0 at *
      rintro ⟨b', p', u, xs, id, n⟩ ⟨h⟩
      dsimp only at h ⊢
      obtain ⟨rfl, i1, i2, i3, i4, i5, i6, i7, i8, i9, i10⟩ := h
      refine ifB_of (fun c => ?_) (fun c => ?_)
      · have c := of_decide_eq_true c
        refine ⟨⟨i3, by omega, hby⟩, ifB_of (fun c1 => ⟨⟨by omega, by omega, hby, by omega⟩, ifB_of (fun c2 => ?_) (fun c2 => ?_)⟩) (fun c1 => ?_)⟩
        · have hl : 0 < (xs.length : Int) := of_decide_eq_true c1
          have hx := pk_lt b' (p' + cn b' p' id + 1) (n := xs.length) (by omega)
          have e := dGo_next (b := b') (p := p') (id := id) (topP := p + 1 + 1 + 1 + 20 * n0) (topI := id0 + 3 * n0) (show dStep b' p' id xs = (p' + cn b' p' id + 1 + 1 + 1 + 1 + 1, W (W (id + 1) + pk b' (p' + cn b' p' id + 1 + 1 + 1 + 1) 3), xs ++ [{ bd b' p' id with At := nearP b' (p' + cn b' p' id + 1 + 1) (Ty.ix .body xs (pk b' (p' + cn b' p' id + 1) xs.length).toNat).At }]) by unfold dStep; dsimp only; rw [c1, show decide (pk b' (p' + cn b' p' id) 3 > 0) = true from c2]; rfl) c i2 n12 i3 i4 i5 i6 (by omega) i7 i8 i9 i10
          exact ⟨⟨by omega, by omega, hby, by omega⟩, hx, ⟨by omega, by omega, hby, by omega⟩, ⟨by omega, by omega, hby, by omega⟩, by simp only [room, List.length_singleton]; omega, ⟨by omega, by omega, hby, by omega⟩, ⟨e.1⟩, e.2⟩
        · have e := dGo_next (b := b') (p := p') (id := id) (topP := p + 1 + 1 + 1 + 20 * n0) (topI := id0 + 3 * n0) (show dStep b' p' id xs = (p' + cn b' p' id + 1 + 1, W (W (id + 1) + pk b' (p' + cn b' p' id + 1) 3), xs ++ [bd b' p' id]) by unfold dStep; dsimp only; rw [c1, show decide (pk b' (p' + cn b' p' id) 3 > 0) = false from c2]; rfl) c i2 n12 i3 i4 i5 i6 (by omega) i7 i8 i9 i10
          exact ⟨by simp only [room, List.length_singleton]; omega, ⟨by omega, by omega, hby, by omega⟩, ⟨e.1⟩, e.2⟩
        · have e := dGo_next (b := b') (p := p') (id := id) (topP := p + 1 + 1 + 1 + 20 * n0) (topI := id0 + 3 * n0) (show dStep b' p' id xs = (p' + cn b' p' id + 1, W (W (id + 1) + pk b' (p' + cn b' p' id) 3), xs ++ [bd b' p' id]) by unfold dStep; dsimp only; rw [c1]; rfl) c i2 n12 i3 i4 i5 i6 (by omega) i7 i8 i9 i10
          exact ⟨by simp only [room, List.length_singleton]; omega, ⟨by omega, by omega, hby, by omega⟩, ⟨e.1⟩, e.2⟩
      · have c := of_decide_eq_false c
        have hn : n.toNat = 0 := by omega
        rw [hn] at i10
        have i10 : (p', xs) = _ := i10
        rw [← i10]
        have hle := bodiesOk_len i7
        refine ⟨⟨i3, by omega, hby, by omega⟩, ifB_of (fun c1 => ?_) (fun c1 => ?_)⟩
        · have hlf := length_stepF xs (Ty.ix .int ([0, 32] : List Int) (g_rdPick b' (p' + 1) 2 % 2).toNat)
          refine ⟨⟨by omega, by omega, hby, by simp⟩, ⟨i7, (ix032 _).1, (ix032 _).2⟩, by simp only [room, length_stepF]; omega, ?_⟩
          have hd : dEnd b' (p', xs) = (p' + 1 + 1, stepF xs (Ty.ix .int ([0, 32] : List Int) (g_rdPick b' (p' + 1) 2 % 2).toNat)) := by
            unfold dEnd
            rw [show (pk b' (p', xs).1 4 == 0) = true from c1]
            rfl
          rw [hd]
          exact ⟨(by trivial), (by trivial)⟩
        · have hd : dEnd b' (p', xs) = (p' + 1, xs) := by
            unfold dEnd
            rw [show (pk b' (p', xs).1 4 == 0) = false from c1]
            rfl
          rw [hd]
          exact ⟨(by trivial), (by trivial)⟩)

def bodiesP (xs : List Body) : Prop := xs.length ≤ 13
instance : Nonempty {x : List Body // bodiesP x} := ⟨⟨[], by simp [bodiesP]⟩⟩
noncomputable def g_l11AnyBodies (b : List Int) (p : Int) : ({x : List Body // bodiesP x}) × Nat := someAns tt (look [(69, fs_rdPick), (88, fs_l11Bodies), (87, fs_l11AnyBody)]) Tryz.f50 [.ptr 1 0 0] [(false, .vec .byte b), (true, .box [.vec 0, .int .i64 p])] (fun x : ({x : List Body // bodiesP x}) × Nat => (.vec 2 : SV)) (fun x : ({x : List Body // bodiesP x}) × Nat => ([(false, .vec .byte b), (true, .box [.vec 0, .int .i64 (p + ((x.2 % 451 : Nat) : Int))]), (true, .vec .body (x.1.1))] : List Ent))
noncomputable def fs_l11AnyBodies : Fs := ⟨[], fun args H => match args, H with
  | [.ptr 1 0 0], [(false, .vec .byte b), (true, .box [.vec 0, .int .i64 p])] => some ((some (0 ≤ p ∧ p + 450 ≤ 1000000000000 ∧ BytesOk b)), .vec 2, [(false, .vec .byte b), (true, .box [.vec 0, .int .i64 (p + (((g_l11AnyBodies b p).2 % 451 : Nat) : Int))]), (true, .vec .body ((g_l11AnyBodies b p).1.1))])
  | _, _ => none⟩

theorem vc_l11AnyBodies (b : List Int) (p : Int) (Q : SV → List Ent → Prop) :
    fnVC tt (look [(69, fs_rdPick), (88, fs_l11Bodies), (87, fs_l11AnyBody)]) L0 Tryz.f50 [.ptr 1 0 0] [(false, .vec .byte b), (true, .box [.vec 0, .int .i64 p])] Q =
    (((0 : Int) ≤ p ∧ p + (400 : Int) ≤ (1000000000000 : Int) ∧ BytesOk b) ∧ ifB ((↑(List.length (Prod.snd (dDraw b p))) : Int) == (0 : Int)) (Q (SV.vec (2 : Nat)) [(false, Blk.vec Ty.byte b), (true, Blk.box [SV.vec (0 : Nat), SV.int IntKind.i64 (Prod.fst (dDraw b p))]), (true, Blk.vec Ty.body (Prod.snd (dDraw b p)))]) (((0 : Int) ≤ Prod.fst (dDraw b p) ∧ Prod.fst (dDraw b p) + (1 : Int) ≤ (1000000000000 : Int) ∧ BytesOk b ∧ (1 : Int) ≤ (↑(List.length (Prod.snd (dDraw b p))) : Int)) ∧ ((0 : Int) ≤ Prod.fst (dDraw b p) + (1 : Int) ∧ Prod.fst (dDraw b p) + (1 : Int) + (1 : Int) ≤ (1000000000000 : Int) ∧ BytesOk b ∧ (1 : Int) ≤ (20 : Int)) ∧ ifB (g_rdPick b (Prod.fst (dDraw b p) + (1 : Int)) (20 : Int) % (20 : Int) == (0 : Int)) (((0 : Int) ≤ Prod.fst (dDraw b p) + (1 : Int) + (1 : Int) ∧ Prod.fst (dDraw b p) + (1 : Int) + (1 : Int) + (24 : Int) ≤ (1000000000000 : Int) ∧ BytesOk b) ∧ ((0 : Int) ≤ g_rdPick b (Prod.fst (dDraw b p)) (↑(List.length (Prod.snd (dDraw b p))) : Int) % (↑(List.length (Prod.snd (dDraw b p))) : Int) ∧ g_rdPick b (Prod.fst (dDraw b p)) (↑(List.length (Prod.snd (dDraw b p))) : Int) % (↑(List.length (Prod.snd (dDraw b p))) : Int) < (↑(List.length (Prod.snd (dDraw b p))) : Int)) ∧ Q (SV.vec (2 : Nat)) [(false, Blk.vec Ty.byte b), (true, Blk.box [SV.vec (0 : Nat), SV.int IntKind.i64 (Prod.fst (dDraw b p) + (1 : Int) + (1 : Int) + (↑(Prod.snd (g_l11AnyBody b (Prod.fst (dDraw b p) + (1 : Int) + (1 : Int))) % (25 : Nat)) : Int))]), (true, Blk.vec Ty.body (List.set (Prod.snd (dDraw b p)) (Int.toNat (g_rdPick b (Prod.fst (dDraw b p)) (↑(List.length (Prod.snd (dDraw b p))) : Int) % (↑(List.length (Prod.snd (dDraw b p))) : Int))) (Prod.fst (g_l11AnyBody b (Prod.fst (dDraw b p) + (1 : Int) + (1 : Int))))))]) (ifB (g_rdPick b (Prod.fst (dDraw b p) + (1 : Int)) (20 : Int) % (20 : Int) == (1 : Int)) (((0 : Int) ≤ (0 : Int) ∧ (0 : Int) < (↑(List.length (Prod.snd (dDraw b p))) : Int)) ∧ (List.length (Prod.snd (dDraw b p)) + List.length [Ty.ix Ty.body (Prod.snd (dDraw b p)) (Int.toNat (0 : Int))]) * (96 : Nat) ≤ room ∧ Q (SV.vec (2 : Nat)) [(false, Blk.vec Ty.byte b), (true, Blk.box [SV.vec (0 : Nat), SV.int IntKind.i64 (Prod.fst (dDraw b p) + (1 : Int) + (1 : Int))]), (true, Blk.vec Ty.body (Prod.snd (dDraw b p) ++ [Ty.ix Ty.body (Prod.snd (dDraw b p)) (Int.toNat (0 : Int))]))]) (Q (SV.vec (2 : Nat)) [(false, Blk.vec Ty.byte b), (true, Blk.box [SV.vec (0 : Nat), SV.int IntKind.i64 (Prod.fst (dDraw b p) + (1 : Int) + (1 : Int))]), (true, Blk.vec Ty.body (Prod.snd (dDraw b p)))])))) := by kernel_rfl

theorem ok_l11AnyBodies : FsOk Tryz.prog 50 fs_l11AnyBodies := fsOk_of tt_ok (tabFs_cons ok_rdPick (tabFs_cons ok_l11Bodies (tabFs_cons ok_l11AnyBody tabFs_nil))) mixed Tryz.func50 (by kernel_rfl) (by kernel_rfl) (by
    intro args LL p0 r HH h hp
    unfold fs_l11AnyBodies at h
    dsimp only at h
    split at h
    case h_2 => cases h
    rename_i b p
    simp only [Option.some.injEq, Prod.mk.injEq] at h
    obtain ⟨rfl, rfl, rfl⟩ := h
    refine ⟨by simp [Form, stays], L0, ?_⟩
    obtain ⟨hp0, hp1, hby⟩ := hp _ rfl
    refine someAns_ok (R := (fun x : ({x : List Body // bodiesP x}) × Nat => (.vec 2 : SV))) (HH := (fun x : ({x : List Body // bodiesP x}) × Nat => ([(false, .vec .byte b), (true, .box [.vec 0, .int .i64 (p + ((x.2 % 451 : Nat) : Int))]), (true, .vec .body (x.1.1))] : List Ent))) (by kernel_rfl) ?_
    have fin : ∀ (z : List Body) (p' : Int), bodiesP z → p ≤ p' → p' ≤ p + 450 → ∃ x : ({x : List Body // bodiesP x}) × Nat, ((.vec 2 : SV) : SV) = (fun x : ({x : List Body // bodiesP x}) × Nat => (.vec 2 : SV)) x ∧ (([(false, .vec .byte b), (true, .box [.vec 0, .int .i64 p']), (true, .vec .body (z))] : List Ent) : List Ent) = (fun x : ({x : List Body // bodiesP x}) × Nat => ([(false, .vec .byte b), (true, .box [.vec 0, .int .i64 (p + ((x.2 % 451 : Nat) : Int))]), (true, .vec .body (x.1.1))] : List Ent)) x := fun z p' hpred h1 h2 => ⟨(⟨z, hpred⟩, (p' - p).toNat), rfl, by
      have : p + (((p' - p).toNat % 451 : Nat) : Int) = p' := by omega
      dsimp only
      rw [this]⟩
    rw [vc_l11AnyBodies]
    try dsimp only
    try dsimp only at fin
    obtain ⟨d1, d2, d3⟩ := dDraw_spec (b := b) (p := p)
    have dl := bodiesOk_len d3
    generalize dDraw b p = d at *
    obtain ⟨q, xs⟩ := d
    dsimp only at d1 d2 d3 dl ⊢
    refine ⟨⟨hp0, by omega, hby⟩, ifB_of (fun c => ?_) (fun c => ?_)⟩
    · exact fin _ _ (by simp only [bodiesP]; omega) (by omega) (by omega)
    · have hl : 0 < (xs.length : Int) := by
        have : ¬ (xs.length : Int) = 0 := by simpa using c
        omega
      have hk := pk_lt b q (n := xs.length) (by omega)
      simp only [pk] at hk
      refine ⟨⟨by omega, by omega, hby, by omega⟩, ⟨by omega, by omega, hby, by omega⟩, ifB_of (fun _ => ⟨⟨by omega, by omega, hby⟩, hk, fin _ _ (by simp only [bodiesP, List.length_set]; omega) (by omega) (by omega)⟩) (fun _ => ifB_of (fun _ => ?_) (fun _ => ?_))⟩
      · exact ⟨⟨by omega, hl⟩, by simp only [room, List.length_cons, List.length_nil]; omega, fin _ _ (by simp only [bodiesP, List.length_append, List.length_cons, List.length_nil]; omega) (by omega) (by omega)⟩
      · exact fin _ _ (by simp only [bodiesP]; omega) (by omega) (by omega))

def pushD (z : List Body × List Contact) : Prop := z.1.length ≤ 13 ∧ z.2.length ≤ 145
instance : Nonempty {x : List Body × List Contact // pushD x} := ⟨⟨([], []), by simp [pushD]⟩⟩
def worldD (z : Int × Int × List Body × List Pair) : Prop := z.2.2.1.length ≤ 13 ∧ z.2.2.2.length ≤ 145
instance : Nonempty {x : Int × Int × List Body × List Pair // worldD x} := ⟨⟨(0, 0, [], []), by simp [worldD]⟩⟩
end
end Go.Proofs.YtnahfbjdicjdpaaGreat.Sym

namespace Go.Proofs.YtnahfbjdicjdpaaGreat.Sym
open Go
set_option linter.unusedVariables false
set_option linter.unusedSimpArgs false
set_option maxRecDepth 100000
noncomputable section

abbrev Wd := Int × Int × List Body × List Pair
end
end Go.Proofs.YtnahfbjdicjdpaaGreat.Sym

namespace Go.Proofs.YtnahfbjdicjdpaaGreat.Sym
open Go
set_option linter.unusedVariables false
set_option linter.unusedSimpArgs false
set_option maxRecDepth 100000
noncomputable section
def drawStepP (z : List Body × Int) : Prop := z.1.length ≤ 13
instance : Nonempty {x : List Body × Int // drawStepP x} := ⟨⟨([], 0), by simp [drawStepP]⟩⟩
noncomputable def g_DrawStep (b : List Int) : {x : List Body × Int // drawStepP x} := someAns tt (look [(49, fs_l1Open), (50, fs_l11AnyBodies), (51, fs_rdOne)]) Tryz.f15 [.vec 0] [(false, .vec .byte b)] (fun x : {x : List Body × Int // drawStepP x} => (.tup [.vec 1, .int .i64 ((x.1).2)] : SV)) (fun x : {x : List Body × Int // drawStepP x} => ([(false, .vec .byte b), (true, .vec .body ((x.1).1))] : List Ent))
noncomputable def fs_DrawStep : Fs := ⟨[], fun args H => match args, H with
  | [.vec 0], [(false, .vec .byte b)] => some ((some (BytesOk b)), .tup [.vec 1, .int .i64 (((g_DrawStep b).1).2)], [(false, .vec .byte b), (true, .vec .body (((g_DrawStep b).1).1))])
  | _, _ => none⟩

theorem vc_DrawStep (b : List Int) (Q : SV → List Ent → Prop) :
    fnVC tt (look [(49, fs_l1Open), (50, fs_l11AnyBodies), (51, fs_rdOne)]) L0 Tryz.f15 [.vec 0] [(false, .vec .byte b)] Q =
    (((0 : Int) ≤ (0 : Int) ∧ (0 : Int) + (450 : Int) ≤ (1000000000000 : Int) ∧ BytesOk (List.take (min (List.length b) (2000 : Nat)) (List.drop (0 : Nat) b))) ∧ ((0 : Int) ≤ (0 : Int) + (↑(Prod.snd (g_l11AnyBodies (List.take (min (List.length b) (2000 : Nat)) (List.drop (0 : Nat) b)) (0 : Int)) % (451 : Nat)) : Int) ∧ (0 : Int) + (↑(Prod.snd (g_l11AnyBodies (List.take (min (List.length b) (2000 : Nat)) (List.drop (0 : Nat) b)) (0 : Int)) % (451 : Nat)) : Int) + (1 : Int) ≤ (1000000000000 : Int) ∧ BytesOk (List.take (min (List.length b) (2000 : Nat)) (List.drop (0 : Nat) b)) ∧ (1 : Nat) ≤ List.length [(0 : Int), (0 : Int), (32 : Int), (32 : Int), (8 : Int), (2560 : Int), (2561 : Int), (-1 : Int)]) ∧ Q (SV.tup [SV.vec (1 : Nat), SV.int IntKind.i64 (Ty.ix Ty.int [(0 : Int), (0 : Int), (32 : Int), (32 : Int), (8 : Int), (2560 : Int), (2561 : Int), (-1 : Int)] (Int.toNat (g_rdPick (List.take (min (List.length b) (2000 : Nat)) (List.drop (0 : Nat) b)) ((0 : Int) + (↑(Prod.snd (g_l11AnyBodies (List.take (min (List.length b) (2000 : Nat)) (List.drop (0 : Nat) b)) (0 : Int)) % (451 : Nat)) : Int)) (↑(List.length [(0 : Int), (0 : Int), (32 : Int), (32 : Int), (8 : Int), (2560 : Int), (2561 : Int), (-1 : Int)]) : Int) % (↑(List.length [(0 : Int), (0 : Int), (32 : Int), (32 : Int), (8 : Int), (2560 : Int), (2561 : Int), (-1 : Int)]) : Int))))]) [(false, Blk.vec Ty.byte b), (true, Blk.vec Ty.body (Subtype.val (Prod.fst (g_l11AnyBodies (List.take (min (List.length b) (2000 : Nat)) (List.drop (0 : Nat) b)) (0 : Int)))))]) := by kernel_rfl

theorem ok_DrawStep : FsOk Tryz.prog 15 fs_DrawStep := fsOk_of tt_ok (tabFs_cons ok_l1Open (tabFs_cons ok_l11AnyBodies (tabFs_cons ok_rdOne tabFs_nil))) mixed Tryz.func15 (by kernel_rfl) (by kernel_rfl) (by
    intro args LL p0 r HH h hp
    unfold fs_DrawStep at h
    dsimp only at h
    split at h
    case h_2 => cases h
    rename_i b
    simp only [Option.some.injEq, Prod.mk.injEq] at h
    obtain ⟨rfl, rfl, rfl⟩ := h
    refine ⟨by simp [Form, stays], L0, ?_⟩
    have hby := hp _ rfl
    refine someAns_ok (R := (fun x : {x : List Body × Int // drawStepP x} => (.tup [.vec 1, .int .i64 ((x.1).2)] : SV))) (HH := (fun x : {x : List Body × Int // drawStepP x} => ([(false, .vec .byte b), (true, .vec .body ((x.1).1))] : List Ent))) (by kernel_rfl) ?_
    have fin : ∀ (z0 : List Body) (z1 : Int), drawStepP (z0, z1) → ∃ x : {x : List Body × Int // drawStepP x}, ((.tup [.vec 1, .int .i64 (((z0, z1)).2)] : SV) : SV) = (fun x : {x : List Body × Int // drawStepP x} => (.tup [.vec 1, .int .i64 ((x.1).2)] : SV)) x ∧ (([(false, .vec .byte b), (true, .vec .body (((z0, z1)).1))] : List Ent) : List Ent) = (fun x : {x : List Body × Int // drawStepP x} => ([(false, .vec .byte b), (true, .vec .body ((x.1).1))] : List Ent)) x := fun z0 z1 hpred => ⟨⟨(z0, z1), hpred⟩, rfl, rfl⟩
    rw [vc_DrawStep]
    try dsimp only
    try dsimp only at fin
    have hc := hby.part 0 (min b.length 2000)
    generalize List.take (min b.length 2000) (List.drop 0 b) = c at *
    have hw := (g_l11AnyBodies c 0).1.2
    simp only [bodiesP] at hw
    repeat' (first | refine ifB_of (fun _ => ?_) (fun _ => ?_) | refine pre_of ?_ (fun _ => ?_))
    all_goals first
      | omega
      | exact hc
      | exact Nat.le_add_left _ _
      | (refine fin _ _ ?_; exact hw)
      | (simp only [room, List.length_cons, List.length_nil]; omega))

def drawStepsP (z : List Body × Int × Int) : Prop := z.1.length ≤ 13 ∧ 0 ≤ z.2.1 ∧ z.2.1 ≤ 2560
instance : Nonempty {x : List Body × Int × Int // drawStepsP x} := ⟨⟨([], 0, 0), by simp [drawStepsP]⟩⟩
def goneD (z : Wd × Int) : Prop := worldD z.1
instance : Nonempty {x : Wd × Int // goneD x} := ⟨⟨((0, 0, [], []), 0), by simp [goneD, worldD]⟩⟩
def putD (z : Wd × Body) : Prop := worldD z.1
instance : Nonempty {x : Wd × Body // putD x} := ⟨⟨((0, 0, [], []), ⟨0, ⟨0, 0, 0⟩, ⟨0, 0⟩, ⟨0, 0⟩, 0, 0, 0, 0⟩), by simp [putD, worldD]⟩⟩
end
end Go.Proofs.YtnahfbjdicjdpaaGreat.Sym

namespace Go.Proofs.YtnahfbjdicjdpaaGreat.Sym
open Go
set_option linter.unusedVariables false
set_option linter.unusedSimpArgs false
set_option maxRecDepth 100000

/-- Not of a contact. -/
def offC (k : Nat) (c : Contact) : Prop := k ≠ c.A.toNat ∧ k ≠ c.B.toNat
theorem pushOne_off {xs : List Body} {c : Contact} {z : Bool} {k : Nat} (h : offC k c) : Ty.ix .body (pushOne xs c z) k = Ty.ix .body xs k := by
  unfold pushOne
  dsimp only
  split
  · rw [ix_set_ne (T := .body) (fun e => h.2 e.symm), ix_set_ne (T := .body) (fun e => h.1 e.symm)]
  · rfl
theorem pushRound_off {z : Bool} {k : Nat} : ∀ {cs : List Contact} {xs : List Body}, (∀ c, c ∈ cs → offC k c) → Ty.ix .body (pushRound xs z cs) k = Ty.ix .body xs k
  | [], _, _ => rfl
  | c :: r, xs, h => (pushRound_off (cs := r) fun d hd => h d (List.mem_cons_of_mem _ hd)).trans (pushOne_off (h c List.mem_cons_self))
theorem pushAllF_off {k : Nat} {cs : List Contact} {xs : List Body} (h : ∀ c, c ∈ cs → offC k c) : Ty.ix .body (pushAllF xs cs) k = Ty.ix .body xs k := by
  unfold pushAllF
  rw [pushRound_off h, pushRound_off h, pushRound_off h, pushRound_off h]
theorem apartOne_off {xs : List Body} {c : Contact} {k : Nat} (h : offC k c) : Ty.ix .body (apartOne xs c) k = Ty.ix .body xs k := by
  have e1 : ∀ (v : Body) (ys : List Body), Ty.ix .body (ys.set c.A.toNat v) k = Ty.ix .body ys k := fun v ys => ix_set_ne (T := .body) (fun e => h.1 e.symm)
  have e2 : ∀ (v : Body) (ys : List Body), Ty.ix .body (ys.set c.B.toNat v) k = Ty.ix .body ys k := fun v ys => ix_set_ne (T := .body) (fun e => h.2 e.symm)
  unfold apartOne
  dsimp only
  split
  · rfl
  · split
    · split
      · rfl
      · rw [e1]
    · rw [e2]
      split
      · rfl
      · rw [e1]
theorem apartF_off {k : Nat} : ∀ {cs : List Contact} {xs : List Body}, (∀ c, c ∈ cs → offC k c) → Ty.ix .body (apartF xs cs) k = Ty.ix .body xs k
  | [], _, _ => rfl
  | c :: r, xs, h => (apartF_off (cs := r) fun d hd => h d (List.mem_cons_of_mem _ hd)).trans (apartOne_off (h c List.mem_cons_self))
theorem pushB_fix {b : Body} {p : Vec} (h : b.Mass = 0) : pushB b p = b := by simp [pushB, h]
theorem pushOne_fix {xs : List Body} {c : Contact} {z : Bool} {k : Nat} (hk : k < xs.length) (hne : c.A.toNat ≠ c.B.toNat) (h : (Ty.ix .body xs k).Mass = 0) : Ty.ix .body (pushOne xs c z) k = Ty.ix .body xs k := by
  unfold pushOne
  dsimp only
  split
  · by_cases e2 : c.B.toNat = k
    · rw [e2, ix_set_self (T := .body) (by simpa using hk)]
      exact pushB_fix h
    · rw [ix_set_ne (T := .body) e2]
      by_cases e1 : c.A.toNat = k
      · rw [e1, ix_set_self (T := .body) hk]
        exact pushB_fix h
      · rw [ix_set_ne (T := .body) e1]
  · rfl
theorem pushRound_fix {z : Bool} {k : Nat} : ∀ {cs : List Contact} {xs : List Body}, (∀ c, c ∈ cs → ctOk xs.length c) → k < xs.length → (Ty.ix .body xs k).Mass = 0 → Ty.ix .body (pushRound xs z cs) k = Ty.ix .body xs k
  | [], _, _, _, _ => rfl
  | c :: r, xs, hc, hk, h => by
    have e := pushOne_fix (z := z) hk (ct_ne (hc c List.mem_cons_self)) h
    refine (pushRound_fix (cs := r) (xs := pushOne xs c z) (fun d hd => by rw [length_pushOne]; exact hc d (List.mem_cons_of_mem _ hd)) (by rw [length_pushOne]; exact hk) (by rw [e]; exact h)).trans e
theorem pushAllF_fix {k : Nat} {cs : List Contact} {xs : List Body} (hc : ∀ c, c ∈ cs → ctOk xs.length c) (hk : k < xs.length) (h : (Ty.ix .body xs k).Mass = 0) : Ty.ix .body (pushAllF xs cs) k = Ty.ix .body xs k := by
  unfold pushAllF
  have e1 := pushRound_fix (z := true) hc hk h
  have e2 := pushRound_fix (z := false) (xs := pushRound xs true cs) (cs := cs) (by rw [length_pushRound]; exact hc) (by rw [length_pushRound]; exact hk) (by rw [e1]; exact h)
  have e3 := pushRound_fix (z := false) (xs := pushRound (pushRound xs true cs) false cs) (cs := cs) (by rw [length_pushRound, length_pushRound]; exact hc) (by rw [length_pushRound, length_pushRound]; exact hk) (by rw [e2, e1]; exact h)
  have e4 := pushRound_fix (z := false) (xs := pushRound (pushRound (pushRound xs true cs) false cs) false cs) (cs := cs) (by rw [length_pushRound, length_pushRound, length_pushRound]; exact hc) (by rw [length_pushRound, length_pushRound, length_pushRound]; exact hk) (by rw [e3, e2, e1]; exact h)
  rw [e4, e3, e2, e1]
theorem apartOne_fix {xs : List Body} {c : Contact} {k : Nat} (hk : k < xs.length) (hne : c.A.toNat ≠ c.B.toNat) (h : (Ty.ix .body xs k).Mass = 0) : Ty.ix .body (apartOne xs c) k = Ty.ix .body xs k := by
  unfold apartOne
  dsimp only
  split
  · rfl
  · by_cases e2 : c.B.toNat = k
    · have e1 : ¬ c.A.toNat = k := fun e => hne (e.trans e2.symm)
      rw [e2, if_pos h]
      split
      · rfl
      · rw [ix_set_ne (T := .body) e1]
    · have q : ∀ (v : Body) (ys : List Body), Ty.ix .body (ys.set c.B.toNat v) k = Ty.ix .body ys k := fun v ys => ix_set_ne (T := .body) e2
      have q2 : Ty.ix .body (if (Ty.ix .body xs c.A.toNat).Mass = 0 then xs else xs.set c.A.toNat (moveB (Ty.ix .body xs c.A.toNat) (scaled (oppV c.Hit.Way) (shareF (Ty.ix .body xs c.A.toNat) (Ty.ix .body xs c.B.toNat) (W ((W (c.Hit.Deep - 64)).tdiv 4)))))) k = Ty.ix .body xs k := by
        by_cases e1 : c.A.toNat = k
        · rw [e1, if_pos h]
        · split
          · rfl
          · rw [ix_set_ne (T := .body) e1]
      split
      · exact q2
      · rw [q]
        exact q2
theorem apartF_fix {k : Nat} : ∀ {cs : List Contact} {xs : List Body}, (∀ c, c ∈ cs → ctOk xs.length c) → k < xs.length → (Ty.ix .body xs k).Mass = 0 → Ty.ix .body (apartF xs cs) k = Ty.ix .body xs k
  | [], _, _, _, _ => rfl
  | c :: r, xs, hc, hk, h => by
    have e := apartOne_fix hk (ct_ne (hc c List.mem_cons_self)) h
    refine (apartF_fix (cs := r) (xs := apartOne xs c) (fun d hd => by rw [length_apartOne]; exact hc d (List.mem_cons_of_mem _ hd)) (by rw [length_apartOne]; exact hk) (by rw [e]; exact h)).trans e
end Go.Proofs.YtnahfbjdicjdpaaGreat.Sym

namespace Go.Proofs.YtnahfbjdicjdpaaGreat.Sym
open Go
set_option linter.unusedVariables false
set_option linter.unusedSimpArgs false
set_option maxRecDepth 100000
noncomputable section

theorem stillG_congr {xs ys : List Body} {gs : List Int} {g : Int} : ∀ {n : Nat}, (∀ i, i < n → gi gs i = g → Ty.ix .body ys i = Ty.ix .body xs i) → stillG ys gs g n = stillG xs gs g n
  | 0, _ => rfl
  | n + 1, h => by
    have ih := stillG_congr (n := n) (xs := xs) (ys := ys) (gs := gs) (g := g) fun i hi => h i (by omega)
    have e : ∀ zs, stillG zs gs g (n + 1) = (stillG zs gs g n && (!(gi gs n == g) || (Ty.ix .body zs n).Quiet == 7)) := fun _ => rfl
    rw [e, e, ih]
    cases c : gi gs n == g with
    | false => rfl
    | true => rw [h n (by omega) (eq_of_beq c)]
/-- What comes of a body when groups are put to sleep. -/
theorem ix_settleF (gs : List Int) : ∀ (ws : List Bool) (g : Nat) (xs : List Body) (k : Nat), k < xs.length →
    Ty.ix .body (settleF gs g ws xs) k = bif decide ((g : Int) ≤ gi gs k) && decide (gi gs k < g + ws.length) && Ty.ix .bool ws (gi gs k - g).toNat && stillG xs gs (gi gs k) xs.length then bedB (Ty.ix .body xs k) else Ty.ix .body xs k
  | [], g, xs, k, hk => by
    have : (decide ((g : Int) ≤ gi gs k) && decide (gi gs k < g + ([] : List Bool).length)) = false := by
      cases c : decide ((g : Int) ≤ gi gs k) with
      | false => rfl
      | true =>
        have := of_decide_eq_true c
        rw [decide_eq_false (by simp only [List.length_nil]; omega)]
        rfl
    rw [this, Bool.false_and, Bool.false_and]
    rfl
  | a :: r, g, xs, k, hk => by
    have ih := ix_settleF gs r (g + 1) (settleOne xs gs g a) k (by rw [length_settleOne]; exact hk)
    rw [length_settleOne, ix_settleOne hk] at ih
    show Ty.ix .body (settleF gs (g + 1) r (settleOne xs gs g a)) k = _
    rw [ih]
    by_cases e : gi gs k = g
    · rw [e, decide_eq_false (show ¬ ((g + 1 : Nat) : Int) ≤ (g : Int) by omega), decide_eq_true (show (g : Int) ≤ g by omega), decide_eq_true (show (g : Int) < g + (a :: r).length by rw [List.length_cons]; omega)]
      have z : ((g : Int) - g).toNat = 0 := by omega
      rw [z]
      have z2 : Ty.ix .bool (a :: r) 0 = a := rfl
      rw [z2]
      unfold bedAt
      rw [e, beq_self_eq_true]
      simp only [Bool.false_and, Bool.true_and, Bool.and_true, cond_false]
    · have b1 : bedAt xs gs g (a && stillG xs gs g xs.length) k = Ty.ix .body xs k := by
        unfold bedAt
        rw [beq_eq_false_iff_ne.2 e, Bool.and_false]
        rfl
      have st : stillG (settleOne xs gs g a) gs (gi gs k) xs.length = stillG xs gs (gi gs k) xs.length := stillG_congr fun i hi hg => by
        rw [ix_settleOne hi]
        unfold bedAt
        rw [hg, beq_eq_false_iff_ne.2 e, Bool.and_false]
        rfl
      rw [b1, st]
      by_cases c : (g : Int) ≤ gi gs k
      · have c2 : ((g + 1 : Nat) : Int) ≤ gi gs k := by omega
        have z : (gi gs k - g).toNat = (gi gs k - ((g + 1 : Nat) : Int)).toNat + 1 := by omega
        have z2 : Ty.ix .bool (a :: r) (gi gs k - g).toNat = Ty.ix .bool r (gi gs k - ((g + 1 : Nat) : Int)).toNat := by
          rw [z]
          rfl
        rw [z2, decide_eq_true c, decide_eq_true c2]
        have z3 : decide (gi gs k < ((g + 1 : Nat) : Int) + r.length) = decide (gi gs k < (g : Int) + (a :: r).length) := by
          rw [decide_eq_decide, List.length_cons]
          omega
        rw [z3]
      · rw [decide_eq_false c, decide_eq_false (show ¬ ((g + 1 : Nat) : Int) ≤ gi gs k by omega)]
        simp only [Bool.false_and, cond_false]
/-- A body behind a step: as quiet as it is, or put to sleep. -/
theorem ix_stepF {xs : List Body} {pull : Int} {k : Nat} (hk : k < xs.length) :
    Ty.ix .body (stepF xs pull) k = bif decide (0 ≤ gi (groupsX xs) k) && Ty.ix .bool (awkF xs xs.length) (gi (groupsX xs) k).toNat && stillG (quietX xs pull) (groupsX xs) (gi (groupsX xs) k) xs.length then bedB (Ty.ix .body (quietX xs pull) k) else Ty.ix .body (quietX xs pull) k := by
  rw [stepF_eq, ix_settleF _ _ _ _ _ (by rw [length_quietX]; exact hk), length_quietX]
  cases c : decide (0 ≤ gi (groupsX xs) k) with
  | false =>
    have z : decide (((0 : Nat) : Int) ≤ gi (groupsX xs) k) = false := c
    simp only [z, Bool.false_and]
  | true =>
    have z : decide (((0 : Nat) : Int) ≤ gi (groupsX xs) k) = true := c
    have c := of_decide_eq_true c
    have f := group_free hk c
    have hg : gi (groupsX xs) k = (numX xs (cmX xs k) : Int) := by
      have e : gi (groupsX xs) k = gOf xs xs.length k := ix_gen (T := .int) hk
      rw [e, gOf_all hk, f]
      rfl
    have h1 := num_in f
    have h2 := Grp.num_mono (freeB xs) (cmX xs) (show k + 1 ≤ xs.length from hk)
    have h3 : numX xs (cmX xs k) < (awkF xs xs.length).length := by rw [length_awkF]; exact Nat.lt_of_lt_of_le h1 h2
    have z2 : decide (gi (groupsX xs) k < ((0 : Nat) : Int) + (awkF xs xs.length).length) = true := decide_eq_true (by omega)
    have z3 : gi (groupsX xs) k - ((0 : Nat) : Int) = gi (groupsX xs) k := by omega
    simp only [z, z2, z3, Bool.true_and]
theorem ix_bsnoc {ws : List Bool} {v : Bool} {k : Nat} (h : k < ws.length) : Ty.ix .bool (ws ++ [v]) k = Ty.ix .bool ws k := by
  simp only [Ty.ix, List.getD_eq_getElem?_getD]
  rw [List.getElem?_append_left h]
theorem ix_blast {ws : List Bool} {v : Bool} : Ty.ix .bool (ws ++ [v]) ws.length = v := by simp [Ty.ix, List.getD]
/-- A group is awake just if one of it is. -/
theorem awk_spec {xs : List Body} : ∀ (m : Nat) (l : Nat), Grp.lead (freeB xs) (cmX xs) l = true → l < m → (Ty.ix .bool (awkF xs m) (numX xs l) = true ↔ ∃ j, j < m ∧ freeB xs j = true ∧ cmX xs j = l ∧ (Ty.ix .body xs j).Quiet ≠ 8)
  | m + 1, l, hl, hm => by
    have hlen := length_awkF xs m
    have base : l < m → (Ty.ix .bool (awkF xs m) (numX xs l) = true ↔ ∃ j, j < m ∧ freeB xs j = true ∧ cmX xs j = l ∧ (Ty.ix .body xs j).Quiet ≠ 8) := awk_spec m l hl
    have hnl : l < m → numX xs l < (awkF xs m).length := fun h => by rw [hlen]; exact Grp.num_lt hl h
    have step : ∀ {P : Prop}, (∃ j, j < m + 1 ∧ freeB xs j = true ∧ cmX xs j = l ∧ (Ty.ix .body xs j).Quiet ≠ 8) ↔ ((∃ j, j < m ∧ freeB xs j = true ∧ cmX xs j = l ∧ (Ty.ix .body xs j).Quiet ≠ 8) ∨ (freeB xs m = true ∧ cmX xs m = l ∧ (Ty.ix .body xs m).Quiet ≠ 8)) := by
      intro P
      constructor
      · rintro ⟨j, h1, h2⟩
        by_cases e : j = m
        · subst e; exact .inr h2
        · exact .inl ⟨j, by omega, h2⟩
      · rintro (⟨j, h1, h2⟩ | h2)
        · exact ⟨j, by omega, h2⟩
        · exact ⟨m, by omega, h2⟩
    rw [step (P := True)]
    rcases (show freeB xs m = false ∨ freeB xs m = true by cases freeB xs m <;> simp) with f | f
    · have hne : l ≠ m := fun e => by
        have := (lead_iff.1 hl).1
        rw [e, f] at this
        cases this
      rw [awk_fixed f, base (by omega)]
      simp [f]
    · have key : ∀ {out : List Bool} {q : Bool}, numX xs (cmX xs m) < out.length → numX xs l < out.length → (Ty.ix .bool out (numX xs l) = true ↔ ∃ j, j < m ∧ freeB xs j = true ∧ cmX xs j = l ∧ (Ty.ix .body xs j).Quiet ≠ 8) → (!((Ty.ix .body xs m).Quiet == 8)) = q →
          (Ty.ix .bool (bif q then out.set (numX xs (cmX xs m)) true else out) (numX xs l) = true ↔ ((∃ j, j < m ∧ freeB xs j = true ∧ cmX xs j = l ∧ (Ty.ix .body xs j).Quiet ≠ 8) ∨ (freeB xs m = true ∧ cmX xs m = l ∧ (Ty.ix .body xs m).Quiet ≠ 8))) := by
        intro out q h1 h2 h3 h4
        cases q with
        | false =>
          have h8 : (Ty.ix .body xs m).Quiet = 8 := eq_of_beq (not_false h4)
          simp only [cond_false]
          rw [h3]
          simp [h8]
        | true =>
          have h8 : (Ty.ix .body xs m).Quiet ≠ 8 := beq_eq_false_iff_ne.1 (not_true h4)
          simp only [cond_true]
          by_cases e : cmX xs m = l
          · rw [e, ix_set_self (T := .bool) h2]
            simp [h8, f]
          · have hne : numX xs (cmX xs m) ≠ numX xs l := fun z => e (Grp.num_inj (lead_cm f) hl z)
            rw [ix_set_ne (T := .bool) hne, h3]
            simp [e]
      cases hlm : Grp.lead (freeB xs) (cmX xs) m with
      | false =>
        have hne : l ≠ m := fun e => by rw [e, hlm] at hl; cases hl
        have hcm : cmX xs m < m := by
          have := cmX_le xs m
          have : cmX xs m ≠ m := fun e => by rw [lead_iff.2 ⟨f, e⟩] at hlm; cases hlm
          omega
        rw [awk_free f hlm rfl]
        simp only [cond_false, List.append_nil]
        exact key (by rw [hlen]; exact Grp.num_lt (lead_cm f) hcm) (hnl (by omega)) (base (by omega)) rfl
      | true =>
        have hcm : cmX xs m = m := (lead_iff.1 hlm).2
        rw [awk_free f hlm rfl]
        simp only [cond_true]
        by_cases e : l = m
        · refine key (by simp only [hcm, List.length_append, hlen, List.length_singleton]; omega) (by simp only [e, List.length_append, hlen, List.length_singleton]; omega) ?_ rfl
          have z : Ty.ix .bool (awkF xs m ++ [false]) (numX xs l) = false := by
            rw [e, ← hlen]
            exact ix_blast
          rw [z]
          refine ⟨fun h => (by cases h), fun ⟨j, j1, j2, j3, _⟩ => ?_⟩
          have := cmX_le xs j
          omega
        · refine key (by simp only [hcm, List.length_append, hlen, List.length_singleton]; omega) (by rw [List.length_append]; have := hnl (by omega); omega) ?_ rfl
          rw [ix_bsnoc (hnl (by omega))]
          exact base (by omega)
/-- The group of a body, and whether it is awake. -/
theorem group_awake {xs : List Body} {k : Nat} (hk : k < xs.length) (hg : 0 ≤ gi (groupsX xs) k) :
    Ty.ix .bool (awkF xs xs.length) (gi (groupsX xs) k).toNat = true ↔ ∃ j, j < xs.length ∧ freeB xs j = true ∧ cmX xs j = cmX xs k ∧ (Ty.ix .body xs j).Quiet ≠ 8 := by
  have f := group_free hk hg
  have e : gi (groupsX xs) k = gOf xs xs.length k := ix_gen (T := .int) hk
  rw [e, gOf_all hk, f]
  have := cmX_le xs k
  exact awk_spec xs.length (cmX xs k) (lead_cm f) (by omega)
theorem group_of_free {xs : List Body} {k : Nat} (hk : k < xs.length) (f : freeB xs k = true) : gi (groupsX xs) k = (numX xs (cmX xs k) : Int) := by
  have e : gi (groupsX xs) k = gOf xs xs.length k := ix_gen (T := .int) hk
  rw [e, gOf_all hk, f]
  rfl
theorem group_fixed {xs : List Body} {k : Nat} (hk : k < xs.length) (f : freeB xs k = false) : gi (groupsX xs) k = -1 := by
  have e : gi (groupsX xs) k = gOf xs xs.length k := ix_gen (T := .int) hk
  rw [e, gOf_all hk, f]
  rfl
theorem fix_quiet {b : Body} (h : bodyOk b = true) (m : b.Mass = 0) : b.Quiet = 0 := ((bok_iff.1 h).2.2.2.2.2.2.2.2.1 m).2.2
theorem moves_fix {b : Body} (m : b.Mass = 0) : moves b = false := by simp [moves, m]
theorem stepF_fix {xs : List Body} {pull : Int} (hok : bodiesOk xs = true) (p0 : 0 ≤ pull) (p1 : pull ≤ 2560) {k : Nat} (hk : k < xs.length) (m : (Ty.ix .body xs k).Mass = 0) : Ty.ix .body (stepF xs pull) k = Ty.ix .body xs k := by
  have hl := bodiesOk_len hok
  have q0 := fix_quiet (bodiesOk_each hok hk) m
  have e1 : Ty.ix .body (wokenF xs) k = Ty.ix .body xs k := by
    rw [show Ty.ix .body (wokenF xs) k = _ from ix_mapX hk]
    unfold wakeS
    rw [q0]
    rfl
  have e2 : Ty.ix .body (pulledF xs pull) k = Ty.ix .body xs k := by
    rw [show Ty.ix .body (pulledF xs pull) k = _ from ix_mapX (by rw [length_wokenF]; exact hk), e1]
    unfold pullS
    rw [moves_fix m]
    rfl
  have hc : ∀ c, c ∈ liveX xs pull → ctOk (pulledF xs pull).length c := by rw [length_pulledF]; exact live_mem hl
  have e3 : Ty.ix .body (pushAllF (pulledF xs pull) (liveX xs pull)) k = Ty.ix .body xs k := by
    rw [pushAllF_fix hc (by rw [length_pulledF]; exact hk) (by rw [e2]; exact m), e2]
  have e4 : Ty.ix .body (movedF xs pull) k = Ty.ix .body xs k := by
    rw [show Ty.ix .body (movedF xs pull) k = _ from ix_mapX (by rw [length_pushAllF, length_pulledF]; exact hk), e3]
    unfold goS
    rw [moves_fix m]
    rfl
  have e5 : Ty.ix .body (apartX xs pull) k = Ty.ix .body xs k := by
    have := apartF_fix (cs := liveX xs pull) (xs := movedF xs pull) (by rw [length_movedF]; exact live_mem hl) (by rw [length_movedF]; exact hk) (by rw [e4]; exact m)
    rw [show Ty.ix .body (apartX xs pull) k = _ from this, e4]
  have e6 : Ty.ix .body (quietX xs pull) k = Ty.ix .body xs k := by
    rw [show Ty.ix .body (quietX xs pull) k = _ from ix_mapX (by rw [length_apartX]; exact hk), e5]
    unfold quietS
    rw [moves_fix m]
    rfl
  have f : freeB xs k = false := by simp [freeB, m]
  rw [ix_stepF hk, group_fixed hk f, e6, decide_eq_false (show ¬ (0 : Int) ≤ -1 by omega), Bool.false_and, Bool.false_and]
  rfl
theorem stepF_off {xs : List Body} {pull : Int} {k : Nat} (hk : k < xs.length) (off : ∀ c, c ∈ liveX xs pull → offC k c) :
    Ty.ix .body (quietX xs pull) k = quietS (wokenF xs) k (goS k (pullS pull k (Ty.ix .body (wokenF xs) k))) := by
  have e2 : Ty.ix .body (pulledF xs pull) k = pullS pull k (Ty.ix .body (wokenF xs) k) := ix_mapX (by rw [length_wokenF]; exact hk)
  have e3 : Ty.ix .body (pushAllF (pulledF xs pull) (liveX xs pull)) k = pullS pull k (Ty.ix .body (wokenF xs) k) := by rw [pushAllF_off off, e2]
  have e4 : Ty.ix .body (movedF xs pull) k = goS k (pullS pull k (Ty.ix .body (wokenF xs) k)) := by
    rw [show Ty.ix .body (movedF xs pull) k = _ from ix_mapX (by rw [length_pushAllF, length_pulledF]; exact hk), e3]
  have e5 : Ty.ix .body (apartX xs pull) k = goS k (pullS pull k (Ty.ix .body (wokenF xs) k)) := by
    rw [show Ty.ix .body (apartX xs pull) k = _ from apartF_off off, e4]
  rw [show Ty.ix .body (quietX xs pull) k = _ from ix_mapX (by rw [length_apartX]; exact hk), e5]
theorem live_sub {xs : List Body} {pull : Int} {c : Contact} (h : c ∈ liveX xs pull) : c ∈ contactsF xs ∧ (moves (Ty.ix .body (pulledF xs pull) c.A.toNat) = true ∨ moves (Ty.ix .body (pulledF xs pull) c.B.toNat) = true) := by
  obtain ⟨h1, h2⟩ := List.mem_filter.1 h
  rw [Bool.or_eq_true] at h2
  exact ⟨h1, h2⟩
theorem moves_pulled {xs : List Body} {pull : Int} {k : Nat} (hk : k < xs.length) : moves (Ty.ix .body (pulledF xs pull) k) = moves (Ty.ix .body (wokenF xs) k) := by
  rw [show Ty.ix .body (pulledF xs pull) k = _ from ix_mapX (by rw [length_wokenF]; exact hk)]
  unfold pullS
  cases q : moves (Ty.ix .body (wokenF xs) k)
  · exact q
  · exact q
/-- A group that sleeps. -/
def restG (xs : List Body) (k : Nat) : Prop := ∀ j, j < xs.length → freeB xs j = true → cmX xs j = cmX xs k → (Ty.ix .body xs j).Quiet = 8
theorem woken_rest {xs : List Body} {k : Nat} (hk : k < xs.length) (hr : restG xs k) (f : freeB xs k = true) : Ty.ix .body (wokenF xs) k = Ty.ix .body xs k := by
  rw [show Ty.ix .body (wokenF xs) k = _ from ix_mapX hk]
  apply wakeS_stay
  have hg := group_of_free hk f
  have : Ty.ix .bool (awkF xs xs.length) (gi (groupsX xs) k).toNat = false := by
    cases c : Ty.ix .bool (awkF xs xs.length) (gi (groupsX xs) k).toNat with
    | false => rfl
    | true =>
      obtain ⟨j, j1, j2, j3, j4⟩ := (group_awake hk (by rw [hg]; exact Int.natCast_nonneg _)).1 c
      exact absurd (hr j j1 j2 j3) j4
  rw [this, Bool.and_false]
theorem rest_off {xs : List Body} {pull : Int} (hok : bodiesOk xs = true) {k : Nat} (hk : k < xs.length) (hr : restG xs k) (f : freeB xs k = true) : ∀ c, c ∈ liveX xs pull → offC k c := by
  intro c hc
  obtain ⟨h1, h2⟩ := live_sub hc
  obtain ⟨a, b, q1, q2, q3, q4, q5⟩ := mem_contactsF h1
  have eA : c.A.toNat = a := by rw [q3]; rfl
  have eB : c.B.toNat = b := by rw [q3]; rfl
  rw [eA, eB, moves_pulled (show a < xs.length by omega), moves_pulled q2] at h2
  -- a body of the group that sleeps does not move, nor does one that is fixed
  have still : ∀ j, j < xs.length → (freeB xs j = true → cmX xs j = cmX xs k) → moves (Ty.ix .body (wokenF xs) j) = false := by
    intro j hj hcm
    cases fj : freeB xs j with
    | false =>
      have m : (Ty.ix .body xs j).Mass = 0 := by simpa [freeB] using fj
      exact moves_fix (by rw [← ((kin_wokenF xs).2 j hj).2.2.1]; exact m)
    | true =>
      have hr' : restG xs j := fun i hi fi ci => hr i hi fi (ci.trans (hcm fj))
      rw [woken_rest hj hr' fj]
      have := hr j hj fj (hcm fj)
      simp [moves, this]
  have edge : freeB xs a = true → freeB xs b = true → cmX xs a = cmX xs b := fun fa fb => Grp.cm_eq (Grp.conn_edge (by
    have := mem_edges h1 (by rw [eA]; exact fa) (by rw [eB]; exact fb)
    rw [show edgeC c = (a, b) by rw [q3]; rfl] at this
    exact this))
  refine ⟨fun e => ?_, fun e => ?_⟩
  · have e : k = a := by rw [e, eA]
    have s1 := still a (by omega) (fun _ => by rw [e])
    have s2 := still b q2 (fun fb => by rw [e]; exact (edge (by rw [← e]; exact f) fb).symm)
    rw [s1, s2] at h2
    rcases h2 with h | h <;> cases h
  · have e : k = b := by rw [e, eB]
    have s1 := still b q2 (fun _ => by rw [e])
    have s2 := still a (by omega) (fun fa => by rw [e]; exact edge fa (by rw [← e]; exact f))
    rw [s1, s2] at h2
    rcases h2 with h | h <;> cases h
/-- What sleeps with all of its group stays as it is. -/
theorem stepF_rest {xs : List Body} {pull : Int} (hok : bodiesOk xs = true) {k : Nat} (hk : k < xs.length) (hr : restG xs k) (f : freeB xs k = true) : Ty.ix .body (stepF xs pull) k = Ty.ix .body xs k := by
  have hw := woken_rest hk hr f
  have h8 := hr k hk f rfl
  have hm : moves (Ty.ix .body xs k) = false := by simp [moves, h8]
  have hg := group_of_free hk f
  have haw : Ty.ix .bool (awkF xs xs.length) (gi (groupsX xs) k).toNat = false := by
    cases c : Ty.ix .bool (awkF xs xs.length) (gi (groupsX xs) k).toNat with
    | false => rfl
    | true =>
      obtain ⟨j, j1, j2, j3, j4⟩ := (group_awake hk (by rw [hg]; exact Int.natCast_nonneg _)).1 c
      exact absurd (hr j j1 j2 j3) j4
  have e1 : pullS pull k (Ty.ix .body xs k) = Ty.ix .body xs k := by
    unfold pullS
    rw [hm]
    rfl
  have e2 : goS k (Ty.ix .body xs k) = Ty.ix .body xs k := by
    unfold goS
    rw [hm]
    rfl
  have e3 : quietS (wokenF xs) k (Ty.ix .body xs k) = Ty.ix .body xs k := by
    unfold quietS
    rw [hm]
    rfl
  rw [ix_stepF hk, stepF_off hk (rest_off hok hk hr f), hw, e1, e2, e3, haw, Bool.and_false, Bool.false_and]
  rfl
end
end Go.Proofs.YtnahfbjdicjdpaaGreat.Sym

namespace Go.Proofs.YtnahfbjdicjdpaaGreat.Sym
open Go
set_option linter.unusedVariables false
set_option linter.unusedSimpArgs false
set_option maxRecDepth 100000
noncomputable section
theorem ok_of_len {xs : List Body} {pull : Int} (hl : (stepOf xs pull).length = xs.length) (h : 0 < xs.length) : bodiesOk xs = true ∧ 0 ≤ pull ∧ pull ≤ 2560 := by
  cases q : bodiesOk xs && isIn pull 0 2560 with
  | false =>
    exfalso
    simp only [stepOf, q, cond_false, List.length_nil] at hl
    omega
  | true =>
    rw [Bool.and_eq_true] at q
    exact ⟨q.1, in_pull.1 q.2⟩
theorem group_lt {xs : List Body} {k : Nat} (hk : k < xs.length) (hg : 0 ≤ gi (groupsX xs) k) : (gi (groupsX xs) k).toNat < (awkF xs xs.length).length := by
  have f := group_free hk hg
  rw [group_of_free hk f, length_awkF]
  have h1 := num_in f
  have h2 := Grp.num_mono (freeB xs) (cmX xs) (show k + 1 ≤ xs.length from hk)
  have : ((numX xs (cmX xs k) : Int)).toNat = numX xs (cmX xs k) := rfl
  rw [this]
  exact Nat.lt_of_lt_of_le h1 h2
theorem groupsOf_len {xs : List Body} (h : bodiesOk xs = true) : groupsOf xs = groupsX xs ∧ (groupsX xs).length = xs.length ∧ awakeOf xs = awkF xs xs.length := by
  refine ⟨by simp [groupsOf, h], ?_, by simp [awakeOf, h]⟩
  unfold groupsX
  simp [gen]
def pulledB (b : Body) (pull : Int) : Body := { b with Drive := ⟨b.Drive.X, b.Drive.Y - pull * b.Mass⟩ }
theorem step_alone {xs : List Body} {pull : Int} (hok : bodiesOk xs = true) (p0 : 0 ≤ pull) (p1 : pull ≤ 2560) {k : Nat} (hk : k < xs.length) (m : (Ty.ix .body xs k).Mass ≠ 0) (q : (Ty.ix .body xs k).Quiet ≠ 8)
    (low : -20000000 ≤ (Ty.ix .body xs k).Drive.Y - pull * (Ty.ix .body xs k).Mass) (off : ∀ c, c ∈ contactsF xs → offC k c) :
    bodyOk (pulledB (Ty.ix .body xs k) pull) = true ∧ (Ty.ix .body (stepF xs pull) k).At = (moveB (pulledB (Ty.ix .body xs k) pull) (speed (pulledB (Ty.ix .body xs k) pull))).At ∧
    ((Ty.ix .body (stepF xs pull) k).Quiet = 8 ∨ (Ty.ix .body (stepF xs pull) k).Drive = (moveB (pulledB (Ty.ix .body xs k) pull) (speed (pulledB (Ty.ix .body xs k) pull))).Drive) := by
  have hB := bodiesOk_each hok hk
  have hb := bok_iff.1 hB
  have hm : moves (Ty.ix .body xs k) = true := by simp [moves, m, q]
  have e1 : Ty.ix .body (wokenF xs) k = Ty.ix .body xs k := by
    rw [show Ty.ix .body (wokenF xs) k = _ from ix_mapX hk]
    apply wakeS_stay
    rw [beq_eq_false_iff_ne.2 q, Bool.false_and]
  have hmul : 0 ≤ pull * (Ty.ix .body xs k).Mass ∧ pull * (Ty.ix .body xs k).Mass ≤ 2560 * 1000000 := by
    obtain ⟨_, _, _, _, h5, _⟩ := hb
    exact ⟨Int.mul_nonneg p0 (by omega), Int.mul_le_mul p1 (by omega) (by omega) (by omega)⟩
  have e2 : pullS pull k (Ty.ix .body xs k) = pulledB (Ty.ix .body xs k) pull := by
    have hd := hb.2.2.2.1
    unfold pullS pulledB
    rw [hm]
    simp only [cond_true]
    rw [W_small (n := pull * (Ty.ix .body xs k).Mass) (by omega) (by omega), W_small (by omega) (by omega)]
    rw [show max ((Ty.ix .body xs k).Drive.Y - pull * (Ty.ix .body xs k).Mass) (-20000000) = (Ty.ix .body xs k).Drive.Y - pull * (Ty.ix .body xs k).Mass by omega]
  have hB2 : bodyOk (pulledB (Ty.ix .body xs k) pull) = true := by
    rw [← e2]
    exact ok_pullS p0 p1 hB
  have hm2 : moves (pulledB (Ty.ix .body xs k) pull) = true := hm
  have e3 : goS k (pulledB (Ty.ix .body xs k) pull) = moveB (pulledB (Ty.ix .body xs k) pull) (speed (pulledB (Ty.ix .body xs k) pull)) := by
    unfold goS
    rw [hm2]
    rfl
  have e4 := stepF_off (pull := pull) hk (fun c hc => off c (live_sub hc).1)
  rw [e1, e2, e3] at e4
  refine ⟨hB2, ?_⟩
  generalize moveB (pulledB (Ty.ix .body xs k) pull) (speed (pulledB (Ty.ix .body xs k) pull)) = y at e4 ⊢
  have e5 : (Ty.ix .body (quietX xs pull) k).At = y.At ∧ (Ty.ix .body (quietX xs pull) k).Drive = y.Drive := by
    rw [e4]
    unfold quietS
    cases moves y <;> exact ⟨rfl, rfl⟩
  rw [ix_stepF hk]
  generalize (decide (0 ≤ gi (groupsX xs) k) && Ty.ix .bool (awkF xs xs.length) (gi (groupsX xs) k).toNat && stillG (quietX xs pull) (groupsX xs) (gi (groupsX xs) k) xs.length) = z
  cases z with
  | false => exact ⟨e5.1, .inr e5.2⟩
  | true => exact ⟨e5.1, .inl rfl⟩
theorem stepsOf_ok {xs : List Body} {pull n : Int} (h : bodiesOk xs = true) (p0 : 0 ≤ pull) (p1 : pull ≤ 2560) (n0 : 0 ≤ n) (n1 : n ≤ 60) : stepsOf xs pull n = stepsN pull n.toNat xs := by
  unfold stepsOf
  rw [h, in_pull.2 ⟨p0, p1⟩, show isIn n 0 60 = true by simp [isIn, n0, n1]]
  rfl
theorem ext_body {xs ys : List Body} (hl : xs.length = ys.length) (h : ∀ k, k < xs.length → Ty.ix .body xs k = Ty.ix .body ys k) : xs = ys := by
  apply List.ext_getElem hl
  intro k h1 h2
  have := h k h1
  rwa [ix_eq (T := .body) (List.getElem?_eq_getElem h1), ix_eq (T := .body) (List.getElem?_eq_getElem h2)] at this
theorem still_step {xs : List Body} {pull : Int} (hs : stillF xs = true) (p0 : 0 ≤ pull) (p1 : pull ≤ 2560) : stepF xs pull = xs := by
  unfold stillF at hs
  rw [Bool.and_eq_true] at hs
  obtain ⟨hok, hm⟩ := hs
  have hm : ∀ k, k < xs.length → moves (Ty.ix .body xs k) = false := by
    intro k hk
    have : xs.any moves = false := by simpa using hm
    rw [List.any_eq_false] at this
    have := this _ (List.mem_of_getElem? (ix_get (T := .body) hk))
    simpa using this
  have hq : ∀ k, k < xs.length → freeB xs k = true → (Ty.ix .body xs k).Quiet = 8 := by
    intro k hk f
    have := hm k hk
    have m := free_mass f
    simpa [moves, m] using this
  refine ext_body (length_stepF xs pull) fun k hk => ?_
  rw [length_stepF] at hk
  cases f : freeB xs k with
  | false => exact stepF_fix hok p0 p1 hk (by simpa [freeB] using f)
  | true => exact stepF_rest hok hk (fun j hj fj _ => hq j hj fj) f
theorem still_steps {xs : List Body} {pull : Int} (hs : stillF xs = true) (p0 : 0 ≤ pull) (p1 : pull ≤ 2560) : ∀ n, stepsN pull n xs = xs
  | 0 => rfl
  | n + 1 => by
    show stepsN pull n (stepF xs pull) = xs
    rw [still_step hs p0 p1]
    exact still_steps hs p0 p1 n
theorem not_still {xs : List Body} (hok : bodiesOk xs = true) (hs : stillF xs = false) : ∃ g, g < (awkF xs xs.length).length ∧ Ty.ix .bool (awkF xs xs.length) g = true := by
  unfold stillF at hs
  rw [hok, Bool.true_and] at hs
  have hs : xs.any moves = true := by simpa using hs
  obtain ⟨b, hb, hm⟩ := List.any_eq_true.1 hs
  obtain ⟨k, hk, e⟩ := List.getElem_of_mem hb
  have e : Ty.ix .body xs k = b := ix_eq (T := .body) (by rw [← e]; exact List.getElem?_eq_getElem hk)
  have hm := moves_bok hm
  rw [← e] at hm
  have f : freeB xs k = true := by simp [freeB, hm.1]
  have hg : 0 ≤ gi (groupsX xs) k := by
    rw [group_of_free hk f]
    exact Int.natCast_nonneg _
  exact ⟨_, group_lt hk hg, (group_awake hk hg).2 ⟨k, hk, f, rfl, hm.2⟩⟩
end
end Go.Proofs.YtnahfbjdicjdpaaGreat.Sym

namespace Go.Proofs.YtnahfbjdicjdpaaGreat.Sym
open Go
set_option linter.unusedVariables false
set_option linter.unusedSimpArgs false
set_option maxRecDepth 100000
noncomputable section

noncomputable def fs_implBodySleeps : Fs := ⟨[], fun args H => match args, H with
  | [.agg [.int .i64 bI, .int .i64 bK, .int .i64 bW, .int .i64 bH, .int .i64 bX, .int .i64 bY, .int .i64 bU, .int .i64 bV, .int .i64 bM, .int .i64 bB, .int .i64 bR, .int .i64 bQ]], [] => some (none, .bool (bodyOk (Body.mk bI (Shape.mk bK bW bH) (Vec.mk bX bY) (Vec.mk bU bV) bM bB bR bQ) && (Body.mk bI (Shape.mk bK bW bH) (Vec.mk bX bY) (Vec.mk bU bV) bM bB bR bQ).Quiet == 8), [])
  | _, _ => none⟩

theorem vc_implBodySleeps (bI : Int) (bK : Int) (bW : Int) (bH : Int) (bX : Int) (bY : Int) (bU : Int) (bV : Int) (bM : Int) (bB : Int) (bR : Int) (bQ : Int) (Q : SV → List Ent → Prop) :
    fnVC tt (look [(66, fs_implBodyOk), (54, fs_bodySleeps)]) L0 Tryz.f22 [.agg [.int .i64 bI, .int .i64 bK, .int .i64 bW, .int .i64 bH, .int .i64 bX, .int .i64 bY, .int .i64 bU, .int .i64 bV, .int .i64 bM, .int .i64 bB, .int .i64 bR, .int .i64 bQ]] [] Q =
    (ifB (bodyOk (Body.mk bI (Shape.mk bK bW bH) (Vec.mk bX bY) (Vec.mk bU bV) bM bB bR bQ)) (Q (SV.bool (bQ == (8 : Int))) []) (Q (SV.bool false) [])) := by kernel_rfl

theorem ok_implBodySleeps : FsOk Tryz.prog 22 fs_implBodySleeps := fsOk_of tt_ok (tabFs_cons ok_implBodyOk (tabFs_cons ok_bodySleeps tabFs_nil)) mixed Tryz.func22 (by kernel_rfl) (by kernel_rfl) (by
    intro args LL p r HH h hp
    unfold fs_implBodySleeps at h
    dsimp only at h
    split at h
    case h_2 => cases h
    rename_i bI bK bW bH bX bY bU bV bM bB bR bQ
    simp only [Option.some.injEq, Prod.mk.injEq] at h
    obtain ⟨rfl, rfl, rfl⟩ := h
    refine ⟨by simp [Form, stays], L0, ?_⟩
    rw [vc_implBodySleeps]
    try dsimp only
    refine ifB_of (fun c => ?_) (fun c => ?_)
    · simp only [c, Bool.true_and]
      exact ⟨(by trivial), (by trivial)⟩
    · simp only [c, Bool.false_and]
      exact ⟨(by trivial), (by trivial)⟩)

noncomputable def fs_implMoveBox : Fs := ⟨[], fun args H => match args, H with
  | [.ptr 0 0 0, .agg [.int .i64 pX, .int .i64 pY]], [(true, .box [.int .i64 bI, .int .i64 bK, .int .i64 bW, .int .i64 bH, .int .i64 bX, .int .i64 bY, .int .i64 bU, .int .i64 bV, .int .i64 bM, .int .i64 bB, .int .i64 bR, .int .i64 bQ])] => some (none, .tup [], [(true, .box [.int .i64 (moveB (Body.mk bI (Shape.mk bK bW bH) (Vec.mk bX bY) (Vec.mk bU bV) bM bB bR bQ) ⟨pX, pY⟩).Id, .int .i64 (moveB (Body.mk bI (Shape.mk bK bW bH) (Vec.mk bX bY) (Vec.mk bU bV) bM bB bR bQ) ⟨pX, pY⟩).Shape.Kind, .int .i64 (moveB (Body.mk bI (Shape.mk bK bW bH) (Vec.mk bX bY) (Vec.mk bU bV) bM bB bR bQ) ⟨pX, pY⟩).Shape.Wide, .int .i64 (moveB (Body.mk bI (Shape.mk bK bW bH) (Vec.mk bX bY) (Vec.mk bU bV) bM bB bR bQ) ⟨pX, pY⟩).Shape.High, .int .i64 (moveB (Body.mk bI (Shape.mk bK bW bH) (Vec.mk bX bY) (Vec.mk bU bV) bM bB bR bQ) ⟨pX, pY⟩).At.X, .int .i64 (moveB (Body.mk bI (Shape.mk bK bW bH) (Vec.mk bX bY) (Vec.mk bU bV) bM bB bR bQ) ⟨pX, pY⟩).At.Y, .int .i64 (moveB (Body.mk bI (Shape.mk bK bW bH) (Vec.mk bX bY) (Vec.mk bU bV) bM bB bR bQ) ⟨pX, pY⟩).Drive.X, .int .i64 (moveB (Body.mk bI (Shape.mk bK bW bH) (Vec.mk bX bY) (Vec.mk bU bV) bM bB bR bQ) ⟨pX, pY⟩).Drive.Y, .int .i64 (moveB (Body.mk bI (Shape.mk bK bW bH) (Vec.mk bX bY) (Vec.mk bU bV) bM bB bR bQ) ⟨pX, pY⟩).Mass, .int .i64 (moveB (Body.mk bI (Shape.mk bK bW bH) (Vec.mk bX bY) (Vec.mk bU bV) bM bB bR bQ) ⟨pX, pY⟩).Bounce, .int .i64 (moveB (Body.mk bI (Shape.mk bK bW bH) (Vec.mk bX bY) (Vec.mk bU bV) bM bB bR bQ) ⟨pX, pY⟩).Rub, .int .i64 (moveB (Body.mk bI (Shape.mk bK bW bH) (Vec.mk bX bY) (Vec.mk bU bV) bM bB bR bQ) ⟨pX, pY⟩).Quiet])])
  | _, _ => none⟩

theorem vc_implMoveBox (bI : Int) (bK : Int) (bW : Int) (bH : Int) (bX : Int) (bY : Int) (bU : Int) (bV : Int) (bM : Int) (bB : Int) (bR : Int) (bQ : Int) (pX : Int) (pY : Int) (Q : SV → List Ent → Prop) :
    fnVC tt (look [(93, fs_vecPlus), (94, fs_vecClamped)]) L0 Tryz.f57 [.ptr 0 0 0, .agg [.int .i64 pX, .int .i64 pY]] [(true, .box [.int .i64 bI, .int .i64 bK, .int .i64 bW, .int .i64 bH, .int .i64 bX, .int .i64 bY, .int .i64 bU, .int .i64 bV, .int .i64 bM, .int .i64 bB, .int .i64 bR, .int .i64 bQ])] Q =
    (ifB (withinI (Vec.X (plus (Vec.mk bX bY) (Vec.mk pX pY))) (2560000 : Int) != Vec.X (plus (Vec.mk bX bY) (Vec.mk pX pY))) (ifB (withinI (Vec.Y (plus (Vec.mk bX bY) (Vec.mk pX pY))) (2560000 : Int) != Vec.Y (plus (Vec.mk bX bY) (Vec.mk pX pY))) (Q (SV.tup []) [(true, Blk.box [SV.int IntKind.i64 bI, SV.int IntKind.i64 bK, SV.int IntKind.i64 bW, SV.int IntKind.i64 bH, SV.int IntKind.i64 (withinI (Vec.X (plus (Vec.mk bX bY) (Vec.mk pX pY))) (2560000 : Int)), SV.int IntKind.i64 (withinI (Vec.Y (plus (Vec.mk bX bY) (Vec.mk pX pY))) (2560000 : Int)), SV.int IntKind.i64 (0 : Int), SV.int IntKind.i64 (0 : Int), SV.int IntKind.i64 bM, SV.int IntKind.i64 bB, SV.int IntKind.i64 bR, SV.int IntKind.i64 bQ])]) (Q (SV.tup []) [(true, Blk.box [SV.int IntKind.i64 bI, SV.int IntKind.i64 bK, SV.int IntKind.i64 bW, SV.int IntKind.i64 bH, SV.int IntKind.i64 (withinI (Vec.X (plus (Vec.mk bX bY) (Vec.mk pX pY))) (2560000 : Int)), SV.int IntKind.i64 (withinI (Vec.Y (plus (Vec.mk bX bY) (Vec.mk pX pY))) (2560000 : Int)), SV.int IntKind.i64 (0 : Int), SV.int IntKind.i64 bV, SV.int IntKind.i64 bM, SV.int IntKind.i64 bB, SV.int IntKind.i64 bR, SV.int IntKind.i64 bQ])])) (ifB (withinI (Vec.Y (plus (Vec.mk bX bY) (Vec.mk pX pY))) (2560000 : Int) != Vec.Y (plus (Vec.mk bX bY) (Vec.mk pX pY))) (Q (SV.tup []) [(true, Blk.box [SV.int IntKind.i64 bI, SV.int IntKind.i64 bK, SV.int IntKind.i64 bW, SV.int IntKind.i64 bH, SV.int IntKind.i64 (withinI (Vec.X (plus (Vec.mk bX bY) (Vec.mk pX pY))) (2560000 : Int)), SV.int IntKind.i64 (withinI (Vec.Y (plus (Vec.mk bX bY) (Vec.mk pX pY))) (2560000 : Int)), SV.int IntKind.i64 bU, SV.int IntKind.i64 (0 : Int), SV.int IntKind.i64 bM, SV.int IntKind.i64 bB, SV.int IntKind.i64 bR, SV.int IntKind.i64 bQ])]) (Q (SV.tup []) [(true, Blk.box [SV.int IntKind.i64 bI, SV.int IntKind.i64 bK, SV.int IntKind.i64 bW, SV.int IntKind.i64 bH, SV.int IntKind.i64 (withinI (Vec.X (plus (Vec.mk bX bY) (Vec.mk pX pY))) (2560000 : Int)), SV.int IntKind.i64 (withinI (Vec.Y (plus (Vec.mk bX bY) (Vec.mk pX pY))) (2560000 : Int)), SV.int IntKind.i64 bU, SV.int IntKind.i64 bV, SV.int IntKind.i64 bM, SV.int IntKind.i64 bB, SV.int IntKind.i64 bR, SV.int IntKind.i64 bQ])]))) := by kernel_rfl

theorem ok_implMoveBox : FsOk Tryz.prog 57 fs_implMoveBox := fsOk_of tt_ok (tabFs_cons ok_vecPlus (tabFs_cons ok_vecClamped tabFs_nil)) mixed Tryz.func57 (by kernel_rfl) (by kernel_rfl) (by
    intro args LL p r HH h hp
    unfold fs_implMoveBox at h
    dsimp only at h
    split at h
    case h_2 => cases h
    rename_i pX pY bI bK bW bH bX bY bU bV bM bB bR bQ
    simp only [Option.some.injEq, Prod.mk.injEq] at h
    obtain ⟨rfl, rfl, rfl⟩ := h
    refine ⟨by simp [Form, stays], L0, ?_⟩
    rw [vc_implMoveBox]
    try dsimp only
    unfold moveB
    refine ifB_of (fun c => ifB_of (fun c2 => ?_) (fun c2 => ?_)) (fun c => ifB_of (fun c2 => ?_) (fun c2 => ?_))
    all_goals
      simp only [plus, bne_iff_ne, ne_eq, bne_eq_false_iff_eq] at c c2
      simp only [plus, if_pos, if_neg, if_false, if_true, c, c2]
      exact ⟨(by trivial), (by trivial)⟩)

def moveAll (b : Body) : Body := bif bodyOk b then moveB b (speed b) else ⟨0, ⟨0, 0, 0⟩, ⟨0, 0⟩, ⟨0, 0⟩, 0, 0, 0, 0⟩
noncomputable def fs_implBodyMove : Fs := ⟨[], fun args H => match args, H with
  | [.agg [.int .i64 bI, .int .i64 bK, .int .i64 bW, .int .i64 bH, .int .i64 bX, .int .i64 bY, .int .i64 bU, .int .i64 bV, .int .i64 bM, .int .i64 bB, .int .i64 bR, .int .i64 bQ]], [] => some (none, .agg [.int .i64 (moveAll (Body.mk bI (Shape.mk bK bW bH) (Vec.mk bX bY) (Vec.mk bU bV) bM bB bR bQ)).Id, .int .i64 (moveAll (Body.mk bI (Shape.mk bK bW bH) (Vec.mk bX bY) (Vec.mk bU bV) bM bB bR bQ)).Shape.Kind, .int .i64 (moveAll (Body.mk bI (Shape.mk bK bW bH) (Vec.mk bX bY) (Vec.mk bU bV) bM bB bR bQ)).Shape.Wide, .int .i64 (moveAll (Body.mk bI (Shape.mk bK bW bH) (Vec.mk bX bY) (Vec.mk bU bV) bM bB bR bQ)).Shape.High, .int .i64 (moveAll (Body.mk bI (Shape.mk bK bW bH) (Vec.mk bX bY) (Vec.mk bU bV) bM bB bR bQ)).At.X, .int .i64 (moveAll (Body.mk bI (Shape.mk bK bW bH) (Vec.mk bX bY) (Vec.mk bU bV) bM bB bR bQ)).At.Y, .int .i64 (moveAll (Body.mk bI (Shape.mk bK bW bH) (Vec.mk bX bY) (Vec.mk bU bV) bM bB bR bQ)).Drive.X, .int .i64 (moveAll (Body.mk bI (Shape.mk bK bW bH) (Vec.mk bX bY) (Vec.mk bU bV) bM bB bR bQ)).Drive.Y, .int .i64 (moveAll (Body.mk bI (Shape.mk bK bW bH) (Vec.mk bX bY) (Vec.mk bU bV) bM bB bR bQ)).Mass, .int .i64 (moveAll (Body.mk bI (Shape.mk bK bW bH) (Vec.mk bX bY) (Vec.mk bU bV) bM bB bR bQ)).Bounce, .int .i64 (moveAll (Body.mk bI (Shape.mk bK bW bH) (Vec.mk bX bY) (Vec.mk bU bV) bM bB bR bQ)).Rub, .int .i64 (moveAll (Body.mk bI (Shape.mk bK bW bH) (Vec.mk bX bY) (Vec.mk bU bV) bM bB bR bQ)).Quiet], [])
  | _, _ => none⟩

theorem vc_implBodyMove (bI : Int) (bK : Int) (bW : Int) (bH : Int) (bX : Int) (bY : Int) (bU : Int) (bV : Int) (bM : Int) (bB : Int) (bR : Int) (bQ : Int) (Q : SV → List Ent → Prop) :
    fnVC tt (look [(66, fs_implBodyOk), (58, fs_implSpeed), (57, fs_implMoveBox)]) L0 Tryz.f23 [.agg [.int .i64 bI, .int .i64 bK, .int .i64 bW, .int .i64 bH, .int .i64 bX, .int .i64 bY, .int .i64 bU, .int .i64 bV, .int .i64 bM, .int .i64 bB, .int .i64 bR, .int .i64 bQ]] [] Q =
    (ifB (!bodyOk (Body.mk bI (Shape.mk bK bW bH) (Vec.mk bX bY) (Vec.mk bU bV) bM bB bR bQ)) (Q (SV.agg [SV.int IntKind.i64 (0 : Int), SV.int IntKind.i64 (0 : Int), SV.int IntKind.i64 (0 : Int), SV.int IntKind.i64 (0 : Int), SV.int IntKind.i64 (0 : Int), SV.int IntKind.i64 (0 : Int), SV.int IntKind.i64 (0 : Int), SV.int IntKind.i64 (0 : Int), SV.int IntKind.i64 (0 : Int), SV.int IntKind.i64 (0 : Int), SV.int IntKind.i64 (0 : Int), SV.int IntKind.i64 (0 : Int)]) []) (Q (SV.agg [SV.int IntKind.i64 (Body.Id (moveB (Body.mk bI (Shape.mk bK bW bH) (Vec.mk bX bY) (Vec.mk bU bV) bM bB bR bQ) (speed (Body.mk bI (Shape.mk bK bW bH) (Vec.mk bX bY) (Vec.mk bU bV) bM bB bR bQ)))), SV.int IntKind.i64 (Shape.Kind (Body.Shape (moveB (Body.mk bI (Shape.mk bK bW bH) (Vec.mk bX bY) (Vec.mk bU bV) bM bB bR bQ) (speed (Body.mk bI (Shape.mk bK bW bH) (Vec.mk bX bY) (Vec.mk bU bV) bM bB bR bQ))))), SV.int IntKind.i64 (Shape.Wide (Body.Shape (moveB (Body.mk bI (Shape.mk bK bW bH) (Vec.mk bX bY) (Vec.mk bU bV) bM bB bR bQ) (speed (Body.mk bI (Shape.mk bK bW bH) (Vec.mk bX bY) (Vec.mk bU bV) bM bB bR bQ))))), SV.int IntKind.i64 (Shape.High (Body.Shape (moveB (Body.mk bI (Shape.mk bK bW bH) (Vec.mk bX bY) (Vec.mk bU bV) bM bB bR bQ) (speed (Body.mk bI (Shape.mk bK bW bH) (Vec.mk bX bY) (Vec.mk bU bV) bM bB bR bQ))))), SV.int IntKind.i64 (Vec.X (Body.At (moveB (Body.mk bI (Shape.mk bK bW bH) (Vec.mk bX bY) (Vec.mk bU bV) bM bB bR bQ) (speed (Body.mk bI (Shape.mk bK bW bH) (Vec.mk bX bY) (Vec.mk bU bV) bM bB bR bQ))))), SV.int IntKind.i64 (Vec.Y (Body.At (moveB (Body.mk bI (Shape.mk bK bW bH) (Vec.mk bX bY) (Vec.mk bU bV) bM bB bR bQ) (speed (Body.mk bI (Shape.mk bK bW bH) (Vec.mk bX bY) (Vec.mk bU bV) bM bB bR bQ))))), SV.int IntKind.i64 (Vec.X (Body.Drive (moveB (Body.mk bI (Shape.mk bK bW bH) (Vec.mk bX bY) (Vec.mk bU bV) bM bB bR bQ) (speed (Body.mk bI (Shape.mk bK bW bH) (Vec.mk bX bY) (Vec.mk bU bV) bM bB bR bQ))))), SV.int IntKind.i64 (Vec.Y (Body.Drive (moveB (Body.mk bI (Shape.mk bK bW bH) (Vec.mk bX bY) (Vec.mk bU bV) bM bB bR bQ) (speed (Body.mk bI (Shape.mk bK bW bH) (Vec.mk bX bY) (Vec.mk bU bV) bM bB bR bQ))))), SV.int IntKind.i64 (Body.Mass (moveB (Body.mk bI (Shape.mk bK bW bH) (Vec.mk bX bY) (Vec.mk bU bV) bM bB bR bQ) (speed (Body.mk bI (Shape.mk bK bW bH) (Vec.mk bX bY) (Vec.mk bU bV) bM bB bR bQ)))), SV.int IntKind.i64 (Body.Bounce (moveB (Body.mk bI (Shape.mk bK bW bH) (Vec.mk bX bY) (Vec.mk bU bV) bM bB bR bQ) (speed (Body.mk bI (Shape.mk bK bW bH) (Vec.mk bX bY) (Vec.mk bU bV) bM bB bR bQ)))), SV.int IntKind.i64 (Body.Rub (moveB (Body.mk bI (Shape.mk bK bW bH) (Vec.mk bX bY) (Vec.mk bU bV) bM bB bR bQ) (speed (Body.mk bI (Shape.mk bK bW bH) (Vec.mk bX bY) (Vec.mk bU bV) bM bB bR bQ)))), SV.int IntKind.i64 (Body.Quiet (moveB (Body.mk bI (Shape.mk bK bW bH) (Vec.mk bX bY) (Vec.mk bU bV) bM bB bR bQ) (speed (Body.mk bI (Shape.mk bK bW bH) (Vec.mk bX bY) (Vec.mk bU bV) bM bB bR bQ))))]) [])) := by kernel_rfl

theorem ok_implBodyMove : FsOk Tryz.prog 23 fs_implBodyMove := fsOk_of tt_ok (tabFs_cons ok_implBodyOk (tabFs_cons ok_implSpeed (tabFs_cons ok_implMoveBox tabFs_nil))) mixed Tryz.func23 (by kernel_rfl) (by kernel_rfl) (by
    intro args LL p r HH h hp
    unfold fs_implBodyMove at h
    dsimp only at h
    split at h
    case h_2 => cases h
    rename_i bI bK bW bH bX bY bU bV bM bB bR bQ
    simp only [Option.some.injEq, Prod.mk.injEq] at h
    obtain ⟨rfl, rfl, rfl⟩ := h
    refine ⟨by simp [Form, stays], L0, ?_⟩
    rw [vc_implBodyMove]
    try dsimp only
    refine ifB_of (fun c => ?_) (fun c => ?_)
    · simp [moveAll, not_true c]
    · simp only [moveAll, not_false c, cond_true]
      exact ⟨(by trivial), (by trivial)⟩)

theorem len0 {xs : List Body} {pull : Int} (hl : (stepOf xs pull).length = xs.length) : xs.length ≤ 12 := by
  have := length_stepOf xs pull
  omega
def LSlsa1  : LS where
  S := List Int × List Body × Int × List Body × List Contact × Int
  live := [(3, [some .body]), (4, [none]), (5, [some .body]), (6, [some .contact]), (7, [none])]
  shape := fun s => ([.vec 1, .int .i64 s.2.2.1, .vec 2, .vec 3, .int .i64 s.2.2.2.2.2], [(false, .vec .byte s.1), (true, .vec .body s.2.1), (true, .vec .body s.2.2.2.1), (true, .vec .contact s.2.2.2.2.1)])
  get := fun v h => match v, h with
    | [.vec 1, .int .i64 pull, .vec 2, .vec 3, .int .i64 i], [(false, .vec .byte b), (true, .vec .body xs), (true, .vec .body us), (true, .vec .contact all)] => some (b, xs, pull, us, all, i)
    | _, _ => none
  inv := fun s0 s => Holds (s.1 = s0.1 ∧ s.2.1 = s0.2.1 ∧ s.2.2.1 = s0.2.2.1 ∧ s.2.2.2.1 = s0.2.2.2.1 ∧ s.2.2.2.2.1 = s0.2.2.2.2.1 ∧ 0 ≤ s.2.2.2.2.2 ∧ s.2.2.2.2.2 ≤ s0.2.1.length)
  mu := fun s => ((s.2.1.length : Int) - s.2.2.2.2.2).toNat
  ok := by
    intro v h s hg
    try dsimp only at hg
    split at hg <;> cases hg
    rfl

def LSlsa2  : LS where
  S := List Int × List Body × Int × List Body × List Contact × Int × Body × Bool × Int
  live := [(3, [some .body]), (4, [none]), (5, [some .body]), (6, [some .contact]), (7, [none]), (8, [none]), (9, [none]), (10, [none])]
  shape := fun s => ([.vec 1, .int .i64 s.2.2.1, .vec 2, .vec 3, .int .i64 s.2.2.2.2.2.1, .ptr 4 0 0, .bool s.2.2.2.2.2.2.2.1, .int .i64 s.2.2.2.2.2.2.2.2], [(false, .vec .byte s.1), (true, .vec .body s.2.1), (true, .vec .body s.2.2.2.1), (true, .vec .contact s.2.2.2.2.1), (true, .box [.int .i64 s.2.2.2.2.2.2.1.Id, .int .i64 s.2.2.2.2.2.2.1.Shape.Kind, .int .i64 s.2.2.2.2.2.2.1.Shape.Wide, .int .i64 s.2.2.2.2.2.2.1.Shape.High, .int .i64 s.2.2.2.2.2.2.1.At.X, .int .i64 s.2.2.2.2.2.2.1.At.Y, .int .i64 s.2.2.2.2.2.2.1.Drive.X, .int .i64 s.2.2.2.2.2.2.1.Drive.Y, .int .i64 s.2.2.2.2.2.2.1.Mass, .int .i64 s.2.2.2.2.2.2.1.Bounce, .int .i64 s.2.2.2.2.2.2.1.Rub, .int .i64 s.2.2.2.2.2.2.1.Quiet])])
  get := fun v h => match v, h with
    | [.vec 1, .int .i64 pull, .vec 2, .vec 3, .int .i64 i, .ptr 4 0 0, .bool tt, .int .i64 k], [(false, .vec .byte b), (true, .vec .body xs), (true, .vec .body us), (true, .vec .contact all), (true, .box [.int .i64 yyI, .int .i64 yyK, .int .i64 yyW, .int .i64 yyH, .int .i64 yyX, .int .i64 yyY, .int .i64 yyU, .int .i64 yyV, .int .i64 yyM, .int .i64 yyB, .int .i64 yyR, .int .i64 yyQ])] => some (b, xs, pull, us, all, i, (Body.mk yyI (Shape.mk yyK yyW yyH) (Vec.mk yyX yyY) (Vec.mk yyU yyV) yyM yyB yyR yyQ), tt, k)
    | _, _ => none
  inv := fun s0 s => Holds (s.1 = s0.1 ∧ s.2.1 = s0.2.1 ∧ s.2.2.1 = s0.2.2.1 ∧ s.2.2.2.1 = s0.2.2.2.1 ∧ s.2.2.2.2.1 = s0.2.2.2.2.1 ∧ s.2.2.2.2.2.1 = s0.2.2.2.2.2.1 ∧ s.2.2.2.2.2.2.1 = s0.2.2.2.2.2.2.1 ∧ 0 ≤ s.2.2.2.2.2.2.2.2 ∧ s.2.2.2.2.2.2.2.2 ≤ s0.2.2.2.2.1.length ∧ (s.2.2.2.2.2.2.2.1 = false → s0.2.2.2.2.2.2.2.1 = false ∧ ∀ j, j < s.2.2.2.2.2.2.2.2.toNat → (Ty.ix .contact s0.2.2.2.2.1 j).A ≠ s0.2.2.2.2.2.1 ∧ (Ty.ix .contact s0.2.2.2.2.1 j).B ≠ s0.2.2.2.2.2.1))
  mu := fun s => ((s.2.2.2.2.1.length : Int) - s.2.2.2.2.2.2.2.2).toNat
  ok := by
    intro v h s hg
    try dsimp only at hg
    split at hg <;> cases hg
    rfl

def L_lawStepAlone : Loops := fun n => match n with
  | 9 => some LSlsa1
  | 14 => some LSlsa2
  | _ => none
noncomputable def fs_lawStepAlone : Fs := ⟨[], fun args H => match args, H with
  | [.vec 0], [(false, .vec .byte b)] => some ((some (LOk .byte b)), .bool (true), [(false, .vec .byte b)])
  | _, _ => none⟩

theorem vc_lawStepAlone (b : List Int) (Q : SV → List Ent → Prop) :
    fnVC tt (look [(15, fs_DrawStep), (16, fs_implStep), (18, fs_specStep), (17, fs_lawsPqBodies), (21, fs_implContacts), (22, fs_implBodySleeps), (23, fs_implBodyMove)]) (L_lawStepAlone) Tryz.f5 [.vec 0] [(false, .vec .byte b)] Q =
    (let w_ := IntKind.wrap IntKind.i64; let n_ := Int.toNat; let ib_ := Ty.ix Ty.body; let ic_ := Ty.ix Ty.contact; let vy_ := Blk.vec Ty.byte; let A44_ := (Subtype.val (g_DrawStep b)); let A45_ := (stepOf (Prod.fst A44_) (Prod.snd A44_)); ifB (decide ((↑(List.length b) : Int) > (1048576 : Int))) (Q (SV.bool true) [(false, vy_ b)]) (BytesOk b ∧ List.length (Prod.fst A44_) ≤ (1048576 : Nat) ∧ List.length (Prod.fst A44_) ≤ (1048576 : Nat) ∧ List.length A45_ ≤ (4611686018427387904 : Nat) ∧ ifB (!same A45_ A45_) (List.length (Prod.fst A44_) ≤ (1048576 : Nat) ∧ List.length A45_ ≤ (4611686018427387904 : Nat) ∧ Q (SV.bool (same A45_ A45_)) [(false, vy_ b)]) (ifB ((↑(List.length A45_) : Int) != (↑(List.length (Prod.fst A44_)) : Int)) (List.length (Prod.fst A44_) ≤ (1048576 : Nat) ∧ List.length A45_ ≤ (4611686018427387904 : Nat) ∧ Q (SV.bool (same A45_ A45_)) [(false, vy_ b)]) (List.length (Prod.fst A44_) ≤ (1048576 : Nat) ∧ Holds (b = b ∧ Prod.fst A44_ = Prod.fst A44_ ∧ Prod.snd A44_ = Prod.snd A44_ ∧ stepOf (Prod.fst A44_) (Prod.snd A44_) = stepOf (Prod.fst A44_) (Prod.snd A44_) ∧ contactsOf (Prod.fst A44_) = contactsOf (Prod.fst A44_) ∧ (0 : Int) ≤ (0 : Int) ∧ (0 : Int) ≤ (↑(List.length (Prod.fst A44_)) : Int)) ∧ ∀ (y39 : List Int × List Body × Int × List Body × List Contact × Int), let y39f0_ := Prod.fst y39; let y39f1_ := Prod.fst (Prod.snd y39); let y39s2_ := Prod.snd (Prod.snd y39); let y39f2_ := Prod.fst (Prod.snd (Prod.snd y39)); let y39s3_ := Prod.snd (Prod.snd (Prod.snd y39)); let y39f3_ := Prod.fst (Prod.snd (Prod.snd (Prod.snd y39))); let y39f4_ := Prod.fst (Prod.snd (Prod.snd (Prod.snd (Prod.snd y39)))); let y39s5_ := Prod.snd (Prod.snd (Prod.snd (Prod.snd (Prod.snd y39)))); let A43_ := (↑(List.length y39f1_) : Int); let A41_ := A44_; let A40_ := (ib_ y39f1_ (n_ y39s5_)); let A42_ := (w_ (Vec.Y (Body.Drive A40_) - w_ (Prod.fst y39s2_ * Body.Mass A40_)) < (-20000000 : Int)); Holds (Prod.fst y39 = b ∧ y39f1_ = Prod.fst A41_ ∧ y39f2_ = Prod.snd A41_ ∧ y39f3_ = stepOf (Prod.fst A41_) (Prod.snd A41_) ∧ y39f4_ = contactsOf (Prod.fst A41_) ∧ (0 : Int) ≤ y39s5_ ∧ y39s5_ ≤ (↑(List.length (Prod.fst A41_)) : Int)) → ifB (decide (Prod.snd (Prod.snd y39s3_) < A43_)) (((0 : Int) ≤ y39s5_ ∧ y39s5_ < A43_) ∧ ifB (Body.Mass A40_ == (0 : Int)) (Holds (Prod.fst y39 = y39f0_ ∧ y39f1_ = y39f1_ ∧ y39f2_ = y39f2_ ∧ y39f3_ = y39f3_ ∧ y39f4_ = y39f4_ ∧ y39s5_ = y39s5_ ∧ ib_ y39f1_ (n_ y39s5_) = ib_ y39f1_ (n_ y39s5_) ∧ (0 : Int) ≤ (0 : Int) ∧ (0 : Int) ≤ (↑(List.length y39f4_) : Int) ∧ (true = false → true = false ∧ ∀ (j : Nat), j < n_ (0 : Int) → Contact.A (ic_ y39f4_ j) ≠ y39s5_ ∧ Contact.B (ic_ y39f4_ j) ≠ y39s5_)) ∧ ∀ (y27 : List Int × List Body × Int × List Body × List Contact × Int × Body × Bool × Int), let y27f0_ := Prod.fst y27; let y27s1_ := Prod.snd y27; let y27f1_ := Prod.fst (Prod.snd y27); let y27s2_ := Prod.snd (Prod.snd y27); let y27f2_ := Prod.fst (Prod.snd (Prod.snd y27)); let y27f3_ := Prod.fst (Prod.snd (Prod.snd (Prod.snd y27))); let y27f4_ := Prod.fst (Prod.snd (Prod.snd (Prod.snd (Prod.snd y27)))); let y27s5_ := Prod.snd (Prod.snd (Prod.snd (Prod.snd (Prod.snd y27)))); let y27f5_ := Prod.fst (Prod.snd (Prod.snd (Prod.snd (Prod.snd (Prod.snd y27))))); let y27f6_ := Prod.fst (Prod.snd (Prod.snd (Prod.snd (Prod.snd (Prod.snd (Prod.snd y27)))))); let y27s7_ := Prod.snd (Prod.snd (Prod.snd (Prod.snd (Prod.snd (Prod.snd (Prod.snd y27)))))); let y27f7_ := Prod.fst (Prod.snd (Prod.snd (Prod.snd (Prod.snd (Prod.snd (Prod.snd (Prod.snd y27))))))); let y27s8_ := Prod.snd (Prod.snd (Prod.snd (Prod.snd (Prod.snd (Prod.snd (Prod.snd (Prod.snd y27))))))); let A35_ := y39s3_; let A34_ := (ib_ y27f3_ (n_ y27f5_)); let A33_ := (Prod.fst y27s5_ + (1 : Int)); let A37_ := ((↑(List.length y27f1_) : Int) - w_ A33_); let A32_ := (↑(List.length y27f4_) : Int); let A31_ := (Prod.snd y27s7_ + (1 : Int)); let A30_ := A41_; let A29_ := (moveAll (Body.mk (Body.Id y27f6_) (Body.Shape y27f6_) (Body.At y27f6_) (Vec.mk (Vec.X (Body.Drive y27f6_)) (w_ (Vec.Y (Body.Drive y27f6_) - w_ (Prod.fst y27s2_ * Body.Mass y27f6_)))) (Body.Mass y27f6_) (Body.Bounce y27f6_) (Body.Rub y27f6_) (Body.Quiet y27f6_))); let A28_ := (Prod.snd A35_); let A38_ := (↑(List.length (Prod.fst A28_)) : Int); let A36_ := (A43_ - Prod.snd A28_); Holds (Prod.fst y27 = y39f0_ ∧ y27f1_ = y39f1_ ∧ y27f2_ = y39f2_ ∧ y27f3_ = Prod.fst A35_ ∧ y27f4_ = Prod.fst A28_ ∧ y27f5_ = Prod.snd A28_ ∧ y27f6_ = ib_ y39f1_ (n_ (Prod.snd A28_)) ∧ (0 : Int) ≤ y27s8_ ∧ y27s8_ ≤ A38_ ∧ (Prod.fst y27s7_ = false → true = false ∧ ∀ (j : Nat), j < n_ y27s8_ → Contact.A (ic_ (Prod.fst A28_) j) ≠ Prod.snd A28_ ∧ Contact.B (ic_ (Prod.fst A28_) j) ≠ Prod.snd A28_)) → ifB (decide (Prod.snd y27s7_ < A32_)) (ifB y27f7_ (Holds (Prod.fst y27 = y39f0_ ∧ y27f1_ = y39f1_ ∧ y27f2_ = y39f2_ ∧ y27f3_ = Prod.fst A35_ ∧ y27f4_ = Prod.fst A28_ ∧ y27f5_ = Prod.snd A28_ ∧ y27f6_ = ib_ y39f1_ (n_ (Prod.snd A28_)) ∧ (0 : Int) ≤ w_ A31_ ∧ w_ A31_ ≤ A38_ ∧ (true = false → true = false ∧ ∀ (j : Nat), j < n_ (w_ A31_) → Contact.A (ic_ (Prod.fst A28_) j) ≠ Prod.snd A28_ ∧ Contact.B (ic_ (Prod.fst A28_) j) ≠ Prod.snd A28_)) ∧ n_ (A32_ - w_ A31_) < n_ (A32_ - y27s8_)) (((0 : Int) ≤ y27s8_ ∧ y27s8_ < A32_) ∧ ifB (Contact.A (ic_ y27f4_ (n_ y27s8_)) == y27f5_) (Holds (Prod.fst y27 = y39f0_ ∧ y27f1_ = y39f1_ ∧ y27f2_ = y39f2_ ∧ y27f3_ = Prod.fst A35_ ∧ y27f4_ = Prod.fst A28_ ∧ y27f5_ = Prod.snd A28_ ∧ y27f6_ = ib_ y39f1_ (n_ (Prod.snd A28_)) ∧ (0 : Int) ≤ w_ A31_ ∧ w_ A31_ ≤ A38_ ∧ (true = false → true = false ∧ ∀ (j : Nat), j < n_ (w_ A31_) → Contact.A (ic_ (Prod.fst A28_) j) ≠ Prod.snd A28_ ∧ Contact.B (ic_ (Prod.fst A28_) j) ≠ Prod.snd A28_)) ∧ n_ (A32_ - w_ A31_) < n_ (A32_ - y27s8_)) (((0 : Int) ≤ y27s8_ ∧ y27s8_ < A32_) ∧ Holds (Prod.fst y27 = y39f0_ ∧ y27f1_ = y39f1_ ∧ y27f2_ = y39f2_ ∧ y27f3_ = Prod.fst A35_ ∧ y27f4_ = Prod.fst A28_ ∧ y27f5_ = Prod.snd A28_ ∧ y27f6_ = ib_ y39f1_ (n_ (Prod.snd A28_)) ∧ (0 : Int) ≤ w_ A31_ ∧ w_ A31_ ≤ A38_ ∧ ((Contact.B (ic_ y27f4_ (n_ y27s8_)) == y27f5_) = false → true = false ∧ ∀ (j : Nat), j < n_ (w_ A31_) → Contact.A (ic_ (Prod.fst A28_) j) ≠ Prod.snd A28_ ∧ Contact.B (ic_ (Prod.fst A28_) j) ≠ Prod.snd A28_)) ∧ n_ (A32_ - w_ A31_) < n_ (A32_ - y27s8_)))) (ifB y27f7_ (Holds (Prod.fst y27 = b ∧ y27f1_ = Prod.fst A30_ ∧ y27f2_ = Prod.snd A30_ ∧ y27f3_ = stepOf (Prod.fst A30_) (Prod.snd A30_) ∧ y27f4_ = contactsOf (Prod.fst A30_) ∧ (0 : Int) ≤ w_ A33_ ∧ w_ A33_ ≤ (↑(List.length (Prod.fst A30_)) : Int)) ∧ n_ A37_ < n_ A36_) (((0 : Int) ≤ y27f5_ ∧ y27f5_ < (↑(List.length y27f3_) : Int)) ∧ ifB (!(Vec.X (Body.At A34_) == Vec.X (Body.At A29_) && Vec.Y (Body.At A34_) == Vec.Y (Body.At A29_))) (Q (SV.bool false) [(false, vy_ y27f0_)]) (((0 : Int) ≤ y27f5_ ∧ y27f5_ < (↑(List.length y27f3_) : Int)) ∧ ifB (!(bodyOk A34_ && Body.Quiet A34_ == (8 : Int))) (((0 : Int) ≤ y27f5_ ∧ y27f5_ < (↑(List.length y27f3_) : Int)) ∧ ifB (!(Vec.X (Body.Drive A34_) == Vec.X (Body.Drive A29_) && Vec.Y (Body.Drive A34_) == Vec.Y (Body.Drive A29_))) (Q (SV.bool false) [(false, vy_ y27f0_)]) (Holds (Prod.fst y27 = b ∧ y27f1_ = Prod.fst A30_ ∧ y27f2_ = Prod.snd A30_ ∧ y27f3_ = stepOf (Prod.fst A30_) (Prod.snd A30_) ∧ y27f4_ = contactsOf (Prod.fst A30_) ∧ (0 : Int) ≤ w_ A33_ ∧ w_ A33_ ≤ (↑(List.length (Prod.fst A30_)) : Int)) ∧ n_ A37_ < n_ A36_)) (Holds (Prod.fst y27 = b ∧ y27f1_ = Prod.fst A30_ ∧ y27f2_ = Prod.snd A30_ ∧ y27f3_ = stepOf (Prod.fst A30_) (Prod.snd A30_) ∧ y27f4_ = contactsOf (Prod.fst A30_) ∧ (0 : Int) ≤ w_ A33_ ∧ w_ A33_ ≤ (↑(List.length (Prod.fst A30_)) : Int)) ∧ n_ A37_ < n_ A36_))))) (ifB (bodyOk A40_ && Body.Quiet A40_ == (8 : Int)) (Holds (Prod.fst y39 = y39f0_ ∧ y39f1_ = y39f1_ ∧ y39f2_ = y39f2_ ∧ y39f3_ = y39f3_ ∧ y39f4_ = y39f4_ ∧ y39s5_ = y39s5_ ∧ ib_ y39f1_ (n_ y39s5_) = ib_ y39f1_ (n_ y39s5_) ∧ (0 : Int) ≤ (0 : Int) ∧ (0 : Int) ≤ (↑(List.length y39f4_) : Int) ∧ (true = false → true = false ∧ ∀ (j : Nat), j < n_ (0 : Int) → Contact.A (ic_ y39f4_ j) ≠ y39s5_ ∧ Contact.B (ic_ y39f4_ j) ≠ y39s5_)) ∧ ∀ (y15 : List Int × List Body × Int × List Body × List Contact × Int × Body × Bool × Int), let y15f0_ := Prod.fst y15; let y15s1_ := Prod.snd y15; let y15f1_ := Prod.fst (Prod.snd y15); let y15s2_ := Prod.snd (Prod.snd y15); let y15f2_ := Prod.fst (Prod.snd (Prod.snd y15)); let y15f3_ := Prod.fst (Prod.snd (Prod.snd (Prod.snd y15))); let y15f4_ := Prod.fst (Prod.snd (Prod.snd (Prod.snd (Prod.snd y15)))); let y15s5_ := Prod.snd (Prod.snd (Prod.snd (Prod.snd (Prod.snd y15)))); let y15f5_ := Prod.fst (Prod.snd (Prod.snd (Prod.snd (Prod.snd (Prod.snd y15))))); let y15f6_ := Prod.fst (Prod.snd (Prod.snd (Prod.snd (Prod.snd (Prod.snd (Prod.snd y15)))))); let y15s7_ := Prod.snd (Prod.snd (Prod.snd (Prod.snd (Prod.snd (Prod.snd (Prod.snd y15)))))); let y15f7_ := Prod.fst (Prod.snd (Prod.snd (Prod.snd (Prod.snd (Prod.snd (Prod.snd (Prod.snd y15))))))); let y15s8_ := Prod.snd (Prod.snd (Prod.snd (Prod.snd (Prod.snd (Prod.snd (Prod.snd (Prod.snd y15))))))); let A23_ := y39s3_; let A22_ := (ib_ y15f3_ (n_ y15f5_)); let A21_ := (Prod.fst y15s5_ + (1 : Int)); let A25_ := ((↑(List.length y15f1_) : Int) - w_ A21_); let A20_ := (↑(List.length y15f4_) : Int); let A19_ := (Prod.snd y15s7_ + (1 : Int)); let A18_ := A41_; let A17_ := (moveAll (Body.mk (Body.Id y15f6_) (Body.Shape y15f6_) (Body.At y15f6_) (Vec.mk (Vec.X (Body.Drive y15f6_)) (w_ (Vec.Y (Body.Drive y15f6_) - w_ (Prod.fst y15s2_ * Body.Mass y15f6_)))) (Body.Mass y15f6_) (Body.Bounce y15f6_) (Body.Rub y15f6_) (Body.Quiet y15f6_))); let A16_ := (Prod.snd A23_); let A26_ := (↑(List.length (Prod.fst A16_)) : Int); let A24_ := (A43_ - Prod.snd A16_); Holds (Prod.fst y15 = y39f0_ ∧ y15f1_ = y39f1_ ∧ y15f2_ = y39f2_ ∧ y15f3_ = Prod.fst A23_ ∧ y15f4_ = Prod.fst A16_ ∧ y15f5_ = Prod.snd A16_ ∧ y15f6_ = ib_ y39f1_ (n_ (Prod.snd A16_)) ∧ (0 : Int) ≤ y15s8_ ∧ y15s8_ ≤ A26_ ∧ (Prod.fst y15s7_ = false → true = false ∧ ∀ (j : Nat), j < n_ y15s8_ → Contact.A (ic_ (Prod.fst A16_) j) ≠ Prod.snd A16_ ∧ Contact.B (ic_ (Prod.fst A16_) j) ≠ Prod.snd A16_)) → ifB (decide (Prod.snd y15s7_ < A20_)) (ifB y15f7_ (Holds (Prod.fst y15 = y39f0_ ∧ y15f1_ = y39f1_ ∧ y15f2_ = y39f2_ ∧ y15f3_ = Prod.fst A23_ ∧ y15f4_ = Prod.fst A16_ ∧ y15f5_ = Prod.snd A16_ ∧ y15f6_ = ib_ y39f1_ (n_ (Prod.snd A16_)) ∧ (0 : Int) ≤ w_ A19_ ∧ w_ A19_ ≤ A26_ ∧ (true = false → true = false ∧ ∀ (j : Nat), j < n_ (w_ A19_) → Contact.A (ic_ (Prod.fst A16_) j) ≠ Prod.snd A16_ ∧ Contact.B (ic_ (Prod.fst A16_) j) ≠ Prod.snd A16_)) ∧ n_ (A20_ - w_ A19_) < n_ (A20_ - y15s8_)) (((0 : Int) ≤ y15s8_ ∧ y15s8_ < A20_) ∧ ifB (Contact.A (ic_ y15f4_ (n_ y15s8_)) == y15f5_) (Holds (Prod.fst y15 = y39f0_ ∧ y15f1_ = y39f1_ ∧ y15f2_ = y39f2_ ∧ y15f3_ = Prod.fst A23_ ∧ y15f4_ = Prod.fst A16_ ∧ y15f5_ = Prod.snd A16_ ∧ y15f6_ = ib_ y39f1_ (n_ (Prod.snd A16_)) ∧ (0 : Int) ≤ w_ A19_ ∧ w_ A19_ ≤ A26_ ∧ (true = false → true = false ∧ ∀ (j : Nat), j < n_ (w_ A19_) → Contact.A (ic_ (Prod.fst A16_) j) ≠ Prod.snd A16_ ∧ Contact.B (ic_ (Prod.fst A16_) j) ≠ Prod.snd A16_)) ∧ n_ (A20_ - w_ A19_) < n_ (A20_ - y15s8_)) (((0 : Int) ≤ y15s8_ ∧ y15s8_ < A20_) ∧ Holds (Prod.fst y15 = y39f0_ ∧ y15f1_ = y39f1_ ∧ y15f2_ = y39f2_ ∧ y15f3_ = Prod.fst A23_ ∧ y15f4_ = Prod.fst A16_ ∧ y15f5_ = Prod.snd A16_ ∧ y15f6_ = ib_ y39f1_ (n_ (Prod.snd A16_)) ∧ (0 : Int) ≤ w_ A19_ ∧ w_ A19_ ≤ A26_ ∧ ((Contact.B (ic_ y15f4_ (n_ y15s8_)) == y15f5_) = false → true = false ∧ ∀ (j : Nat), j < n_ (w_ A19_) → Contact.A (ic_ (Prod.fst A16_) j) ≠ Prod.snd A16_ ∧ Contact.B (ic_ (Prod.fst A16_) j) ≠ Prod.snd A16_)) ∧ n_ (A20_ - w_ A19_) < n_ (A20_ - y15s8_)))) (ifB y15f7_ (Holds (Prod.fst y15 = b ∧ y15f1_ = Prod.fst A18_ ∧ y15f2_ = Prod.snd A18_ ∧ y15f3_ = stepOf (Prod.fst A18_) (Prod.snd A18_) ∧ y15f4_ = contactsOf (Prod.fst A18_) ∧ (0 : Int) ≤ w_ A21_ ∧ w_ A21_ ≤ (↑(List.length (Prod.fst A18_)) : Int)) ∧ n_ A25_ < n_ A24_) (((0 : Int) ≤ y15f5_ ∧ y15f5_ < (↑(List.length y15f3_) : Int)) ∧ ifB (!(Vec.X (Body.At A22_) == Vec.X (Body.At A17_) && Vec.Y (Body.At A22_) == Vec.Y (Body.At A17_))) (Q (SV.bool false) [(false, vy_ y15f0_)]) (((0 : Int) ≤ y15f5_ ∧ y15f5_ < (↑(List.length y15f3_) : Int)) ∧ ifB (!(bodyOk A22_ && Body.Quiet A22_ == (8 : Int))) (((0 : Int) ≤ y15f5_ ∧ y15f5_ < (↑(List.length y15f3_) : Int)) ∧ ifB (!(Vec.X (Body.Drive A22_) == Vec.X (Body.Drive A17_) && Vec.Y (Body.Drive A22_) == Vec.Y (Body.Drive A17_))) (Q (SV.bool false) [(false, vy_ y15f0_)]) (Holds (Prod.fst y15 = b ∧ y15f1_ = Prod.fst A18_ ∧ y15f2_ = Prod.snd A18_ ∧ y15f3_ = stepOf (Prod.fst A18_) (Prod.snd A18_) ∧ y15f4_ = contactsOf (Prod.fst A18_) ∧ (0 : Int) ≤ w_ A21_ ∧ w_ A21_ ≤ (↑(List.length (Prod.fst A18_)) : Int)) ∧ n_ A25_ < n_ A24_)) (Holds (Prod.fst y15 = b ∧ y15f1_ = Prod.fst A18_ ∧ y15f2_ = Prod.snd A18_ ∧ y15f3_ = stepOf (Prod.fst A18_) (Prod.snd A18_) ∧ y15f4_ = contactsOf (Prod.fst A18_) ∧ (0 : Int) ≤ w_ A21_ ∧ w_ A21_ ≤ (↑(List.length (Prod.fst A18_)) : Int)) ∧ n_ A25_ < n_ A24_))))) (Holds (Prod.fst y39 = y39f0_ ∧ y39f1_ = y39f1_ ∧ y39f2_ = y39f2_ ∧ y39f3_ = y39f3_ ∧ y39f4_ = y39f4_ ∧ y39s5_ = y39s5_ ∧ ib_ y39f1_ (n_ y39s5_) = ib_ y39f1_ (n_ y39s5_) ∧ (0 : Int) ≤ (0 : Int) ∧ (0 : Int) ≤ (↑(List.length y39f4_) : Int) ∧ (decide A42_ = false → decide A42_ = false ∧ ∀ (j : Nat), j < n_ (0 : Int) → Contact.A (ic_ y39f4_ j) ≠ y39s5_ ∧ Contact.B (ic_ y39f4_ j) ≠ y39s5_)) ∧ ∀ (y1 : List Int × List Body × Int × List Body × List Contact × Int × Body × Bool × Int), let y1f0_ := Prod.fst y1; let y1s1_ := Prod.snd y1; let y1f1_ := Prod.fst (Prod.snd y1); let y1s2_ := Prod.snd (Prod.snd y1); let y1f2_ := Prod.fst (Prod.snd (Prod.snd y1)); let y1f3_ := Prod.fst (Prod.snd (Prod.snd (Prod.snd y1))); let y1f4_ := Prod.fst (Prod.snd (Prod.snd (Prod.snd (Prod.snd y1)))); let y1s5_ := Prod.snd (Prod.snd (Prod.snd (Prod.snd (Prod.snd y1)))); let y1f5_ := Prod.fst (Prod.snd (Prod.snd (Prod.snd (Prod.snd (Prod.snd y1))))); let y1f6_ := Prod.fst (Prod.snd (Prod.snd (Prod.snd (Prod.snd (Prod.snd (Prod.snd y1)))))); let y1s7_ := Prod.snd (Prod.snd (Prod.snd (Prod.snd (Prod.snd (Prod.snd (Prod.snd y1)))))); let y1f7_ := Prod.fst (Prod.snd (Prod.snd (Prod.snd (Prod.snd (Prod.snd (Prod.snd (Prod.snd y1))))))); let y1s8_ := Prod.snd (Prod.snd (Prod.snd (Prod.snd (Prod.snd (Prod.snd (Prod.snd (Prod.snd y1))))))); let A10_ := y39s3_; let A9_ := (ib_ y1f3_ (n_ y1f5_)); let A8_ := (Prod.fst y1s5_ + (1 : Int)); let A12_ := ((↑(List.length y1f1_) : Int) - w_ A8_); let A7_ := (↑(List.length y1f4_) : Int); let A6_ := (Prod.snd y1s7_ + (1 : Int)); let A5_ := A41_; let A3_ := (moveAll (Body.mk (Body.Id y1f6_) (Body.Shape y1f6_) (Body.At y1f6_) (Vec.mk (Vec.X (Body.Drive y1f6_)) (w_ (Vec.Y (Body.Drive y1f6_) - w_ (Prod.fst y1s2_ * Body.Mass y1f6_)))) (Body.Mass y1f6_) (Body.Bounce y1f6_) (Body.Rub y1f6_) (Body.Quiet y1f6_))); let A2_ := (Prod.snd A10_); let A14_ := (↑(List.length (Prod.fst A2_)) : Int); let A13_ := (n_ (Prod.snd A2_)); let A11_ := (A43_ - Prod.snd A2_); let A4_ := (w_ (Vec.Y (Body.Drive (ib_ y39f1_ A13_)) - w_ (Prod.fst y39s2_ * Body.Mass (ib_ y39f1_ A13_))) < (-20000000 : Int)); Holds (Prod.fst y1 = y39f0_ ∧ y1f1_ = y39f1_ ∧ y1f2_ = y39f2_ ∧ y1f3_ = Prod.fst A10_ ∧ y1f4_ = Prod.fst A2_ ∧ y1f5_ = Prod.snd A2_ ∧ y1f6_ = ib_ y39f1_ A13_ ∧ (0 : Int) ≤ y1s8_ ∧ y1s8_ ≤ A14_ ∧ (Prod.fst y1s7_ = false → decide A4_ = false ∧ ∀ (j : Nat), j < n_ y1s8_ → Contact.A (ic_ (Prod.fst A2_) j) ≠ Prod.snd A2_ ∧ Contact.B (ic_ (Prod.fst A2_) j) ≠ Prod.snd A2_)) → ifB (decide (Prod.snd y1s7_ < A7_)) (ifB y1f7_ (Holds (Prod.fst y1 = y39f0_ ∧ y1f1_ = y39f1_ ∧ y1f2_ = y39f2_ ∧ y1f3_ = Prod.fst A10_ ∧ y1f4_ = Prod.fst A2_ ∧ y1f5_ = Prod.snd A2_ ∧ y1f6_ = ib_ y39f1_ A13_ ∧ (0 : Int) ≤ w_ A6_ ∧ w_ A6_ ≤ A14_ ∧ (true = false → decide A4_ = false ∧ ∀ (j : Nat), j < n_ (w_ A6_) → Contact.A (ic_ (Prod.fst A2_) j) ≠ Prod.snd A2_ ∧ Contact.B (ic_ (Prod.fst A2_) j) ≠ Prod.snd A2_)) ∧ n_ (A7_ - w_ A6_) < n_ (A7_ - y1s8_)) (((0 : Int) ≤ y1s8_ ∧ y1s8_ < A7_) ∧ ifB (Contact.A (ic_ y1f4_ (n_ y1s8_)) == y1f5_) (Holds (Prod.fst y1 = y39f0_ ∧ y1f1_ = y39f1_ ∧ y1f2_ = y39f2_ ∧ y1f3_ = Prod.fst A10_ ∧ y1f4_ = Prod.fst A2_ ∧ y1f5_ = Prod.snd A2_ ∧ y1f6_ = ib_ y39f1_ A13_ ∧ (0 : Int) ≤ w_ A6_ ∧ w_ A6_ ≤ A14_ ∧ (true = false → decide A4_ = false ∧ ∀ (j : Nat), j < n_ (w_ A6_) → Contact.A (ic_ (Prod.fst A2_) j) ≠ Prod.snd A2_ ∧ Contact.B (ic_ (Prod.fst A2_) j) ≠ Prod.snd A2_)) ∧ n_ (A7_ - w_ A6_) < n_ (A7_ - y1s8_)) (((0 : Int) ≤ y1s8_ ∧ y1s8_ < A7_) ∧ Holds (Prod.fst y1 = y39f0_ ∧ y1f1_ = y39f1_ ∧ y1f2_ = y39f2_ ∧ y1f3_ = Prod.fst A10_ ∧ y1f4_ = Prod.fst A2_ ∧ y1f5_ = Prod.snd A2_ ∧ y1f6_ = ib_ y39f1_ A13_ ∧ (0 : Int) ≤ w_ A6_ ∧ w_ A6_ ≤ A14_ ∧ ((Contact.B (ic_ y1f4_ (n_ y1s8_)) == y1f5_) = false → decide A4_ = false ∧ ∀ (j : Nat), j < n_ (w_ A6_) → Contact.A (ic_ (Prod.fst A2_) j) ≠ Prod.snd A2_ ∧ Contact.B (ic_ (Prod.fst A2_) j) ≠ Prod.snd A2_)) ∧ n_ (A7_ - w_ A6_) < n_ (A7_ - y1s8_)))) (ifB y1f7_ (Holds (Prod.fst y1 = b ∧ y1f1_ = Prod.fst A5_ ∧ y1f2_ = Prod.snd A5_ ∧ y1f3_ = stepOf (Prod.fst A5_) (Prod.snd A5_) ∧ y1f4_ = contactsOf (Prod.fst A5_) ∧ (0 : Int) ≤ w_ A8_ ∧ w_ A8_ ≤ (↑(List.length (Prod.fst A5_)) : Int)) ∧ n_ A12_ < n_ A11_) (((0 : Int) ≤ y1f5_ ∧ y1f5_ < (↑(List.length y1f3_) : Int)) ∧ ifB (!(Vec.X (Body.At A9_) == Vec.X (Body.At A3_) && Vec.Y (Body.At A9_) == Vec.Y (Body.At A3_))) (Q (SV.bool false) [(false, vy_ y1f0_)]) (((0 : Int) ≤ y1f5_ ∧ y1f5_ < (↑(List.length y1f3_) : Int)) ∧ ifB (!(bodyOk A9_ && Body.Quiet A9_ == (8 : Int))) (((0 : Int) ≤ y1f5_ ∧ y1f5_ < (↑(List.length y1f3_) : Int)) ∧ ifB (!(Vec.X (Body.Drive A9_) == Vec.X (Body.Drive A3_) && Vec.Y (Body.Drive A9_) == Vec.Y (Body.Drive A3_))) (Q (SV.bool false) [(false, vy_ y1f0_)]) (Holds (Prod.fst y1 = b ∧ y1f1_ = Prod.fst A5_ ∧ y1f2_ = Prod.snd A5_ ∧ y1f3_ = stepOf (Prod.fst A5_) (Prod.snd A5_) ∧ y1f4_ = contactsOf (Prod.fst A5_) ∧ (0 : Int) ≤ w_ A8_ ∧ w_ A8_ ≤ (↑(List.length (Prod.fst A5_)) : Int)) ∧ n_ A12_ < n_ A11_)) (Holds (Prod.fst y1 = b ∧ y1f1_ = Prod.fst A5_ ∧ y1f2_ = Prod.snd A5_ ∧ y1f3_ = stepOf (Prod.fst A5_) (Prod.snd A5_) ∧ y1f4_ = contactsOf (Prod.fst A5_) ∧ (0 : Int) ≤ w_ A8_ ∧ w_ A8_ ≤ (↑(List.length (Prod.fst A5_)) : Int)) ∧ n_ A12_ < n_ A11_))))))) (Q (SV.bool true) [(false, vy_ y39f0_)]))))) := by kernel_rfl

theorem ok_lawStepAlone : FsOk Tryz.prog 5 fs_lawStepAlone := fsOk_of tt_ok (tabFs_cons ok_DrawStep (tabFs_cons ok_implStep (tabFs_cons ok_specStep (tabFs_cons ok_lawsPqBodies (tabFs_cons ok_implContacts (tabFs_cons ok_implBodySleeps (tabFs_cons ok_implBodyMove tabFs_nil))))))) mixed Tryz.func5 (by kernel_rfl) (by kernel_rfl) (by
    intro args LL p r HH h hp
    unfold fs_lawStepAlone at h
    dsimp only at h
    split at h
    case h_2 => cases h
    rename_i b
    simp only [Option.some.injEq, Prod.mk.injEq] at h
    obtain ⟨rfl, rfl, rfl⟩ := h
    refine ⟨by simp [Form, stays], (L_lawStepAlone), ?_⟩
    rw [vc_lawStepAlone]
    try dsimp only
    have hb := bytesOk_of (hp _ rfl)
    refine ifB_of (fun c => ⟨rfl, rfl⟩) (fun c => ⟨hb, ?_⟩)
    generalize g_DrawStep b = z
    obtain ⟨⟨xs, pull⟩, h1⟩ := z
    simp only [drawStepP] at h1
    dsimp only at h1 ⊢
    have g1 := length_stepOf xs pull
    have g2 := length_contactsOf xs
    simp only [same_self, Bool.not_true, ifBt, ifBf]
    refine ⟨by omega, by omega, by omega, ifB_of (fun d => ⟨by omega, by omega, (by trivial), (by trivial)⟩) (fun d => ⟨by omega, ⟨(by trivial), (by trivial), (by trivial), (by trivial), (by trivial), by omega, by omega⟩, ?_⟩)⟩
    have d := bne_eq_false_iff_eq.1 d
    have hl : (stepOf xs pull).length = xs.length := by omega
    rintro ⟨b', xs', pull', us, all, i⟩ ⟨h⟩
    dsimp only at h ⊢
    obtain ⟨rfl, rfl, rfl, rfl, rfl, i0, i1⟩ := h
    refine ifB_of (fun c1 => ?_) (fun c1 => ⟨(by trivial), (by trivial)⟩)
    have ci := of_decide_eq_true c1
    clear c1
    have hi : i.toNat < xs'.length := by omega
    obtain ⟨hok, p0, p1⟩ := ok_of_len hl (by omega)
    have hS : stepOf xs' pull' = stepF xs' pull' := stepOf_ok hok p0 p1
    have hC : contactsOf xs' = contactsF xs' := by simp [contactsOf, hok]
    have wi : IntKind.i64.wrap (i + 1) = i + 1 := wrap_small (by omega) (by omega)
    have hB := bok_iff.1 (bodiesOk_each hok hi)
    have hmul : 0 ≤ pull' * (Ty.ix .body xs' i.toNat).Mass ∧ pull' * (Ty.ix .body xs' i.toNat).Mass ≤ 2560 * 1000 := by
      obtain ⟨_, _, _, _, h5, _⟩ := hB
      exact ⟨Int.mul_nonneg p0 (by omega), Int.mul_le_mul p1 (by omega) (by omega) (by omega)⟩
    have hd4 := hB.2.2.2.1
    have hw1 : IntKind.i64.wrap (pull' * (Ty.ix .body xs' i.toNat).Mass) = pull' * (Ty.ix .body xs' i.toNat).Mass := wrap_small (by omega) (by omega)
    have hw2 : IntKind.i64.wrap ((Ty.ix .body xs' i.toNat).Drive.Y - pull' * (Ty.ix .body xs' i.toNat).Mass) = (Ty.ix .body xs' i.toNat).Drive.Y - pull' * (Ty.ix .body xs' i.toNat).Mass := wrap_small (by omega) (by omega)
    rw [hw1, hw2]
    refine ⟨⟨i0, ci⟩, ifB_of (fun m => ⟨⟨(by trivial), (by trivial), (by trivial), (by trivial), (by trivial), (by trivial), (by trivial), by omega, by omega, fun z => (by cases z)⟩, ?_⟩) (fun m => ifB_of (fun q => ⟨⟨(by trivial), (by trivial), (by trivial), (by trivial), (by trivial), (by trivial), (by trivial), by omega, by omega, fun z => (by cases z)⟩, ?_⟩) (fun q => ⟨⟨(by trivial), (by trivial), (by trivial), (by trivial), (by trivial), (by trivial), (by trivial), by omega, by omega, fun z => ⟨z, fun j hj => absurd hj (by simp)⟩⟩, ?_⟩))⟩
    · clear g1
      rintro ⟨b2, xs2, pull2, us2, all2, i2, yy, tt, k⟩ ⟨h⟩
      dsimp only at h ⊢
      obtain ⟨rfl, rfl, rfl, rfl, rfl, rfl, rfl, k0, k1, ht⟩ := h
      have wk : IntKind.i64.wrap (k + 1) = k + 1 := wrap_small (by omega) (by omega)
      have tt1 : tt = true := by
        cases tt with
        | true => rfl
        | false => exact absurd (ht rfl).1 (by simp)
      subst tt1
      rw [wk, wi]
      simp only [ifBt]
      refine ifB_of (fun c2 => ?_) (fun c2 => ?_)
      · have c2 := of_decide_eq_true c2
        exact ⟨⟨(by trivial), (by trivial), (by trivial), (by trivial), (by trivial), (by trivial), (by trivial), by omega, by omega, fun z => (by cases z)⟩, by omega⟩
      · exact ⟨⟨(by trivial), (by trivial), (by trivial), (by trivial), (by trivial), by omega, by omega⟩, by omega⟩
    · clear g1
      rintro ⟨b2, xs2, pull2, us2, all2, i2, yy, tt, k⟩ ⟨h⟩
      dsimp only at h ⊢
      obtain ⟨rfl, rfl, rfl, rfl, rfl, rfl, rfl, k0, k1, ht⟩ := h
      have wk : IntKind.i64.wrap (k + 1) = k + 1 := wrap_small (by omega) (by omega)
      have tt1 : tt = true := by
        cases tt with
        | true => rfl
        | false => exact absurd (ht rfl).1 (by simp)
      subst tt1
      rw [wk, wi]
      simp only [ifBt]
      refine ifB_of (fun c2 => ?_) (fun c2 => ?_)
      · have c2 := of_decide_eq_true c2
        exact ⟨⟨(by trivial), (by trivial), (by trivial), (by trivial), (by trivial), (by trivial), (by trivial), by omega, by omega, fun z => (by cases z)⟩, by omega⟩
      · exact ⟨⟨(by trivial), (by trivial), (by trivial), (by trivial), (by trivial), by omega, by omega⟩, by omega⟩
    · rintro ⟨b2, xs2, pull2, us2, all2, i2, yy, tt, k⟩ ⟨h⟩
      dsimp only at h ⊢
      obtain ⟨rfl, rfl, rfl, rfl, rfl, rfl, rfl, k0, k1, ht⟩ := h
      have wk : IntKind.i64.wrap (k + 1) = k + 1 := wrap_small (by omega) (by omega)
      rw [wk, wi, hw1, hw2]
      refine ifB_of (fun c2 => ?_) (fun c2 => ?_)
      · have c2 := of_decide_eq_true c2
        have e1 : (k + 1).toNat = k.toNat + 1 := by omega
        rw [e1]
        refine ifB_of (fun f => ⟨⟨(by trivial), (by trivial), (by trivial), (by trivial), (by trivial), (by trivial), (by trivial), by omega, by omega, fun z => (by cases z)⟩, by omega⟩) (fun f => ⟨⟨k0, c2⟩, ifB_of (fun d1 => ⟨⟨(by trivial), (by trivial), (by trivial), (by trivial), (by trivial), (by trivial), (by trivial), by omega, by omega, fun z => (by cases z)⟩, by omega⟩) (fun d1 => ⟨⟨k0, c2⟩, ⟨(by trivial), (by trivial), (by trivial), (by trivial), (by trivial), (by trivial), (by trivial), by omega, by omega, fun z => ⟨(ht f).1, fun j hj => ?_⟩⟩, by omega⟩)⟩)
        by_cases e : j = k.toNat
        · rw [e]
          exact ⟨beq_eq_false_iff_ne.1 d1, beq_eq_false_iff_ne.1 z⟩
        · exact (ht f).2 j (by omega)
      · have c2 := of_decide_eq_false c2
        refine ifB_of (fun f => ⟨⟨(by trivial), (by trivial), (by trivial), (by trivial), (by trivial), by omega, by omega⟩, by omega⟩) (fun f => ⟨⟨i0, by omega⟩, ?_⟩)
        obtain ⟨low, hoff⟩ := ht f
        have low := of_decide_eq_false low
        have m := beq_eq_false_iff_ne.1 m
        have q8 : (Ty.ix .body xs2 i2.toNat).Quiet ≠ 8 := by
          rw [bodiesOk_each hok hi, Bool.true_and] at q
          exact beq_eq_false_iff_ne.1 q
        have off : ∀ c, c ∈ contactsF xs2 → offC i2.toNat c := by
          intro c hc
          obtain ⟨j, hj, e⟩ := List.getElem_of_mem hc
          have e2 : Ty.ix .contact (contactsF xs2) j = c := ix_eq (T := .contact) (by rw [← e]; exact List.getElem?_eq_getElem hj)
          have h1 := hoff j (by rw [hC] at c2; omega)
          rw [hC, e2] at h1
          obtain ⟨a, b, r1, r2, r3, _⟩ := mem_contactsF hc
          have eA : c.A = a := by rw [r3]
          have eB : c.B = b := by rw [r3]
          exact ⟨by omega, by omega⟩
        obtain ⟨hB2, hAt, hDr⟩ := step_alone hok p0 p1 hi m q8 (by omega) off
        have eM : moveAll (pulledB (Ty.ix .body xs2 i2.toNat) pull2) = moveB (pulledB (Ty.ix .body xs2 i2.toNat) pull2) (speed (pulledB (Ty.ix .body xs2 i2.toNat) pull2)) := by
          unfold moveAll
          rw [hB2]
          rfl
        have eP : pulledB (Ty.ix .body xs2 i2.toNat) pull2 = { Ty.ix .body xs2 i2.toNat with Drive := ⟨(Ty.ix .body xs2 i2.toNat).Drive.X, (Ty.ix .body xs2 i2.toNat).Drive.Y - pull2 * (Ty.ix .body xs2 i2.toNat).Mass⟩ } := rfl
        rw [← eP, eM, hS]
        generalize moveB (pulledB (Ty.ix .body xs2 i2.toNat) pull2) (speed (pulledB (Ty.ix .body xs2 i2.toNat) pull2)) = y at *
        rw [hAt]
        simp only [beq_self_eq_true, Bool.and_self, Bool.not_true, ifBf]
        have hlF := length_stepF xs2 pull2
        have hxo : bodyOk (Ty.ix .body (stepF xs2 pull2) i2.toNat) = true := bodiesOk_each (ok_stepF hok p0 p1) (by omega)
        refine ⟨⟨i0, by omega⟩, ifB_of (fun s => ⟨⟨i0, by omega⟩, ?_⟩) (fun s => ⟨⟨(by trivial), (by trivial), (by trivial), (by trivial), (by trivial), by omega, by omega⟩, by omega⟩)⟩
        rcases hDr with h8 | hD
        · rw [hxo, h8] at s
          simp at s
        · rw [hD]
          simp only [beq_self_eq_true, Bool.and_self, Bool.not_true, ifBf]
          exact ⟨⟨(by trivial), (by trivial), (by trivial), (by trivial), (by trivial), by omega, by omega⟩, by omega⟩)

end
end Go.Proofs.YtnahfbjdicjdpaaGreat.Sym

namespace Go.Proofs.YtnahfbjdicjdpaaGreat.Sym
open Go
set_option linter.unusedVariables false
set_option linter.unusedSimpArgs false
set_option maxRecDepth 100000
noncomputable section
def stillB1 (y : Body) : Body := bif decide (y.Mass > 0) then { y with Drive := ⟨0, 0⟩, Quiet := 8 } else y
def drawStillF (b : List Int) : List Body :=
  let c := List.take (min b.length 2000) (List.drop 0 b)
  bif decide (g_rdPick c (0 + (((g_l11AnyBodies c 0).2 % 451 : Nat) : Int)) 3 % 3 > 0) then mapX (fun _ => stillB1) (g_l11AnyBodies c 0).1.1 else (g_l11AnyBodies c 0).1.1
theorem length_drawStillF (b : List Int) : (drawStillF b).length ≤ 13 := by
  have h := fun c => (g_l11AnyBodies c 0).1.2
  simp only [bodiesP] at h
  have hm : ∀ xs : List Body, (mapX (fun _ => stillB1) xs).length = xs.length := fun xs => by simp [mapX, gen]
  unfold drawStillF
  dsimp only
  generalize decide (g_rdPick _ _ 3 % 3 > 0) = z
  cases z
  · exact h _
  · simp only [cond_true, hm]
    exact h _
def LSdst  : LS where
  S := List Int × List Body × Int
  live := [(4, [some .body]), (5, [none])]
  shape := fun s => ([.vec 1, .int .i64 s.2.2], [(false, .vec .byte s.1), (true, .vec .body s.2.1)])
  get := fun v h => match v, h with
    | [.vec 1, .int .i64 i], [(false, .vec .byte b), (true, .vec .body ys)] => some (b, ys, i)
    | _, _ => none
  inv := fun s0 s => Holds (s.1 = s0.1 ∧ 0 ≤ s.2.2 ∧ s.2.2 ≤ s0.2.1.length ∧ s.2.1 = fill (fun e => stillB1 (Ty.ix .body s0.2.1 e)) s0.2.1 s.2.2.toNat)
  mu := fun s => ((s.2.1.length : Int) - s.2.2).toNat
  ok := by
    intro v h s hg
    try dsimp only at hg
    split at hg <;> cases hg
    rfl

def L_drawStill : Loops := fun n => match n with
  | 5 => some LSdst
  | _ => none
noncomputable def fs_DrawStill : Fs := ⟨[], fun args H => match args, H with
  | [.vec 0], [(false, .vec .byte b)] => some ((some (BytesOk b)), .vec 1, [(false, .vec .byte b), (true, .vec .body (drawStillF b))])
  | _, _ => none⟩

theorem vc_DrawStill (b : List Int) (Q : SV → List Ent → Prop) :
    fnVC tt (look [(49, fs_l1Open), (50, fs_l11AnyBodies), (69, fs_rdPick)]) (L_drawStill) Tryz.f28 [.vec 0] [(false, .vec .byte b)] Q =
    (let w_ := IntKind.wrap IntKind.i64; let s_ := SV.int IntKind.i64; let n_ := Int.toNat; let A7_ := (List.take (min (List.length b) (2000 : Nat)) (List.drop (0 : Nat) b)); let A6_ := (g_l11AnyBodies A7_ (0 : Int)); ((0 : Int) ≤ (0 : Int) ∧ (0 : Int) + (450 : Int) ≤ (1000000000000 : Int) ∧ BytesOk A7_) ∧ ((0 : Int) ≤ (0 : Int) + (↑(Prod.snd A6_ % (451 : Nat)) : Int) ∧ (0 : Int) + (↑(Prod.snd A6_ % (451 : Nat)) : Int) + (1 : Int) ≤ (1000000000000 : Int) ∧ BytesOk A7_ ∧ (1 : Int) ≤ (3 : Int)) ∧ ifB (decide (g_rdPick A7_ ((0 : Int) + (↑(Prod.snd A6_ % (451 : Nat)) : Int)) (3 : Int) % (3 : Int) > (0 : Int))) (Holds (b = b ∧ (0 : Int) ≤ (0 : Int) ∧ (0 : Int) ≤ (↑(List.length (Subtype.val (Prod.fst A6_))) : Int) ∧ Subtype.val (Prod.fst A6_) = fill (fun e => stillB1 (Ty.ix Ty.body (Subtype.val (Prod.fst A6_)) e)) (Subtype.val (Prod.fst A6_)) (n_ (0 : Int))) ∧ ∀ (y1 : List Int × List Body × Int), let y1f0_ := Prod.fst y1; let y1s1_ := Prod.snd y1; let y1f1_ := Prod.fst (Prod.snd y1); let y1s2_ := Prod.snd (Prod.snd y1); let A5_ := (↑(List.length y1f1_) : Int); let A4_ := (Prod.snd y1s1_ + (1 : Int)); let A3_ := (setC Ty.body y1f1_ (n_ y1s2_) ((0 : Nat) + (6 : Nat)) [s_ (0 : Int), s_ (0 : Int)]); let A2_ := (Subtype.val (Prod.fst A6_)); Holds (Prod.fst y1 = b ∧ (0 : Int) ≤ y1s2_ ∧ y1s2_ ≤ (↑(List.length A2_) : Int) ∧ y1f1_ = fill (fun e => stillB1 (Ty.ix Ty.body A2_ e)) A2_ (n_ y1s2_)) → ifB (decide (Prod.snd y1s1_ < A5_)) (((0 : Int) ≤ y1s2_ ∧ y1s2_ < A5_) ∧ ifB (decide (Body.Mass (Ty.ix Ty.body y1f1_ (n_ y1s2_)) > (0 : Int))) (((0 : Int) ≤ y1s2_ ∧ y1s2_ < A5_) ∧ ((0 : Int) ≤ y1s2_ ∧ y1s2_ < (↑(List.length A3_) : Int)) ∧ Holds (Prod.fst y1 = b ∧ (0 : Int) ≤ w_ A4_ ∧ w_ A4_ ≤ (↑(List.length A2_) : Int) ∧ setC Ty.body A3_ (n_ y1s2_) ((0 : Nat) + (11 : Nat)) [s_ (8 : Int)] = fill (fun e => stillB1 (Ty.ix Ty.body A2_ e)) A2_ (n_ (w_ A4_))) ∧ n_ ((↑(List.length (setC Ty.body A3_ (n_ y1s2_) ((0 : Nat) + (11 : Nat)) [s_ (8 : Int)])) : Int) - w_ A4_) < n_ (A5_ - y1s2_)) (Holds (Prod.fst y1 = b ∧ (0 : Int) ≤ w_ A4_ ∧ w_ A4_ ≤ (↑(List.length A2_) : Int) ∧ y1f1_ = fill (fun e => stillB1 (Ty.ix Ty.body A2_ e)) A2_ (n_ (w_ A4_))) ∧ n_ (A5_ - w_ A4_) < n_ (A5_ - y1s2_))) (Q (SV.vec (1 : Nat)) [(false, Blk.vec Ty.byte y1f0_), (true, Blk.vec Ty.body y1f1_)])) (Q (SV.vec (1 : Nat)) [(false, Blk.vec Ty.byte b), (true, Blk.vec Ty.body (Subtype.val (Prod.fst A6_)))])) := by kernel_rfl

theorem ok_DrawStill : FsOk Tryz.prog 28 fs_DrawStill := fsOk_of tt_ok (tabFs_cons ok_l1Open (tabFs_cons ok_l11AnyBodies (tabFs_cons ok_rdPick tabFs_nil))) mixed Tryz.func28 (by kernel_rfl) (by kernel_rfl) (by
    intro args LL p r HH h hp
    unfold fs_DrawStill at h
    dsimp only at h
    split at h
    case h_2 => cases h
    rename_i b
    simp only [Option.some.injEq, Prod.mk.injEq] at h
    obtain ⟨rfl, rfl, rfl⟩ := h
    refine ⟨by simp [Form, stays], (L_drawStill), ?_⟩
    rw [vc_DrawStill]
    try dsimp only
    have hby := hp _ rfl
    have hc := hby.part 0 (min b.length 2000)
    have hd : drawStillF b = drawStillF b := rfl
    conv at hd => rhs; unfold drawStillF
    dsimp only at hd
    rw [hd]
    generalize List.take (min b.length 2000) (List.drop 0 b) = c at *
    have hw := (g_l11AnyBodies c 0).1.2
    simp only [bodiesP] at hw
    refine ⟨⟨by omega, by omega, hc⟩, ⟨by omega, by omega, hc, by omega⟩, ifB_of (fun z => ?_) (fun z => ?_)⟩
    · rw [z]
      simp only [cond_true]
      clear hd
      generalize (g_l11AnyBodies c 0).1.1 = xs at *
      refine ⟨⟨(by trivial), by omega, by omega, (fill_zero _ _).symm⟩, ?_⟩
      rintro ⟨b', ys, i⟩ ⟨h⟩
      dsimp only at h ⊢
      obtain ⟨rfl, i0, i1, hf⟩ := h
      have hlen : ys.length = xs.length := by rw [hf]; exact length_fill _ _ (by omega)
      refine ifB_of (fun d => ?_) (fun d => ?_)
      · have d := of_decide_eq_true d
        have e1 : (i + 1).toNat = i.toNat + 1 := by omega
        have w : IntKind.i64.wrap (i + 1) = i + 1 := wrap_small (by omega) (by omega)
        have hi : i.toNat < xs.length := by omega
        have hy := (fill_ix hf hi).2
        rw [w, e1]
        refine ⟨⟨i0, d⟩, ifB_of (fun m => ?_) (fun m => ?_)⟩
        · refine ⟨⟨i0, d⟩, ⟨i0, by rw [length_setC_body]; exact d⟩, ⟨(by trivial), by omega, by omega, ?_⟩, by rw [length_setC_body, length_setC_body]; omega⟩
          rw [setC_quiet, setC_drive, ix_set_self_body _ _ (by omega), List.set_set]
          refine fill_go hf hi ?_
          unfold stillB1
          rw [← hy, m]
          rfl
        · exact ⟨⟨(by trivial), by omega, by omega, fill_stay hf hi (by unfold stillB1; rw [← hy, m]; rfl)⟩, by omega⟩
      · have d := of_decide_eq_false d
        rw [fill_map (f := fun _ => stillB1) hf (by omega)]
        exact ⟨(by trivial), (by trivial)⟩
    · rw [z]
      exact ⟨(by trivial), (by trivial)⟩)

def LSlst  : LS where
  S := List Int × Bool × List Bool × Int
  live := [(5, [none]), (6, [some .bool]), (7, [none])]
  shape := fun s => ([.bool s.2.1, .vec 1, .int .i64 s.2.2.2], [(false, .vec .byte s.1), (true, .vec .bool s.2.2.1)])
  get := fun v h => match v, h with
    | [.bool sm, .vec 1, .int .i64 k], [(false, .vec .byte b), (true, .vec .bool ws)] => some (b, sm, ws, k)
    | _, _ => none
  inv := fun s0 s => Holds (s.1 = s0.1 ∧ s.2.2.1 = s0.2.2.1 ∧ 0 ≤ s.2.2.2 ∧ s.2.2.2 ≤ s0.2.2.1.length ∧ (s.2.1 = false → ∀ j, j < s.2.2.2.toNat → Ty.ix .bool s0.2.2.1 j = false))
  mu := fun s => ((s.2.2.1.length : Int) - s.2.2.2).toNat
  ok := by
    intro v h s hg
    try dsimp only at hg
    split at hg <;> cases hg
    rfl

def L_lawStill : Loops := fun n => match n with
  | 12 => some LSlst
  | _ => none
noncomputable def fs_lawStill : Fs := ⟨[], fun args H => match args, H with
  | [.vec 0], [(false, .vec .byte b)] => some ((some (LOk .byte b)), .bool (true), [(false, .vec .byte b)])
  | _, _ => none⟩

theorem vc_lawStill (b : List Int) (Q : SV → List Ent → Prop) :
    fnVC tt (look [(28, fs_DrawStill), (29, fs_implStill), (30, fs_specStill), (27, fs_specBodiesOk), (25, fs_implSteps), (17, fs_lawsPqBodies), (20, fs_implAwake)]) (L_lawStill) Tryz.f8 [.vec 0] [(false, .vec .byte b)] Q =
    (let w_ := IntKind.wrap IntKind.i64; let n_ := Int.toNat; let vy_ := Blk.vec Ty.byte; ifB (decide ((↑(List.length b) : Int) > (1048576 : Int))) (Q (SV.bool true) [(false, vy_ b)]) (BytesOk b ∧ List.length (drawStillF b) ≤ (4611686018427387904 : Nat) ∧ List.length (drawStillF b) ≤ (4611686018427387904 : Nat) ∧ ifB (!stillF (drawStillF b) == stillF (drawStillF b)) (List.length (drawStillF b) ≤ (4611686018427387904 : Nat) ∧ Q (SV.bool (stillF (drawStillF b) == stillF (drawStillF b))) [(false, vy_ b)]) (List.length (drawStillF b) ≤ (4611686018427387904 : Nat) ∧ ifB (!bodiesOk (drawStillF b)) (List.length (drawStillF b) ≤ (4611686018427387904 : Nat) ∧ Q (SV.bool (stillF (drawStillF b) == stillF (drawStillF b))) [(false, vy_ b)]) (ifB (stillF (drawStillF b)) (List.length (drawStillF b) ≤ (1048576 : Nat) ∧ List.length (stepsOf (drawStillF b) (32 : Int) (9 : Int)) ≤ (4611686018427387904 : Nat) ∧ Q (SV.bool (same (stepsOf (drawStillF b) (32 : Int) (9 : Int)) (drawStillF b))) [(false, vy_ b)]) (List.length (drawStillF b) ≤ (1048576 : Nat) ∧ Holds (b = b ∧ awakeOf (drawStillF b) = awakeOf (drawStillF b) ∧ (0 : Int) ≤ (0 : Int) ∧ (0 : Int) ≤ (↑(List.length (awakeOf (drawStillF b))) : Int) ∧ (false = false → ∀ (j : Nat), j < n_ (0 : Int) → Ty.ix Ty.bool (awakeOf (drawStillF b)) j = false)) ∧ ∀ (y1 : List Int × Bool × List Bool × Int), let y1f0_ := Prod.fst y1; let y1s1_ := Prod.snd y1; let y1f1_ := Prod.fst (Prod.snd y1); let y1s2_ := Prod.snd (Prod.snd y1); let y1f2_ := Prod.fst (Prod.snd (Prod.snd y1)); let y1s3_ := Prod.snd (Prod.snd (Prod.snd y1)); let A4_ := (awakeOf (drawStillF b)); let A3_ := (↑(List.length y1f2_) : Int); let A2_ := (Prod.snd y1s2_ + (1 : Int)); Holds (Prod.fst y1 = b ∧ y1f2_ = awakeOf (drawStillF b) ∧ (0 : Int) ≤ y1s3_ ∧ y1s3_ ≤ (↑(List.length A4_) : Int) ∧ (Prod.fst y1s1_ = false → ∀ (j : Nat), j < n_ y1s3_ → Ty.ix Ty.bool A4_ j = false)) → ifB (decide (Prod.snd y1s2_ < A3_)) (ifB y1f1_ (Holds (Prod.fst y1 = b ∧ y1f2_ = awakeOf (drawStillF b) ∧ (0 : Int) ≤ w_ A2_ ∧ w_ A2_ ≤ (↑(List.length A4_) : Int) ∧ (true = false → ∀ (j : Nat), j < n_ (w_ A2_) → Ty.ix Ty.bool A4_ j = false)) ∧ n_ (A3_ - w_ A2_) < n_ (A3_ - y1s3_)) (((0 : Int) ≤ y1s3_ ∧ y1s3_ < A3_) ∧ Holds (Prod.fst y1 = b ∧ y1f2_ = awakeOf (drawStillF b) ∧ (0 : Int) ≤ w_ A2_ ∧ w_ A2_ ≤ (↑(List.length A4_) : Int) ∧ (Ty.ix Ty.bool y1f2_ (n_ y1s3_) = false → ∀ (j : Nat), j < n_ (w_ A2_) → Ty.ix Ty.bool A4_ j = false)) ∧ n_ (A3_ - w_ A2_) < n_ (A3_ - y1s3_))) (Q (SV.bool y1f1_) [(false, vy_ y1f0_)])))))) := by kernel_rfl

theorem ok_lawStill : FsOk Tryz.prog 8 fs_lawStill := fsOk_of tt_ok (tabFs_cons ok_DrawStill (tabFs_cons ok_implStill (tabFs_cons ok_specStill (tabFs_cons ok_specBodiesOk (tabFs_cons ok_implSteps (tabFs_cons ok_lawsPqBodies (tabFs_cons ok_implAwake tabFs_nil))))))) mixed Tryz.func8 (by kernel_rfl) (by kernel_rfl) (by
    intro args LL p r HH h hp
    unfold fs_lawStill at h
    dsimp only at h
    split at h
    case h_2 => cases h
    rename_i b
    simp only [Option.some.injEq, Prod.mk.injEq] at h
    obtain ⟨rfl, rfl, rfl⟩ := h
    refine ⟨by simp [Form, stays], (L_lawStill), ?_⟩
    rw [vc_lawStill]
    try dsimp only
    have hb := bytesOk_of (hp _ rfl)
    refine ifB_of (fun c => ⟨rfl, rfl⟩) (fun c => ⟨hb, ?_⟩)
    have h1 := length_drawStillF b
    generalize drawStillF b = xs at *
    simp only [beq_self_eq_true, Bool.not_true, ifBt, ifBf]
    refine ⟨by omega, by omega, by omega, ifB_of (fun d => ⟨by omega, (by trivial), (by trivial)⟩) (fun d => ?_)⟩
    have hok := not_false d
    refine ifB_of (fun s => ?_) (fun s => ⟨by omega, ⟨(by trivial), (by trivial), by omega, by omega, fun _ j hj => absurd hj (by simp)⟩, ?_⟩)
    · have e : stepsOf xs 32 9 = xs := by
        rw [stepsOf_ok hok (by omega) (by omega) (by omega) (by omega)]
        exact still_steps s (by omega) (by omega) _
      rw [e, same_self]
      exact ⟨by omega, by omega, (by trivial), (by trivial)⟩
    · obtain ⟨g, hg, hga⟩ := not_still hok s
      obtain ⟨_, _, q3⟩ := groupsOf_len hok
      have hn := num_le xs xs.length
      have hn2 := length_awkF xs xs.length
      rw [q3]
      rintro ⟨b', sm, ws, k⟩ ⟨h⟩
      dsimp only at h ⊢
      obtain ⟨rfl, rfl, k0, k1, hs⟩ := h
      refine ifB_of (fun c => ?_) (fun c => ?_)
      · have c := of_decide_eq_true c
        have w : IntKind.i64.wrap (k + 1) = k + 1 := wrap_small (by omega) (by omega)
        have e1 : (k + 1).toNat = k.toNat + 1 := by omega
        rw [w, e1]
        refine ifB_of (fun f => ⟨⟨(by trivial), (by trivial), by omega, by omega, fun z => (by cases z)⟩, by omega⟩) (fun f => ⟨⟨k0, c⟩, ⟨(by trivial), (by trivial), by omega, by omega, fun z j hj => ?_⟩, by omega⟩)
        by_cases e : j = k.toNat
        · rw [e]
          exact z
        · exact hs f j (by omega)
      · have c := of_decide_eq_false c
        have smt : sm = true := by
          cases sm with
          | true => rfl
          | false =>
            exfalso
            have := hs rfl g (by omega)
            rw [hga] at this
            cases this
        rw [smt]
        exact ⟨(by trivial), (by trivial)⟩)

end
end Go.Proofs.YtnahfbjdicjdpaaGreat.Sym

