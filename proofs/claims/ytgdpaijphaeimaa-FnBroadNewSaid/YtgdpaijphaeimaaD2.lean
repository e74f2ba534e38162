/-
  How boxes are drawn.
  No condition.
-/
import Derived.Test.YtgdpaijphaeimaaD1
import Derived.Test.YtgdpaijphaeimaaG4
namespace Go.Proofs.Ytgdpaijphaeimaa.Sym
open Go
set_option linter.unusedVariables false
set_option linter.unusedSimpArgs false
set_option maxRecDepth 100000

theorem ix_ins {xs : List Item} {k : Nat} {x : Item} (hk : k ≤ xs.length) (e : Nat) : Ty.ix .item (insI xs k x) e = if e < k then Ty.ix .item xs e else if e = k then x else Ty.ix .item xs (e - 1) := by
  simp only [Ty.ix, insI, List.getD_eq_getElem?_getD]
  split
  · rename_i h
    rw [List.getElem?_append_left (by simp; omega), List.getElem?_take_of_lt h]
  · rename_i h
    rw [List.getElem?_append_right (by simp; omega)]
    have hl : (xs.take k).length = k := by simp; omega
    rw [hl]
    split
    · rename_i h2
      subst h2
      simp
    · rename_i h2
      obtain ⟨d, rfl⟩ : ∃ d, e = k + d + 1 := ⟨e - k - 1, by omega⟩
      rw [show k + d + 1 - k = d + 1 by omega, List.getElem?_cons_succ, List.getElem?_drop]
      rfl
theorem length_insI {xs : List Item} {k : Nat} {x : Item} (hk : k ≤ xs.length) : (insI xs k x).length = xs.length + 1 := by
  simp [insI]
  omega
/-- A box put: what comes of it, case by case. -/
theorem putF_cases {xs : List Item} {x : Item} (h : itemsOk xs = true) :
    (putF xs x).1 = xs ∨ (itemOk x = true ∧ hasI xs x.Id = true ∧ (putF xs x).1 = xs.set (atI xs x.Id) x) ∨ (itemOk x = true ∧ hasI xs x.Id = false ∧ xs.length < 24 ∧ (putF xs x).1 = insI xs (atI xs x.Id) x) := by
  unfold putF
  rw [h]
  cases h2 : itemOk x with
  | false => exact .inl rfl
  | true =>
    cases h3 : hasI xs x.Id with
    | true => exact .inr (.inl ⟨rfl, rfl, rfl⟩)
    | false =>
      cases h4 : decide (xs.length ≥ 24) with
      | true => exact .inl rfl
      | false =>
        have := of_decide_eq_false h4
        exact .inr (.inr ⟨rfl, rfl, by omega, rfl⟩)
theorem at_spec (xs : List Item) (id : Int) : atI xs id ≤ xs.length ∧ (∀ e, e < atI xs id → (Ty.ix .item xs e).Id < id) ∧ (atI xs id < xs.length → id ≤ (Ty.ix .item xs (atI xs id)).Id) := by
  obtain ⟨k1, k2, k3⟩ := pref_spec (T := .item) (p := fun y : Item => decide (y.Id < id)) xs
  refine ⟨k1, fun e he => of_decide_eq_true (k2 e he), fun h => ?_⟩
  have : decide ((Ty.ix .item xs (atI xs id)).Id < id) = false := k3 h
  have := of_decide_eq_false this
  omega
theorem itemsOk_putF {xs : List Item} {x : Item} (h : itemsOk xs = true) : itemsOk (putF xs x).1 = true := by
  obtain ⟨k1, k2, k3⟩ := at_spec xs x.Id
  obtain ⟨h1, h2, h3⟩ := itemsOk_iff.1 h
  rcases putF_cases (x := x) h with e | ⟨hx, hh, e⟩ | ⟨hx, hh, hl, e⟩
  · rw [e]; exact h
  · rw [e]
    have hlt := hasI_lt hh
    have hid : (Ty.ix .item xs (atI xs x.Id)).Id = x.Id := by
      simp only [hasI, Bool.and_eq_true, beq_iff_eq] at hh
      exact hh.2
    generalize atI xs x.Id = k at *
    have hs : ∀ e, Ty.ix .item (xs.set k x) e = if e = k then x else Ty.ix .item xs e := by
      intro e
      split
      · rename_i q; subst q; exact ix_set_self (T := .item) hlt
      · rename_i q; exact ix_set_ne (T := .item) (by omega)
    have hI : ∀ e, (Ty.ix .item (xs.set k x) e).Id = (Ty.ix .item xs e).Id := by
      intro e
      rw [hs]
      split
      · rename_i q; subst q; exact hid.symm
      · rfl
    refine itemsOk_iff.2 ⟨by simpa using h1, fun e he => ?_, fun e he => ?_⟩
    · rw [hs]
      split
      · exact hx
      · exact h2 e (by simpa using he)
    · rw [hI, hI]
      exact h3 e (by simpa using he)
  · rw [e]
    have hne : atI xs x.Id < xs.length → x.Id < (Ty.ix .item xs (atI xs x.Id)).Id := by
      intro hlt
      have h5 := k3 hlt
      have h6 : ¬ (Ty.ix .item xs (atI xs x.Id)).Id = x.Id := by
        intro q
        simp [hasI, hlt, q] at hh
      omega
    generalize atI xs x.Id = k at *
    have hs := fun e => ix_ins (xs := xs) (k := k) (x := x) k1 e
    have hlen := length_insI (xs := xs) (x := x) k1
    refine itemsOk_iff.2 ⟨by omega, fun e he => ?_, fun e he => ?_⟩
    · rw [hs]
      split
      · exact h2 e (by omega)
      · split
        · exact hx
        · exact h2 (e - 1) (by omega)
    · rw [hs, hs]
      by_cases q1 : e + 1 < k
      · rw [if_pos (by omega), if_pos q1]
        exact h3 e (by omega)
      · by_cases q2 : e + 1 = k
        · rw [if_pos (by omega), if_neg (by omega), if_pos q2]
          exact k2 e (by omega)
        · by_cases q3 : e = k
          · subst q3
            rw [if_neg (by omega), if_pos rfl, if_neg (by omega), if_neg (by omega)]
            exact hne (by omega)
          · rw [if_neg (by omega), if_neg q3, if_neg (by omega), if_neg (by omega)]
            have := h3 (e - 1) (by omega)
            rw [show e - 1 + 1 = e by omega] at this
            exact this
/-- Numbers below a number. -/
def idsLt (m : Int) (xs : List Item) : Prop := ∀ e, e < xs.length → (Ty.ix .item xs e).Id < m
theorem idsLt_nil (m : Int) : idsLt m [] := fun e h => by simp at h
theorem idsLt_mono {m n : Int} {xs : List Item} (h : m ≤ n) (hx : idsLt m xs) : idsLt n xs := fun e he => Int.lt_of_lt_of_le (hx e he) h
theorem idsLt_putF {m : Int} {xs : List Item} {x : Item} (h : itemsOk xs = true) (hx : idsLt m xs) (hm : x.Id < m) : idsLt m (putF xs x).1 := by
  obtain ⟨k1, k2, k3⟩ := at_spec xs x.Id
  rcases putF_cases (x := x) h with e | ⟨_, hh, e⟩ | ⟨_, hh, hl, e⟩
  · rw [e]; exact hx
  · rw [e]
    have hlt := hasI_lt hh
    intro i hi
    by_cases q : atI xs x.Id = i
    · subst q
      rw [ix_set_self (T := .item) hlt]
      exact hm
    · rw [ix_set_ne (T := .item) q]
      exact hx i (by simpa using hi)
  · rw [e]
    intro i hi
    rw [length_insI k1] at hi
    rw [ix_ins k1]
    split
    · exact hx i (by omega)
    · split
      · exact hm
      · exact hx (i - 1) (by omega)
theorem grow_putF {xs : List Item} {x : Item} (h : itemsOk xs = true) (hx : idsLt x.Id xs) (hok : itemOk x = true) (hl : xs.length < 24) : (putF xs x).1.length = xs.length + 1 := by
  obtain ⟨k1, k2, k3⟩ := at_spec xs x.Id
  have hh : hasI xs x.Id = false := by
    cases q : hasI xs x.Id with
    | false => rfl
    | true =>
      have hlt := hasI_lt q
      have := hx _ hlt
      have := k3 hlt
      omega
  have h4 : decide (xs.length ≥ 24) = false := by simp; omega
  unfold putF
  rw [h, hok, hh, h4]
  exact length_insI k1
theorem boxP_ok {b : Box} (h : boxP b) : boxOk b = true := by
  simp only [boxP] at h
  simp [boxOk, vecOk, isIn]
  omega

noncomputable def pk (b : List Int) (p n : Int) : Int := g_rdPick b p n % n
theorem pk_lt (b : List Int) (p : Int) {n : Int} (h : 1 ≤ n) : 0 ≤ pk b p n ∧ pk b p n < n := ⟨Int.emod_nonneg _ (by omega), Int.emod_lt_of_pos _ (by omega)⟩
noncomputable def bx (b : List Int) (p : Int) : Box := (g_l11Box b p).1.1
/-- A box by another one. -/
noncomputable def nearBox (b : List Int) (p : Int) (y : Box) : Box :=
  let lx := W (W (y.Low.X + pk b p 256) - 128)
  let ly := W (W (y.Low.Y + pk b (p + 1) 256) - 128)
  ⟨⟨lx, ly⟩, ⟨W (lx + pk b (p + 1 + 1) 256), W (ly + pk b (p + 1 + 1 + 1) 256)⟩⟩
noncomputable def bStep (b : List Int) (p : Int) (xs : List Item) : Int × List Item :=
  bif decide ((xs.length : Int) > 0) then
    bif decide (pk b (p + 6) 3 > 0) then
      (p + 6 + 1 + 1 + 1 + 1 + 1 + 1 + 1, (putF xs ⟨pk b (p + 6 + 1 + 1 + 1 + 1 + 1 + 1) 12, nearBox b (p + 6 + 1 + 1) (Ty.ix .item xs (pk b (p + 6 + 1) xs.length).toNat).Box⟩).1)
    else (p + 6 + 1 + 1, (putF xs ⟨pk b (p + 6 + 1) 12, bx b p⟩).1)
  else (p + 6 + 1, (putF xs ⟨pk b (p + 6) 12, bx b p⟩).1)
noncomputable def bGo (b : List Int) : Nat → Int → List Item → Int × List Item
  | 0, p, xs => (p, xs)
  | k + 1, p, xs => bGo b k (bStep b p xs).1 (bStep b p xs).2
noncomputable def bFill (b : List Int) : Nat → Int → Int → List Item → Int × List Item
  | 0, p, n, xs => (p, xs)
  | k + 1, p, n, xs => bFill b k (p + 6) (n + 1) (putF xs ⟨20 + n, bx b p⟩).1
noncomputable def bDraw (b : List Int) (p : Int) : Int × List Item :=
  let s := bGo b (pk b p 9).toNat (p + 1) []
  bif pk b s.1 20 == 0 then bFill b (24 - s.2.length) (s.1 + 1) 0 s.2 else (s.1 + 1, s.2)

theorem put_id (b : List Int) (p : Int) : pk b p 12 < 20 := by have := pk_lt b p (n := 12) (by omega); omega
theorem bStep_spec {b : List Int} {p : Int} {xs : List Item} (h : itemsOk xs = true) (hi : idsLt 20 xs) :
    p ≤ (bStep b p xs).1 ∧ (bStep b p xs).1 ≤ p + 13 ∧ itemsOk (bStep b p xs).2 = true ∧ idsLt 20 (bStep b p xs).2 := by
  unfold bStep
  cases decide ((xs.length : Int) > 0) with
  | false => exact ⟨by simp only [cond_false]; omega, by simp only [cond_false]; omega, itemsOk_putF h, idsLt_putF h hi (put_id _ _)⟩
  | true =>
    cases decide (pk b (p + 6) 3 > 0) with
    | false => exact ⟨by simp only [cond_false, cond_true]; omega, by simp only [cond_false, cond_true]; omega, itemsOk_putF h, idsLt_putF h hi (put_id _ _)⟩
    | true => exact ⟨by simp only [cond_true]; omega, by simp only [cond_true]; omega, itemsOk_putF h, idsLt_putF h hi (put_id _ _)⟩
theorem bGo_spec {b : List Int} : ∀ {k : Nat} {p : Int} {xs : List Item}, itemsOk xs = true → idsLt 20 xs → p ≤ (bGo b k p xs).1 ∧ (bGo b k p xs).1 ≤ p + 13 * k ∧ itemsOk (bGo b k p xs).2 = true
  | 0, p, xs, h, _ => ⟨by simp only [bGo]; omega, by simp only [bGo]; omega, h⟩
  | k + 1, p, xs, h, hi => by
    obtain ⟨s1, s2, s3, s4⟩ := bStep_spec (b := b) (p := p) h hi
    obtain ⟨r1, r2, r3⟩ := bGo_spec (k := k) (p := (bStep b p xs).1) s3 s4
    simp only [bGo]
    exact ⟨by omega, by omega, r3⟩
theorem bFill_spec {b : List Int} : ∀ {k : Nat} {p n : Int} {xs : List Item}, itemsOk xs = true → p ≤ (bFill b k p n xs).1 ∧ (bFill b k p n xs).1 ≤ p + 6 * k ∧ itemsOk (bFill b k p n xs).2 = true
  | 0, p, n, xs, h => ⟨by simp only [bFill]; omega, by simp only [bFill]; omega, h⟩
  | k + 1, p, n, xs, h => by
    obtain ⟨r1, r2, r3⟩ := bFill_spec (k := k) (p := p + 6) (n := n + 1) (itemsOk_putF (x := ⟨20 + n, bx b p⟩) h)
    simp only [bFill]
    exact ⟨by omega, by omega, r3⟩
theorem itemsOk_nil : itemsOk [] = true := rfl
theorem bDraw_spec {b : List Int} {p : Int} : p ≤ (bDraw b p).1 ∧ (bDraw b p).1 ≤ p + 300 ∧ itemsOk (bDraw b p).2 = true := by
  have hk := pk_lt b p (n := 9) (by omega)
  obtain ⟨s1, s2, s3⟩ := bGo_spec (b := b) (k := (pk b p 9).toNat) (p := p + 1) itemsOk_nil (idsLt_nil 20)
  obtain ⟨r1, r2, r3⟩ := bFill_spec (b := b) (k := 24 - (bGo b (pk b p 9).toNat (p + 1) []).2.length) (p := (bGo b (pk b p 9).toNat (p + 1) []).1 + 1) (n := 0) s3
  unfold bDraw
  dsimp only
  generalize bGo b (pk b p 9).toNat (p + 1) [] = s at *
  cases pk b s.1 20 == 0 with
  | true => exact ⟨by simp only [cond_true]; omega, by simp only [cond_true]; omega, r3⟩
  | false => exact ⟨by simp only [cond_false]; omega, by simp only [cond_false]; omega, s3⟩

theorem bGo_next {b : List Int} {p q n n0 top : Int} {xs ys : List Item} {R : Int × List Item} (e : bStep b p xs = (q, ys)) (h1 : 0 < n) (h2 : n ≤ n0) (h2' : n0 ≤ 8) (h3 : 0 ≤ p) (h4 : p + 13 * n ≤ top) (h5 : itemsOk xs = true) (h6 : idsLt 20 xs)
    (h7 : bGo b n.toNat p xs = R) :
    (b = b ∧ 0 ≤ IntKind.i64.wrap (n - 1) ∧ IntKind.i64.wrap (n - 1) ≤ n0 ∧ 0 ≤ q ∧ q + 13 * IntKind.i64.wrap (n - 1) ≤ top ∧ itemsOk ys = true ∧ idsLt 20 ys ∧ bGo b (IntKind.i64.wrap (n - 1)).toNat q ys = R) ∧
    (IntKind.i64.wrap (n - 1)).toNat < n.toNat := by
  obtain ⟨s1, s2, s3, s4⟩ := bStep_spec (b := b) (p := p) h5 h6
  rw [e] at s1 s2 s3 s4
  dsimp only at s1 s2 s3 s4
  have w : IntKind.i64.wrap (n - 1) = n - 1 := wrap_small (by omega) (by omega)
  rw [w]
  refine ⟨⟨rfl, by omega, by omega, by omega, by omega, s3, s4, ?_⟩, by omega⟩
  rw [← h7]
  have : n.toNat = (n - 1).toNat + 1 := by omega
  rw [this]
  simp only [bGo, e]
theorem bFill_next {b : List Int} {p n top : Int} {xs : List Item} {R : Int × List Item} (hl : xs.length < 24) (h1 : 0 ≤ n) (h2 : n ≤ xs.length) (h3 : 0 ≤ p) (h4 : p + 6 * (24 - (xs.length : Int)) ≤ top) (h5 : itemsOk xs = true) (h6 : idsLt (20 + n) xs)
    (h7 : bFill b (24 - xs.length) p n xs = R) {ys : List Item} (e : ys = (putF xs ⟨IntKind.i64.wrap (20 + n), bx b p⟩).1) :
    (b = b ∧ 0 ≤ IntKind.i64.wrap (n + 1) ∧ IntKind.i64.wrap (n + 1) ≤ ys.length ∧ 0 ≤ p + 6 ∧ p + 6 + 6 * (24 - (ys.length : Int)) ≤ top ∧ itemsOk ys = true ∧ idsLt (20 + IntKind.i64.wrap (n + 1)) ys ∧ bFill b (24 - ys.length) (p + 6) (IntKind.i64.wrap (n + 1)) ys = R) ∧
    24 - ys.length < 24 - xs.length := by
  have w1 : IntKind.i64.wrap (n + 1) = n + 1 := wrap_small (by omega) (by omega)
  have w2 : IntKind.i64.wrap (20 + n) = 20 + n := wrap_small (by omega) (by omega)
  rw [w2] at e
  rw [w1]
  have hbx : boxOk (bx b p) = true := boxP_ok (g_l11Box b p).1.2
  have hok : itemOk ⟨20 + n, bx b p⟩ = true := by
    simp [itemOk, hbx, isIn]
    omega
  have hlen : ys.length = xs.length + 1 := by rw [e]; exact grow_putF h5 h6 hok hl
  refine ⟨⟨rfl, by omega, by omega, by omega, by omega, ?_, ?_, ?_⟩, by omega⟩
  · rw [e]; exact itemsOk_putF h5
  · rw [e]; exact idsLt_putF h5 (idsLt_mono (by omega) h6) (by show 20 + n < 20 + (n + 1); omega)
  · rw [← h7, show 24 - xs.length = (24 - ys.length) + 1 by omega]
    simp only [bFill, e]

def LSbGo  : LS where
  S := List Int × Int × Unit × List Item × List Item × Int
  live := [(0, [none]), (2, [some .item]), (3, [some .item]), (4, [none])]
  shape := fun s => ([.ptr 1 0 0, .ptr 3 0 0, .ptr 5 0 0, .int .i64 s.2.2.2.2.2], [(false, .vec .byte s.1), (true, .box [.vec 0, .int .i64 s.2.1]), (true, .vec .item s.2.2.2.1), (true, .box [.vec 2]), (true, .vec .item s.2.2.2.2.1), (true, .box [.vec 4])])
  get := fun v h => match v, h with
    | [.ptr 1 0 0, .ptr 3 0 0, .ptr 5 0 0, .int .i64 n], [(false, .vec .byte b), (true, .box [.vec 0, .int .i64 p]), (true, .vec .item z), (true, .box [.vec 2]), (true, .vec .item xs), (true, .box [.vec 4])] => some (b, p, (), z, xs, n)
    | _, _ => none
  inv := fun s0 s => Holds (s.1 = s0.1 ∧ 0 ≤ s.2.2.2.2.2 ∧ s.2.2.2.2.2 ≤ s0.2.2.2.2.2 ∧ 0 ≤ s.2.1 ∧ s.2.1 + 13 * s.2.2.2.2.2 ≤ s0.2.1 + 13 * s0.2.2.2.2.2 ∧ itemsOk s.2.2.2.2.1 = true ∧ idsLt 20 s.2.2.2.2.1 ∧ bGo s.1 s.2.2.2.2.2.toNat s.2.1 s.2.2.2.2.1 = bGo s0.1 s0.2.2.2.2.2.toNat s0.2.1 s0.2.2.2.2.1)
  mu := fun s => s.2.2.2.2.2.toNat
  ok := by
    intro v h s hg
    try dsimp only at hg
    split at hg <;> cases hg
    rfl

def LSbFill  : LS where
  S := List Int × Int × Unit × List Item × List Item × Int
  live := [(0, [none]), (2, [some .item]), (3, [some .item]), (7, [none])]
  shape := fun s => ([.ptr 1 0 0, .ptr 3 0 0, .ptr 5 0 0, .int .i64 s.2.2.2.2.2], [(false, .vec .byte s.1), (true, .box [.vec 0, .int .i64 s.2.1]), (true, .vec .item s.2.2.2.1), (true, .box [.vec 2]), (true, .vec .item s.2.2.2.2.1), (true, .box [.vec 4])])
  get := fun v h => match v, h with
    | [.ptr 1 0 0, .ptr 3 0 0, .ptr 5 0 0, .int .i64 n], [(false, .vec .byte b), (true, .box [.vec 0, .int .i64 p]), (true, .vec .item z), (true, .box [.vec 2]), (true, .vec .item xs), (true, .box [.vec 4])] => some (b, p, (), z, xs, n)
    | _, _ => none
  inv := fun s0 s => Holds (s.1 = s0.1 ∧ 0 ≤ s.2.2.2.2.2 ∧ s.2.2.2.2.2 ≤ s.2.2.2.2.1.length ∧ 0 ≤ s.2.1 ∧ s.2.1 + 6 * (24 - s.2.2.2.2.1.length) ≤ s0.2.1 + 6 * 24 ∧ itemsOk s.2.2.2.2.1 = true ∧ idsLt (20 + s.2.2.2.2.2) s.2.2.2.2.1 ∧ bFill s.1 (24 - s.2.2.2.2.1.length) s.2.1 s.2.2.2.2.2 s.2.2.2.2.1 = bFill s0.1 (24 - s0.2.2.2.2.1.length) s0.2.1 s0.2.2.2.2.2 s0.2.2.2.2.1)
  mu := fun s => 24 - s.2.2.2.2.1.length
  ok := by
    intro v h s hg
    try dsimp only at hg
    split at hg <;> cases hg
    rfl

def L_l11Broad : Loops := fun n => match n with
  | 3 => some LSbGo
  | 13 => some LSbFill
  | _ => none
noncomputable def fs_l11Broad : Fs := ⟨[], fun args H => match args, H with
  | [.ptr 1 0 0], [(false, .vec .byte b), (true, .box [.vec 0, .int .i64 p])] => some ((some (0 ≤ p ∧ p + 300 ≤ 1000000000000 ∧ BytesOk b)), .agg [.vec 2], [(false, .vec .byte b), (true, .box [.vec 0, .int .i64 (bDraw b p).1]), (true, .vec .item (bDraw b p).2)])
  | _, _ => none⟩

theorem vc_l11Broad (b : List Int) (p : Int) (Q : SV → List Ent → Prop) :
    fnVC tt (look [(75, fs_rdPick), (76, fs_l11Box), (46, fs_specBroadPut)]) (L_l11Broad) Try.f146 [.ptr 1 0 0] [(false, .vec .byte b), (true, .box [.vec 0, .int .i64 p])] Q =
    (let A1_ := (g_rdPick b p (9 : Int) % (9 : Int)); ((0 : Int) ≤ p ∧ p + (1 : Int) ≤ (1000000000000 : Int) ∧ BytesOk b ∧ (1 : Int) ≤ (9 : Int)) ∧ Holds (b = b ∧ (0 : Int) ≤ g_rdPick b p (9 : Int) % (9 : Int) ∧ g_rdPick b p (9 : Int) % (9 : Int) ≤ g_rdPick b p (9 : Int) % (9 : Int) ∧ (0 : Int) ≤ p + (1 : Int) ∧ p + (1 : Int) + (13 : Int) * A1_ ≤ p + (1 : Int) + (13 : Int) * A1_ ∧ itemsOk [] = true ∧ idsLt (20 : Int) [] ∧ bGo b (Int.toNat A1_) (p + (1 : Int)) [] = bGo b (Int.toNat A1_) (p + (1 : Int)) []) ∧ ∀ (x : List Int × Int × Unit × List Item × List Item × Int), Holds (Prod.fst x = b ∧ (0 : Int) ≤ Prod.snd (Prod.snd (Prod.snd (Prod.snd (Prod.snd x)))) ∧ Prod.snd (Prod.snd (Prod.snd (Prod.snd (Prod.snd x)))) ≤ g_rdPick b p (9 : Int) % (9 : Int) ∧ (0 : Int) ≤ Prod.fst (Prod.snd x) ∧ Prod.fst (Prod.snd x) + (13 : Int) * Prod.snd (Prod.snd (Prod.snd (Prod.snd (Prod.snd x)))) ≤ p + (1 : Int) + (13 : Int) * A1_ ∧ itemsOk (Prod.fst (Prod.snd (Prod.snd (Prod.snd (Prod.snd x))))) = true ∧ idsLt (20 : Int) (Prod.fst (Prod.snd (Prod.snd (Prod.snd (Prod.snd x))))) ∧ bGo (Prod.fst x) (Int.toNat (Prod.snd (Prod.snd (Prod.snd (Prod.snd (Prod.snd x)))))) (Prod.fst (Prod.snd x)) (Prod.fst (Prod.snd (Prod.snd (Prod.snd (Prod.snd x))))) = bGo b (Int.toNat A1_) (p + (1 : Int)) []) → ifB (decide (Prod.snd (Prod.snd (Prod.snd (Prod.snd (Prod.snd x)))) > (0 : Int))) (((0 : Int) ≤ Prod.fst (Prod.snd x) ∧ Prod.fst (Prod.snd x) + (6 : Int) ≤ (1000000000000 : Int) ∧ BytesOk (Prod.fst x)) ∧ ifB (decide ((↑(List.length (Prod.fst (Prod.snd (Prod.snd (Prod.snd (Prod.snd x)))))) : Int) > (0 : Int))) (((0 : Int) ≤ Prod.fst (Prod.snd x) + (6 : Int) ∧ Prod.fst (Prod.snd x) + (6 : Int) + (1 : Int) ≤ (1000000000000 : Int) ∧ BytesOk (Prod.fst x) ∧ (1 : Int) ≤ (3 : Int)) ∧ ifB (decide (g_rdPick (Prod.fst x) (Prod.fst (Prod.snd x) + (6 : Int)) (3 : Int) % (3 : Int) > (0 : Int))) (((0 : Int) ≤ Prod.fst (Prod.snd x) + (6 : Int) + (1 : Int) ∧ Prod.fst (Prod.snd x) + (6 : Int) + (1 : Int) + (1 : Int) ≤ (1000000000000 : Int) ∧ BytesOk (Prod.fst x) ∧ (1 : Int) ≤ (↑(List.length (Prod.fst (Prod.snd (Prod.snd (Prod.snd (Prod.snd x)))))) : Int)) ∧ ((0 : Int) ≤ g_rdPick (Prod.fst x) (Prod.fst (Prod.snd x) + (6 : Int) + (1 : Int)) (↑(List.length (Prod.fst (Prod.snd (Prod.snd (Prod.snd (Prod.snd x)))))) : Int) % (↑(List.length (Prod.fst (Prod.snd (Prod.snd (Prod.snd (Prod.snd x)))))) : Int) ∧ g_rdPick (Prod.fst x) (Prod.fst (Prod.snd x) + (6 : Int) + (1 : Int)) (↑(List.length (Prod.fst (Prod.snd (Prod.snd (Prod.snd (Prod.snd x)))))) : Int) % (↑(List.length (Prod.fst (Prod.snd (Prod.snd (Prod.snd (Prod.snd x)))))) : Int) < (↑(List.length (Prod.fst (Prod.snd (Prod.snd (Prod.snd (Prod.snd x)))))) : Int)) ∧ ((0 : Int) ≤ Prod.fst (Prod.snd x) + (6 : Int) + (1 : Int) + (1 : Int) ∧ Prod.fst (Prod.snd x) + (6 : Int) + (1 : Int) + (1 : Int) + (1 : Int) ≤ (1000000000000 : Int) ∧ BytesOk (Prod.fst x) ∧ (1 : Int) ≤ (256 : Int)) ∧ ((0 : Int) ≤ Prod.fst (Prod.snd x) + (6 : Int) + (1 : Int) + (1 : Int) + (1 : Int) ∧ Prod.fst (Prod.snd x) + (6 : Int) + (1 : Int) + (1 : Int) + (1 : Int) + (1 : Int) ≤ (1000000000000 : Int) ∧ BytesOk (Prod.fst x) ∧ (1 : Int) ≤ (256 : Int)) ∧ ((0 : Int) ≤ Prod.fst (Prod.snd x) + (6 : Int) + (1 : Int) + (1 : Int) + (1 : Int) + (1 : Int) ∧ Prod.fst (Prod.snd x) + (6 : Int) + (1 : Int) + (1 : Int) + (1 : Int) + (1 : Int) + (1 : Int) ≤ (1000000000000 : Int) ∧ BytesOk (Prod.fst x) ∧ (1 : Int) ≤ (256 : Int)) ∧ ((0 : Int) ≤ Prod.fst (Prod.snd x) + (6 : Int) + (1 : Int) + (1 : Int) + (1 : Int) + (1 : Int) + (1 : Int) ∧ Prod.fst (Prod.snd x) + (6 : Int) + (1 : Int) + (1 : Int) + (1 : Int) + (1 : Int) + (1 : Int) + (1 : Int) ≤ (1000000000000 : Int) ∧ BytesOk (Prod.fst x) ∧ (1 : Int) ≤ (256 : Int)) ∧ ((0 : Int) ≤ Prod.fst (Prod.snd x) + (6 : Int) + (1 : Int) + (1 : Int) + (1 : Int) + (1 : Int) + (1 : Int) + (1 : Int) ∧ Prod.fst (Prod.snd x) + (6 : Int) + (1 : Int) + (1 : Int) + (1 : Int) + (1 : Int) + (1 : Int) + (1 : Int) + (1 : Int) ≤ (1000000000000 : Int) ∧ BytesOk (Prod.fst x) ∧ (1 : Int) ≤ (12 : Int)) ∧ List.length (Prod.fst (Prod.snd (Prod.snd (Prod.snd (Prod.snd x))))) ≤ (1048576 : Nat) ∧ Holds (Prod.fst x = b ∧ (0 : Int) ≤ IntKind.wrap IntKind.i64 (Prod.snd (Prod.snd (Prod.snd (Prod.snd (Prod.snd x)))) - (1 : Int)) ∧ IntKind.wrap IntKind.i64 (Prod.snd (Prod.snd (Prod.snd (Prod.snd (Prod.snd x)))) - (1 : Int)) ≤ g_rdPick b p (9 : Int) % (9 : Int) ∧ (0 : Int) ≤ Prod.fst (Prod.snd x) + (6 : Int) + (1 : Int) + (1 : Int) + (1 : Int) + (1 : Int) + (1 : Int) + (1 : Int) + (1 : Int) ∧ Prod.fst (Prod.snd x) + (6 : Int) + (1 : Int) + (1 : Int) + (1 : Int) + (1 : Int) + (1 : Int) + (1 : Int) + (1 : Int) + (13 : Int) * IntKind.wrap IntKind.i64 (Prod.snd (Prod.snd (Prod.snd (Prod.snd (Prod.snd x)))) - (1 : Int)) ≤ p + (1 : Int) + (13 : Int) * A1_ ∧ itemsOk (Prod.fst (putF (Prod.fst (Prod.snd (Prod.snd (Prod.snd (Prod.snd x))))) (Item.mk (g_rdPick (Prod.fst x) (Prod.fst (Prod.snd x) + (6 : Int) + (1 : Int) + (1 : Int) + (1 : Int) + (1 : Int) + (1 : Int) + (1 : Int)) (12 : Int) % (12 : Int)) (Box.mk (Vec.mk (IntKind.wrap IntKind.i64 (IntKind.wrap IntKind.i64 (Vec.X (Box.Low (Item.Box (Ty.ix Ty.item (Prod.fst (Prod.snd (Prod.snd (Prod.snd (Prod.snd x))))) (Int.toNat (g_rdPick (Prod.fst x) (Prod.fst (Prod.snd x) + (6 : Int) + (1 : Int)) (↑(List.length (Prod.fst (Prod.snd (Prod.snd (Prod.snd (Prod.snd x)))))) : Int) % (↑(List.length (Prod.fst (Prod.snd (Prod.snd (Prod.snd (Prod.snd x)))))) : Int)))))) + g_rdPick (Prod.fst x) (Prod.fst (Prod.snd x) + (6 : Int) + (1 : Int) + (1 : Int)) (256 : Int) % (256 : Int)) - (128 : Int))) (IntKind.wrap IntKind.i64 (IntKind.wrap IntKind.i64 (Vec.Y (Box.Low (Item.Box (Ty.ix Ty.item (Prod.fst (Prod.snd (Prod.snd (Prod.snd (Prod.snd x))))) (Int.toNat (g_rdPick (Prod.fst x) (Prod.fst (Prod.snd x) + (6 : Int) + (1 : Int)) (↑(List.length (Prod.fst (Prod.snd (Prod.snd (Prod.snd (Prod.snd x)))))) : Int) % (↑(List.length (Prod.fst (Prod.snd (Prod.snd (Prod.snd (Prod.snd x)))))) : Int)))))) + g_rdPick (Prod.fst x) (Prod.fst (Prod.snd x) + (6 : Int) + (1 : Int) + (1 : Int) + (1 : Int)) (256 : Int) % (256 : Int)) - (128 : Int)))) (Vec.mk (IntKind.wrap IntKind.i64 (IntKind.wrap IntKind.i64 (IntKind.wrap IntKind.i64 (Vec.X (Box.Low (Item.Box (Ty.ix Ty.item (Prod.fst (Prod.snd (Prod.snd (Prod.snd (Prod.snd x))))) (Int.toNat (g_rdPick (Prod.fst x) (Prod.fst (Prod.snd x) + (6 : Int) + (1 : Int)) (↑(List.length (Prod.fst (Prod.snd (Prod.snd (Prod.snd (Prod.snd x)))))) : Int) % (↑(List.length (Prod.fst (Prod.snd (Prod.snd (Prod.snd (Prod.snd x)))))) : Int)))))) + g_rdPick (Prod.fst x) (Prod.fst (Prod.snd x) + (6 : Int) + (1 : Int) + (1 : Int)) (256 : Int) % (256 : Int)) - (128 : Int)) + g_rdPick (Prod.fst x) (Prod.fst (Prod.snd x) + (6 : Int) + (1 : Int) + (1 : Int) + (1 : Int) + (1 : Int)) (256 : Int) % (256 : Int))) (IntKind.wrap IntKind.i64 (IntKind.wrap IntKind.i64 (IntKind.wrap IntKind.i64 (Vec.Y (Box.Low (Item.Box (Ty.ix Ty.item (Prod.fst (Prod.snd (Prod.snd (Prod.snd (Prod.snd x))))) (Int.toNat (g_rdPick (Prod.fst x) (Prod.fst (Prod.snd x) + (6 : Int) + (1 : Int)) (↑(List.length (Prod.fst (Prod.snd (Prod.snd (Prod.snd (Prod.snd x)))))) : Int) % (↑(List.length (Prod.fst (Prod.snd (Prod.snd (Prod.snd (Prod.snd x)))))) : Int)))))) + g_rdPick (Prod.fst x) (Prod.fst (Prod.snd x) + (6 : Int) + (1 : Int) + (1 : Int) + (1 : Int)) (256 : Int) % (256 : Int)) - (128 : Int)) + g_rdPick (Prod.fst x) (Prod.fst (Prod.snd x) + (6 : Int) + (1 : Int) + (1 : Int) + (1 : Int) + (1 : Int) + (1 : Int)) (256 : Int) % (256 : Int)))))))) = true ∧ idsLt (20 : Int) (Prod.fst (putF (Prod.fst (Prod.snd (Prod.snd (Prod.snd (Prod.snd x))))) (Item.mk (g_rdPick (Prod.fst x) (Prod.fst (Prod.snd x) + (6 : Int) + (1 : Int) + (1 : Int) + (1 : Int) + (1 : Int) + (1 : Int) + (1 : Int)) (12 : Int) % (12 : Int)) (Box.mk (Vec.mk (IntKind.wrap IntKind.i64 (IntKind.wrap IntKind.i64 (Vec.X (Box.Low (Item.Box (Ty.ix Ty.item (Prod.fst (Prod.snd (Prod.snd (Prod.snd (Prod.snd x))))) (Int.toNat (g_rdPick (Prod.fst x) (Prod.fst (Prod.snd x) + (6 : Int) + (1 : Int)) (↑(List.length (Prod.fst (Prod.snd (Prod.snd (Prod.snd (Prod.snd x)))))) : Int) % (↑(List.length (Prod.fst (Prod.snd (Prod.snd (Prod.snd (Prod.snd x)))))) : Int)))))) + g_rdPick (Prod.fst x) (Prod.fst (Prod.snd x) + (6 : Int) + (1 : Int) + (1 : Int)) (256 : Int) % (256 : Int)) - (128 : Int))) (IntKind.wrap IntKind.i64 (IntKind.wrap IntKind.i64 (Vec.Y (Box.Low (Item.Box (Ty.ix Ty.item (Prod.fst (Prod.snd (Prod.snd (Prod.snd (Prod.snd x))))) (Int.toNat (g_rdPick (Prod.fst x) (Prod.fst (Prod.snd x) + (6 : Int) + (1 : Int)) (↑(List.length (Prod.fst (Prod.snd (Prod.snd (Prod.snd (Prod.snd x)))))) : Int) % (↑(List.length (Prod.fst (Prod.snd (Prod.snd (Prod.snd (Prod.snd x)))))) : Int)))))) + g_rdPick (Prod.fst x) (Prod.fst (Prod.snd x) + (6 : Int) + (1 : Int) + (1 : Int) + (1 : Int)) (256 : Int) % (256 : Int)) - (128 : Int)))) (Vec.mk (IntKind.wrap IntKind.i64 (IntKind.wrap IntKind.i64 (IntKind.wrap IntKind.i64 (Vec.X (Box.Low (Item.Box (Ty.ix Ty.item (Prod.fst (Prod.snd (Prod.snd (Prod.snd (Prod.snd x))))) (Int.toNat (g_rdPick (Prod.fst x) (Prod.fst (Prod.snd x) + (6 : Int) + (1 : Int)) (↑(List.length (Prod.fst (Prod.snd (Prod.snd (Prod.snd (Prod.snd x)))))) : Int) % (↑(List.length (Prod.fst (Prod.snd (Prod.snd (Prod.snd (Prod.snd x)))))) : Int)))))) + g_rdPick (Prod.fst x) (Prod.fst (Prod.snd x) + (6 : Int) + (1 : Int) + (1 : Int)) (256 : Int) % (256 : Int)) - (128 : Int)) + g_rdPick (Prod.fst x) (Prod.fst (Prod.snd x) + (6 : Int) + (1 : Int) + (1 : Int) + (1 : Int) + (1 : Int)) (256 : Int) % (256 : Int))) (IntKind.wrap IntKind.i64 (IntKind.wrap IntKind.i64 (IntKind.wrap IntKind.i64 (Vec.Y (Box.Low (Item.Box (Ty.ix Ty.item (Prod.fst (Prod.snd (Prod.snd (Prod.snd (Prod.snd x))))) (Int.toNat (g_rdPick (Prod.fst x) (Prod.fst (Prod.snd x) + (6 : Int) + (1 : Int)) (↑(List.length (Prod.fst (Prod.snd (Prod.snd (Prod.snd (Prod.snd x)))))) : Int) % (↑(List.length (Prod.fst (Prod.snd (Prod.snd (Prod.snd (Prod.snd x)))))) : Int)))))) + g_rdPick (Prod.fst x) (Prod.fst (Prod.snd x) + (6 : Int) + (1 : Int) + (1 : Int) + (1 : Int)) (256 : Int) % (256 : Int)) - (128 : Int)) + g_rdPick (Prod.fst x) (Prod.fst (Prod.snd x) + (6 : Int) + (1 : Int) + (1 : Int) + (1 : Int) + (1 : Int) + (1 : Int)) (256 : Int) % (256 : Int)))))))) ∧ bGo (Prod.fst x) (Int.toNat (IntKind.wrap IntKind.i64 (Prod.snd (Prod.snd (Prod.snd (Prod.snd (Prod.snd x)))) - (1 : Int)))) (Prod.fst (Prod.snd x) + (6 : Int) + (1 : Int) + (1 : Int) + (1 : Int) + (1 : Int) + (1 : Int) + (1 : Int) + (1 : Int)) (Prod.fst (putF (Prod.fst (Prod.snd (Prod.snd (Prod.snd (Prod.snd x))))) (Item.mk (g_rdPick (Prod.fst x) (Prod.fst (Prod.snd x) + (6 : Int) + (1 : Int) + (1 : Int) + (1 : Int) + (1 : Int) + (1 : Int) + (1 : Int)) (12 : Int) % (12 : Int)) (Box.mk (Vec.mk (IntKind.wrap IntKind.i64 (IntKind.wrap IntKind.i64 (Vec.X (Box.Low (Item.Box (Ty.ix Ty.item (Prod.fst (Prod.snd (Prod.snd (Prod.snd (Prod.snd x))))) (Int.toNat (g_rdPick (Prod.fst x) (Prod.fst (Prod.snd x) + (6 : Int) + (1 : Int)) (↑(List.length (Prod.fst (Prod.snd (Prod.snd (Prod.snd (Prod.snd x)))))) : Int) % (↑(List.length (Prod.fst (Prod.snd (Prod.snd (Prod.snd (Prod.snd x)))))) : Int)))))) + g_rdPick (Prod.fst x) (Prod.fst (Prod.snd x) + (6 : Int) + (1 : Int) + (1 : Int)) (256 : Int) % (256 : Int)) - (128 : Int))) (IntKind.wrap IntKind.i64 (IntKind.wrap IntKind.i64 (Vec.Y (Box.Low (Item.Box (Ty.ix Ty.item (Prod.fst (Prod.snd (Prod.snd (Prod.snd (Prod.snd x))))) (Int.toNat (g_rdPick (Prod.fst x) (Prod.fst (Prod.snd x) + (6 : Int) + (1 : Int)) (↑(List.length (Prod.fst (Prod.snd (Prod.snd (Prod.snd (Prod.snd x)))))) : Int) % (↑(List.length (Prod.fst (Prod.snd (Prod.snd (Prod.snd (Prod.snd x)))))) : Int)))))) + g_rdPick (Prod.fst x) (Prod.fst (Prod.snd x) + (6 : Int) + (1 : Int) + (1 : Int) + (1 : Int)) (256 : Int) % (256 : Int)) - (128 : Int)))) (Vec.mk (IntKind.wrap IntKind.i64 (IntKind.wrap IntKind.i64 (IntKind.wrap IntKind.i64 (Vec.X (Box.Low (Item.Box (Ty.ix Ty.item (Prod.fst (Prod.snd (Prod.snd (Prod.snd (Prod.snd x))))) (Int.toNat (g_rdPick (Prod.fst x) (Prod.fst (Prod.snd x) + (6 : Int) + (1 : Int)) (↑(List.length (Prod.fst (Prod.snd (Prod.snd (Prod.snd (Prod.snd x)))))) : Int) % (↑(List.length (Prod.fst (Prod.snd (Prod.snd (Prod.snd (Prod.snd x)))))) : Int)))))) + g_rdPick (Prod.fst x) (Prod.fst (Prod.snd x) + (6 : Int) + (1 : Int) + (1 : Int)) (256 : Int) % (256 : Int)) - (128 : Int)) + g_rdPick (Prod.fst x) (Prod.fst (Prod.snd x) + (6 : Int) + (1 : Int) + (1 : Int) + (1 : Int) + (1 : Int)) (256 : Int) % (256 : Int))) (IntKind.wrap IntKind.i64 (IntKind.wrap IntKind.i64 (IntKind.wrap IntKind.i64 (Vec.Y (Box.Low (Item.Box (Ty.ix Ty.item (Prod.fst (Prod.snd (Prod.snd (Prod.snd (Prod.snd x))))) (Int.toNat (g_rdPick (Prod.fst x) (Prod.fst (Prod.snd x) + (6 : Int) + (1 : Int)) (↑(List.length (Prod.fst (Prod.snd (Prod.snd (Prod.snd (Prod.snd x)))))) : Int) % (↑(List.length (Prod.fst (Prod.snd (Prod.snd (Prod.snd (Prod.snd x)))))) : Int)))))) + g_rdPick (Prod.fst x) (Prod.fst (Prod.snd x) + (6 : Int) + (1 : Int) + (1 : Int) + (1 : Int)) (256 : Int) % (256 : Int)) - (128 : Int)) + g_rdPick (Prod.fst x) (Prod.fst (Prod.snd x) + (6 : Int) + (1 : Int) + (1 : Int) + (1 : Int) + (1 : Int) + (1 : Int)) (256 : Int) % (256 : Int)))))))) = bGo b (Int.toNat A1_) (p + (1 : Int)) []) ∧ Int.toNat (IntKind.wrap IntKind.i64 (Prod.snd (Prod.snd (Prod.snd (Prod.snd (Prod.snd x)))) - (1 : Int))) < Int.toNat (Prod.snd (Prod.snd (Prod.snd (Prod.snd (Prod.snd x)))))) (((0 : Int) ≤ Prod.fst (Prod.snd x) + (6 : Int) + (1 : Int) ∧ Prod.fst (Prod.snd x) + (6 : Int) + (1 : Int) + (1 : Int) ≤ (1000000000000 : Int) ∧ BytesOk (Prod.fst x) ∧ (1 : Int) ≤ (12 : Int)) ∧ List.length (Prod.fst (Prod.snd (Prod.snd (Prod.snd (Prod.snd x))))) ≤ (1048576 : Nat) ∧ Holds (Prod.fst x = b ∧ (0 : Int) ≤ IntKind.wrap IntKind.i64 (Prod.snd (Prod.snd (Prod.snd (Prod.snd (Prod.snd x)))) - (1 : Int)) ∧ IntKind.wrap IntKind.i64 (Prod.snd (Prod.snd (Prod.snd (Prod.snd (Prod.snd x)))) - (1 : Int)) ≤ g_rdPick b p (9 : Int) % (9 : Int) ∧ (0 : Int) ≤ Prod.fst (Prod.snd x) + (6 : Int) + (1 : Int) + (1 : Int) ∧ Prod.fst (Prod.snd x) + (6 : Int) + (1 : Int) + (1 : Int) + (13 : Int) * IntKind.wrap IntKind.i64 (Prod.snd (Prod.snd (Prod.snd (Prod.snd (Prod.snd x)))) - (1 : Int)) ≤ p + (1 : Int) + (13 : Int) * A1_ ∧ itemsOk (Prod.fst (putF (Prod.fst (Prod.snd (Prod.snd (Prod.snd (Prod.snd x))))) (Item.mk (g_rdPick (Prod.fst x) (Prod.fst (Prod.snd x) + (6 : Int) + (1 : Int)) (12 : Int) % (12 : Int)) (Subtype.val (Prod.fst (g_l11Box (Prod.fst x) (Prod.fst (Prod.snd x)))))))) = true ∧ idsLt (20 : Int) (Prod.fst (putF (Prod.fst (Prod.snd (Prod.snd (Prod.snd (Prod.snd x))))) (Item.mk (g_rdPick (Prod.fst x) (Prod.fst (Prod.snd x) + (6 : Int) + (1 : Int)) (12 : Int) % (12 : Int)) (Subtype.val (Prod.fst (g_l11Box (Prod.fst x) (Prod.fst (Prod.snd x)))))))) ∧ bGo (Prod.fst x) (Int.toNat (IntKind.wrap IntKind.i64 (Prod.snd (Prod.snd (Prod.snd (Prod.snd (Prod.snd x)))) - (1 : Int)))) (Prod.fst (Prod.snd x) + (6 : Int) + (1 : Int) + (1 : Int)) (Prod.fst (putF (Prod.fst (Prod.snd (Prod.snd (Prod.snd (Prod.snd x))))) (Item.mk (g_rdPick (Prod.fst x) (Prod.fst (Prod.snd x) + (6 : Int) + (1 : Int)) (12 : Int) % (12 : Int)) (Subtype.val (Prod.fst (g_l11Box (Prod.fst x) (Prod.fst (Prod.snd x)))))))) = bGo b (Int.toNat A1_) (p + (1 : Int)) []) ∧ Int.toNat (IntKind.wrap IntKind.i64 (Prod.snd (Prod.snd (Prod.snd (Prod.snd (Prod.snd x)))) - (1 : Int))) < Int.toNat (Prod.snd (Prod.snd (Prod.snd (Prod.snd (Prod.snd x))))))) (((0 : Int) ≤ Prod.fst (Prod.snd x) + (6 : Int) ∧ Prod.fst (Prod.snd x) + (6 : Int) + (1 : Int) ≤ (1000000000000 : Int) ∧ BytesOk (Prod.fst x) ∧ (1 : Int) ≤ (12 : Int)) ∧ List.length (Prod.fst (Prod.snd (Prod.snd (Prod.snd (Prod.snd x))))) ≤ (1048576 : Nat) ∧ Holds (Prod.fst x = b ∧ (0 : Int) ≤ IntKind.wrap IntKind.i64 (Prod.snd (Prod.snd (Prod.snd (Prod.snd (Prod.snd x)))) - (1 : Int)) ∧ IntKind.wrap IntKind.i64 (Prod.snd (Prod.snd (Prod.snd (Prod.snd (Prod.snd x)))) - (1 : Int)) ≤ g_rdPick b p (9 : Int) % (9 : Int) ∧ (0 : Int) ≤ Prod.fst (Prod.snd x) + (6 : Int) + (1 : Int) ∧ Prod.fst (Prod.snd x) + (6 : Int) + (1 : Int) + (13 : Int) * IntKind.wrap IntKind.i64 (Prod.snd (Prod.snd (Prod.snd (Prod.snd (Prod.snd x)))) - (1 : Int)) ≤ p + (1 : Int) + (13 : Int) * A1_ ∧ itemsOk (Prod.fst (putF (Prod.fst (Prod.snd (Prod.snd (Prod.snd (Prod.snd x))))) (Item.mk (g_rdPick (Prod.fst x) (Prod.fst (Prod.snd x) + (6 : Int)) (12 : Int) % (12 : Int)) (Subtype.val (Prod.fst (g_l11Box (Prod.fst x) (Prod.fst (Prod.snd x)))))))) = true ∧ idsLt (20 : Int) (Prod.fst (putF (Prod.fst (Prod.snd (Prod.snd (Prod.snd (Prod.snd x))))) (Item.mk (g_rdPick (Prod.fst x) (Prod.fst (Prod.snd x) + (6 : Int)) (12 : Int) % (12 : Int)) (Subtype.val (Prod.fst (g_l11Box (Prod.fst x) (Prod.fst (Prod.snd x)))))))) ∧ bGo (Prod.fst x) (Int.toNat (IntKind.wrap IntKind.i64 (Prod.snd (Prod.snd (Prod.snd (Prod.snd (Prod.snd x)))) - (1 : Int)))) (Prod.fst (Prod.snd x) + (6 : Int) + (1 : Int)) (Prod.fst (putF (Prod.fst (Prod.snd (Prod.snd (Prod.snd (Prod.snd x))))) (Item.mk (g_rdPick (Prod.fst x) (Prod.fst (Prod.snd x) + (6 : Int)) (12 : Int) % (12 : Int)) (Subtype.val (Prod.fst (g_l11Box (Prod.fst x) (Prod.fst (Prod.snd x)))))))) = bGo b (Int.toNat A1_) (p + (1 : Int)) []) ∧ Int.toNat (IntKind.wrap IntKind.i64 (Prod.snd (Prod.snd (Prod.snd (Prod.snd (Prod.snd x)))) - (1 : Int))) < Int.toNat (Prod.snd (Prod.snd (Prod.snd (Prod.snd (Prod.snd x))))))) (((0 : Int) ≤ Prod.fst (Prod.snd x) ∧ Prod.fst (Prod.snd x) + (1 : Int) ≤ (1000000000000 : Int) ∧ BytesOk (Prod.fst x) ∧ (1 : Int) ≤ (20 : Int)) ∧ ifB (g_rdPick (Prod.fst x) (Prod.fst (Prod.snd x)) (20 : Int) % (20 : Int) == (0 : Int)) (Holds (Prod.fst x = Prod.fst x ∧ (0 : Int) ≤ (0 : Int) ∧ (0 : Int) ≤ (↑(List.length (Prod.fst (Prod.snd (Prod.snd (Prod.snd (Prod.snd x)))))) : Int) ∧ (0 : Int) ≤ Prod.fst (Prod.snd x) + (1 : Int) ∧ Prod.fst (Prod.snd x) + (1 : Int) + (6 : Int) * ((24 : Int) - (↑(List.length (Prod.fst (Prod.snd (Prod.snd (Prod.snd (Prod.snd x)))))) : Int)) ≤ Prod.fst (Prod.snd x) + (1 : Int) + (6 : Int) * (24 : Int) ∧ itemsOk (Prod.fst (Prod.snd (Prod.snd (Prod.snd (Prod.snd x))))) = true ∧ idsLt ((20 : Int) + (0 : Int)) (Prod.fst (Prod.snd (Prod.snd (Prod.snd (Prod.snd x))))) ∧ bFill (Prod.fst x) ((24 : Nat) - List.length (Prod.fst (Prod.snd (Prod.snd (Prod.snd (Prod.snd x)))))) (Prod.fst (Prod.snd x) + (1 : Int)) (0 : Int) (Prod.fst (Prod.snd (Prod.snd (Prod.snd (Prod.snd x))))) = bFill (Prod.fst x) ((24 : Nat) - List.length (Prod.fst (Prod.snd (Prod.snd (Prod.snd (Prod.snd x)))))) (Prod.fst (Prod.snd x) + (1 : Int)) (0 : Int) (Prod.fst (Prod.snd (Prod.snd (Prod.snd (Prod.snd x)))))) ∧ ∀ (x_1 : List Int × Int × Unit × List Item × List Item × Int), Holds (Prod.fst x_1 = Prod.fst x ∧ (0 : Int) ≤ Prod.snd (Prod.snd (Prod.snd (Prod.snd (Prod.snd x_1)))) ∧ Prod.snd (Prod.snd (Prod.snd (Prod.snd (Prod.snd x_1)))) ≤ (↑(List.length (Prod.fst (Prod.snd (Prod.snd (Prod.snd (Prod.snd x_1)))))) : Int) ∧ (0 : Int) ≤ Prod.fst (Prod.snd x_1) ∧ Prod.fst (Prod.snd x_1) + (6 : Int) * ((24 : Int) - (↑(List.length (Prod.fst (Prod.snd (Prod.snd (Prod.snd (Prod.snd x_1)))))) : Int)) ≤ Prod.fst (Prod.snd x) + (1 : Int) + (6 : Int) * (24 : Int) ∧ itemsOk (Prod.fst (Prod.snd (Prod.snd (Prod.snd (Prod.snd x_1))))) = true ∧ idsLt ((20 : Int) + Prod.snd (Prod.snd (Prod.snd (Prod.snd (Prod.snd x_1))))) (Prod.fst (Prod.snd (Prod.snd (Prod.snd (Prod.snd x_1))))) ∧ bFill (Prod.fst x_1) ((24 : Nat) - List.length (Prod.fst (Prod.snd (Prod.snd (Prod.snd (Prod.snd x_1)))))) (Prod.fst (Prod.snd x_1)) (Prod.snd (Prod.snd (Prod.snd (Prod.snd (Prod.snd x_1))))) (Prod.fst (Prod.snd (Prod.snd (Prod.snd (Prod.snd x_1))))) = bFill (Prod.fst x) ((24 : Nat) - List.length (Prod.fst (Prod.snd (Prod.snd (Prod.snd (Prod.snd x)))))) (Prod.fst (Prod.snd x) + (1 : Int)) (0 : Int) (Prod.fst (Prod.snd (Prod.snd (Prod.snd (Prod.snd x)))))) → ifB (decide ((↑(List.length (Prod.fst (Prod.snd (Prod.snd (Prod.snd (Prod.snd x_1)))))) : Int) < (24 : Int))) (((0 : Int) ≤ Prod.fst (Prod.snd x_1) ∧ Prod.fst (Prod.snd x_1) + (6 : Int) ≤ (1000000000000 : Int) ∧ BytesOk (Prod.fst x_1)) ∧ List.length (Prod.fst (Prod.snd (Prod.snd (Prod.snd (Prod.snd x_1))))) ≤ (1048576 : Nat) ∧ Holds (Prod.fst x_1 = Prod.fst x ∧ (0 : Int) ≤ IntKind.wrap IntKind.i64 (Prod.snd (Prod.snd (Prod.snd (Prod.snd (Prod.snd x_1)))) + (1 : Int)) ∧ IntKind.wrap IntKind.i64 (Prod.snd (Prod.snd (Prod.snd (Prod.snd (Prod.snd x_1)))) + (1 : Int)) ≤ (↑(List.length (Prod.fst (putF (Prod.fst (Prod.snd (Prod.snd (Prod.snd (Prod.snd x_1))))) (Item.mk (IntKind.wrap IntKind.i64 ((20 : Int) + Prod.snd (Prod.snd (Prod.snd (Prod.snd (Prod.snd x_1)))))) (Subtype.val (Prod.fst (g_l11Box (Prod.fst x_1) (Prod.fst (Prod.snd x_1))))))))) : Int) ∧ (0 : Int) ≤ Prod.fst (Prod.snd x_1) + (6 : Int) ∧ Prod.fst (Prod.snd x_1) + (6 : Int) + (6 : Int) * ((24 : Int) - (↑(List.length (Prod.fst (putF (Prod.fst (Prod.snd (Prod.snd (Prod.snd (Prod.snd x_1))))) (Item.mk (IntKind.wrap IntKind.i64 ((20 : Int) + Prod.snd (Prod.snd (Prod.snd (Prod.snd (Prod.snd x_1)))))) (Subtype.val (Prod.fst (g_l11Box (Prod.fst x_1) (Prod.fst (Prod.snd x_1))))))))) : Int)) ≤ Prod.fst (Prod.snd x) + (1 : Int) + (6 : Int) * (24 : Int) ∧ itemsOk (Prod.fst (putF (Prod.fst (Prod.snd (Prod.snd (Prod.snd (Prod.snd x_1))))) (Item.mk (IntKind.wrap IntKind.i64 ((20 : Int) + Prod.snd (Prod.snd (Prod.snd (Prod.snd (Prod.snd x_1)))))) (Subtype.val (Prod.fst (g_l11Box (Prod.fst x_1) (Prod.fst (Prod.snd x_1)))))))) = true ∧ idsLt ((20 : Int) + IntKind.wrap IntKind.i64 (Prod.snd (Prod.snd (Prod.snd (Prod.snd (Prod.snd x_1)))) + (1 : Int))) (Prod.fst (putF (Prod.fst (Prod.snd (Prod.snd (Prod.snd (Prod.snd x_1))))) (Item.mk (IntKind.wrap IntKind.i64 ((20 : Int) + Prod.snd (Prod.snd (Prod.snd (Prod.snd (Prod.snd x_1)))))) (Subtype.val (Prod.fst (g_l11Box (Prod.fst x_1) (Prod.fst (Prod.snd x_1)))))))) ∧ bFill (Prod.fst x_1) ((24 : Nat) - List.length (Prod.fst (putF (Prod.fst (Prod.snd (Prod.snd (Prod.snd (Prod.snd x_1))))) (Item.mk (IntKind.wrap IntKind.i64 ((20 : Int) + Prod.snd (Prod.snd (Prod.snd (Prod.snd (Prod.snd x_1)))))) (Subtype.val (Prod.fst (g_l11Box (Prod.fst x_1) (Prod.fst (Prod.snd x_1))))))))) (Prod.fst (Prod.snd x_1) + (6 : Int)) (IntKind.wrap IntKind.i64 (Prod.snd (Prod.snd (Prod.snd (Prod.snd (Prod.snd x_1)))) + (1 : Int))) (Prod.fst (putF (Prod.fst (Prod.snd (Prod.snd (Prod.snd (Prod.snd x_1))))) (Item.mk (IntKind.wrap IntKind.i64 ((20 : Int) + Prod.snd (Prod.snd (Prod.snd (Prod.snd (Prod.snd x_1)))))) (Subtype.val (Prod.fst (g_l11Box (Prod.fst x_1) (Prod.fst (Prod.snd x_1)))))))) = bFill (Prod.fst x) ((24 : Nat) - List.length (Prod.fst (Prod.snd (Prod.snd (Prod.snd (Prod.snd x)))))) (Prod.fst (Prod.snd x) + (1 : Int)) (0 : Int) (Prod.fst (Prod.snd (Prod.snd (Prod.snd (Prod.snd x)))))) ∧ (24 : Nat) - List.length (Prod.fst (putF (Prod.fst (Prod.snd (Prod.snd (Prod.snd (Prod.snd x_1))))) (Item.mk (IntKind.wrap IntKind.i64 ((20 : Int) + Prod.snd (Prod.snd (Prod.snd (Prod.snd (Prod.snd x_1)))))) (Subtype.val (Prod.fst (g_l11Box (Prod.fst x_1) (Prod.fst (Prod.snd x_1)))))))) < (24 : Nat) - List.length (Prod.fst (Prod.snd (Prod.snd (Prod.snd (Prod.snd x_1)))))) (Q (SV.agg [SV.vec (2 : Nat)]) [(false, Blk.vec Ty.byte (Prod.fst x_1)), (true, Blk.box [SV.vec (0 : Nat), SV.int IntKind.i64 (Prod.fst (Prod.snd x_1))]), (true, Blk.vec Ty.item (Prod.fst (Prod.snd (Prod.snd (Prod.snd (Prod.snd x_1))))))])) (Q (SV.agg [SV.vec (2 : Nat)]) [(false, Blk.vec Ty.byte (Prod.fst x)), (true, Blk.box [SV.vec (0 : Nat), SV.int IntKind.i64 (Prod.fst (Prod.snd x) + (1 : Int))]), (true, Blk.vec Ty.item (Prod.fst (Prod.snd (Prod.snd (Prod.snd (Prod.snd x))))))]))) := by kernel_rfl

theorem ok_l11Broad : FsOk Try.prog 146 fs_l11Broad := fsOk_of tt_ok (tabFs_cons ok_rdPick (tabFs_cons ok_l11Box (tabFs_cons ok_specBroadPut tabFs_nil))) mixed Try.func146 (by kernel_rfl) (by kernel_rfl) (by
    intro args LL p r HH h hp
    unfold fs_l11Broad at h
    dsimp only at h
    split at h
    case h_2 => cases h
    rename_i b p
    simp only [Option.some.injEq, Prod.mk.injEq] at h
    obtain ⟨rfl, rfl, rfl⟩ := h
    refine ⟨by simp [Form, stays], (L_l11Broad), ?_⟩
    rw [vc_l11Broad]
    try dsimp only
    obtain ⟨h0, h1, hby⟩ := hp _ rfl
    have hk := pk_lt b p (n := 9) (by omega)
    simp only [pk] at hk
    refine ⟨⟨h0, by omega, hby, by omega⟩, ⟨(by trivial), hk.1, by omega, by omega, by omega, (by trivial), idsLt_nil _, (by trivial)⟩, ?_⟩
    rintro ⟨b', p', u, z, xs, n⟩ ⟨h⟩
    dsimp only at h ⊢
    obtain ⟨rfl, i1, i2, i3, i4, i5, i6, i7⟩ := h
    have hlen := itemsOk_len i5
    refine ifB_of (fun c => ?_) (fun c => ?_)
    · have c := of_decide_eq_true c
      refine ⟨⟨i3, by omega, hby⟩, ifB_of (fun c1 => ⟨⟨by omega, by omega, hby, by omega⟩, ifB_of (fun c2 => ?_) (fun c2 => ?_)⟩) (fun c1 => ?_)⟩
      · have hl : 0 < (xs.length : Int) := of_decide_eq_true c1
        have hx := pk_lt b' (p' + 6 + 1) (n := xs.length) (by omega)
        have e := bGo_next (b := b') (p := p') (by unfold bStep; rw [c1, show decide (pk b' (p' + 6) 3 > 0) = true from c2]) c i2 (by omega) i3 i4 i5 i6 i7
        exact ⟨⟨by omega, by omega, hby, by omega⟩, hx, ⟨by omega, by omega, hby, by omega⟩, ⟨by omega, by omega, hby, by omega⟩, ⟨by omega, by omega, hby, by omega⟩, ⟨by omega, by omega, hby, by omega⟩, ⟨by omega, by omega, hby, by omega⟩, by omega, ⟨e.1⟩, e.2⟩
      · have e := bGo_next (b := b') (p := p') (by unfold bStep; rw [c1, show decide (pk b' (p' + 6) 3 > 0) = false from c2]) c i2 (by omega) i3 i4 i5 i6 i7
        exact ⟨⟨by omega, by omega, hby, by omega⟩, by omega, ⟨e.1⟩, e.2⟩
      · have e := bGo_next (b := b') (p := p') (by unfold bStep; rw [c1]) c i2 (by omega) i3 i4 i5 i6 i7
        exact ⟨⟨by omega, by omega, hby, by omega⟩, by omega, ⟨e.1⟩, e.2⟩
    · have c := of_decide_eq_false c
      have hn : n.toNat = 0 := by omega
      rw [hn] at i7
      have hd : bDraw b' p = bif g_rdPick b' p' 20 % 20 == 0 then bFill b' (24 - xs.length) (p' + 1) 0 xs else (p' + 1, xs) := by
        simp only [bDraw, pk, ← i7, bGo]
      refine ⟨⟨i3, by omega, hby, by omega⟩, ifB_of (fun c1 => ?_) (fun c1 => ?_)⟩
      · rw [c1] at hd
        refine ⟨⟨(by trivial), by omega, by omega, by omega, by omega, i5, idsLt_mono (by omega) i6, (by trivial)⟩, ?_⟩
        rintro ⟨b2, p2, u2, z2, ys, n2⟩ ⟨h⟩
        dsimp only at h ⊢
        obtain ⟨rfl, j1, j2, j3, j4, j5, j6, j7⟩ := h
        refine ifB_of (fun c2 => ?_) (fun c2 => ?_)
        · have c2 := of_decide_eq_true c2
          have e := bFill_next (by omega) j1 j2 j3 j4 j5 j6 j7 rfl
          exact ⟨⟨j3, by omega, hby⟩, by omega, ⟨e.1⟩, e.2⟩
        · have c2 := of_decide_eq_false c2
          have e0 : 24 - ys.length = 0 := by omega
          rw [e0] at j7
          simp only [hd, cond_true, ← j7, bFill]
          exact ⟨(by trivial), (by trivial)⟩
      · rw [c1] at hd
        simp only [hd, cond_false]
        exact ⟨(by trivial), (by trivial)⟩)

def broadP (xs : List Item) : Prop := xs.length ≤ 25
instance : Nonempty {x : List Item // broadP x} := ⟨⟨[], by simp [broadP]⟩⟩
noncomputable def g_l11AnyBroad (b : List Int) (p : Int) : ({x : List Item // broadP x}) × Nat := someAns tt (look [(75, fs_rdPick), (129, fs_rdOne), (130, fs_l11AnyBox), (146, fs_l11Broad)]) Try.f73 [.ptr 1 0 0] [(false, .vec .byte b), (true, .box [.vec 0, .int .i64 p])] (fun x : ({x : List Item // broadP x}) × Nat => (.agg [.vec 2] : SV)) (fun x : ({x : List Item // broadP x}) × Nat => ([(false, .vec .byte b), (true, .box [.vec 0, .int .i64 (p + ((x.2 % 401 : Nat) : Int))]), (true, .vec .item (x.1.1))] : List Ent))
noncomputable def fs_l11AnyBroad : Fs := ⟨[], fun args H => match args, H with
  | [.ptr 1 0 0], [(false, .vec .byte b), (true, .box [.vec 0, .int .i64 p])] => some ((some (0 ≤ p ∧ p + 400 ≤ 1000000000000 ∧ BytesOk b)), .agg [.vec 2], [(false, .vec .byte b), (true, .box [.vec 0, .int .i64 (p + (((g_l11AnyBroad b p).2 % 401 : Nat) : Int))]), (true, .vec .item ((g_l11AnyBroad b p).1.1))])
  | _, _ => none⟩

theorem vc_l11AnyBroad (b : List Int) (p : Int) (Q : SV → List Ent → Prop) :
    fnVC tt (look [(75, fs_rdPick), (129, fs_rdOne), (130, fs_l11AnyBox), (146, fs_l11Broad)]) L0 Try.f73 [.ptr 1 0 0] [(false, .vec .byte b), (true, .box [.vec 0, .int .i64 p])] Q =
    (let A3_ := (Ty.ix Ty.item (Prod.snd (bDraw b p)) (Int.toNat (0 : Int))); let A2_ := (Prod.fst (bDraw b p) + (1 : Int) + (1 : Int)); let A1_ := (↑(List.length (Prod.snd (bDraw b p))) : Int); ((0 : Int) ≤ p ∧ p + (300 : Int) ≤ (1000000000000 : Int) ∧ BytesOk b) ∧ ifB (A1_ == (0 : Int)) (Q (SV.agg [SV.vec (2 : Nat)]) [(false, Blk.vec Ty.byte b), (true, Blk.box [SV.vec (0 : Nat), SV.int IntKind.i64 (Prod.fst (bDraw b p))]), (true, Blk.vec Ty.item (Prod.snd (bDraw b p)))]) (((0 : Int) ≤ Prod.fst (bDraw b p) ∧ Prod.fst (bDraw b p) + (1 : Int) ≤ (1000000000000 : Int) ∧ BytesOk b ∧ (1 : Int) ≤ A1_) ∧ ((0 : Int) ≤ Prod.fst (bDraw b p) + (1 : Int) ∧ Prod.fst (bDraw b p) + (1 : Int) + (1 : Int) ≤ (1000000000000 : Int) ∧ BytesOk b ∧ (1 : Int) ≤ (20 : Int)) ∧ ifB (g_rdPick b (Prod.fst (bDraw b p) + (1 : Int)) (20 : Int) % (20 : Int) == (0 : Int)) (((0 : Int) ≤ (0 : Int) ∧ (0 : Int) < A1_) ∧ ((0 : Int) ≤ Prod.fst (bDraw b p) + (1 : Int) + (1 : Int) ∧ Prod.fst (bDraw b p) + (1 : Int) + (1 : Int) + (1 : Int) ≤ (1000000000000 : Int) ∧ BytesOk b ∧ (1 : Nat) ≤ List.length [(-1 : Int), Item.Id A3_, (1000000001 : Int)]) ∧ ((0 : Int) ≤ g_rdPick b (Prod.fst (bDraw b p)) A1_ % A1_ ∧ g_rdPick b (Prod.fst (bDraw b p)) A1_ % A1_ < A1_) ∧ Q (SV.agg [SV.vec (2 : Nat)]) [(false, Blk.vec Ty.byte b), (true, Blk.box [SV.vec (0 : Nat), SV.int IntKind.i64 (Prod.fst (bDraw b p) + (1 : Int) + (1 : Int) + (1 : Int))]), (true, Blk.vec Ty.item (setC Ty.item (Prod.snd (bDraw b p)) (Int.toNat (g_rdPick b (Prod.fst (bDraw b p)) A1_ % A1_)) ((0 : Nat) + (0 : Nat)) [SV.int IntKind.i64 (Ty.ix Ty.int [(-1 : Int), Item.Id A3_, (1000000001 : Int)] (Int.toNat (g_rdPick b A2_ (↑(List.length [(-1 : Int), Item.Id A3_, (1000000001 : Int)]) : Int) % (↑(List.length [(-1 : Int), Item.Id A3_, (1000000001 : Int)]) : Int))))]))]) (ifB (g_rdPick b (Prod.fst (bDraw b p) + (1 : Int)) (20 : Int) % (20 : Int) == (1 : Int)) (((0 : Int) ≤ Prod.fst (bDraw b p) + (1 : Int) + (1 : Int) ∧ Prod.fst (bDraw b p) + (1 : Int) + (1 : Int) + (8 : Int) ≤ (1000000000000 : Int) ∧ BytesOk b) ∧ ((0 : Int) ≤ g_rdPick b (Prod.fst (bDraw b p)) A1_ % A1_ ∧ g_rdPick b (Prod.fst (bDraw b p)) A1_ % A1_ < A1_) ∧ Q (SV.agg [SV.vec (2 : Nat)]) [(false, Blk.vec Ty.byte b), (true, Blk.box [SV.vec (0 : Nat), SV.int IntKind.i64 (Prod.fst (bDraw b p) + (1 : Int) + (1 : Int) + (↑(Prod.snd (g_l11AnyBox b A2_) % (9 : Nat)) : Int))]), (true, Blk.vec Ty.item (setC Ty.item (Prod.snd (bDraw b p)) (Int.toNat (g_rdPick b (Prod.fst (bDraw b p)) A1_ % A1_)) ((0 : Nat) + (1 : Nat)) [SV.int IntKind.i64 (Vec.X (Box.Low (Prod.fst (g_l11AnyBox b A2_)))), SV.int IntKind.i64 (Vec.Y (Box.Low (Prod.fst (g_l11AnyBox b A2_)))), SV.int IntKind.i64 (Vec.X (Box.High (Prod.fst (g_l11AnyBox b A2_)))), SV.int IntKind.i64 (Vec.Y (Box.High (Prod.fst (g_l11AnyBox b A2_))))]))]) (ifB (g_rdPick b (Prod.fst (bDraw b p) + (1 : Int)) (20 : Int) % (20 : Int) == (2 : Int)) (((0 : Int) ≤ (0 : Int) ∧ (0 : Int) < A1_) ∧ (List.length (Prod.snd (bDraw b p)) + List.length [Ty.ix Ty.item (Prod.snd (bDraw b p)) (Int.toNat (0 : Int))]) * (40 : Nat) ≤ room ∧ Q (SV.agg [SV.vec (2 : Nat)]) [(false, Blk.vec Ty.byte b), (true, Blk.box [SV.vec (0 : Nat), SV.int IntKind.i64 A2_]), (true, Blk.vec Ty.item (Prod.snd (bDraw b p) ++ [Ty.ix Ty.item (Prod.snd (bDraw b p)) (Int.toNat (0 : Int))]))]) (Q (SV.agg [SV.vec (2 : Nat)]) [(false, Blk.vec Ty.byte b), (true, Blk.box [SV.vec (0 : Nat), SV.int IntKind.i64 A2_]), (true, Blk.vec Ty.item (Prod.snd (bDraw b p)))]))))) := by kernel_rfl

theorem ok_l11AnyBroad : FsOk Try.prog 73 fs_l11AnyBroad := fsOk_of tt_ok (tabFs_cons ok_rdPick (tabFs_cons ok_rdOne (tabFs_cons ok_l11AnyBox (tabFs_cons ok_l11Broad tabFs_nil)))) mixed Try.func73 (by kernel_rfl) (by kernel_rfl) (by
    intro args LL p0 r HH h hp
    unfold fs_l11AnyBroad at h
    dsimp only at h
    split at h
    case h_2 => cases h
    rename_i b p
    simp only [Option.some.injEq, Prod.mk.injEq] at h
    obtain ⟨rfl, rfl, rfl⟩ := h
    refine ⟨by simp [Form, stays], L0, ?_⟩
    obtain ⟨hp0, hp1, hby⟩ := hp _ rfl
    refine someAns_ok (R := (fun x : ({x : List Item // broadP x}) × Nat => (.agg [.vec 2] : SV))) (HH := (fun x : ({x : List Item // broadP x}) × Nat => ([(false, .vec .byte b), (true, .box [.vec 0, .int .i64 (p + ((x.2 % 401 : Nat) : Int))]), (true, .vec .item (x.1.1))] : List Ent))) (by kernel_rfl) ?_
    have fin : ∀ (z : List Item) (p' : Int), broadP z → p ≤ p' → p' ≤ p + 400 → ∃ x : ({x : List Item // broadP x}) × Nat, ((.agg [.vec 2] : SV) : SV) = (fun x : ({x : List Item // broadP x}) × Nat => (.agg [.vec 2] : SV)) x ∧ (([(false, .vec .byte b), (true, .box [.vec 0, .int .i64 p']), (true, .vec .item (z))] : List Ent) : List Ent) = (fun x : ({x : List Item // broadP x}) × Nat => ([(false, .vec .byte b), (true, .box [.vec 0, .int .i64 (p + ((x.2 % 401 : Nat) : Int))]), (true, .vec .item (x.1.1))] : List Ent)) x := fun z p' hpred h1 h2 => ⟨(⟨z, hpred⟩, (p' - p).toNat), rfl, by
      have : p + (((p' - p).toNat % 401 : Nat) : Int) = p' := by omega
      dsimp only
      rw [this]⟩
    rw [vc_l11AnyBroad]
    try dsimp only
    try dsimp only at fin
    obtain ⟨d1, d2, d3⟩ := bDraw_spec (b := b) (p := p)
    have dl := itemsOk_len d3
    generalize bDraw b p = d at *
    obtain ⟨q, xs⟩ := d
    dsimp only at d1 d2 d3 dl ⊢
    refine ⟨⟨hp0, by omega, hby⟩, ifB_of (fun c => ?_) (fun c => ?_)⟩
    · exact fin _ _ (by simp only [broadP]; omega) (by omega) (by omega)
    · have hl : 0 < (xs.length : Int) := by
        have : ¬ (xs.length : Int) = 0 := by simpa using c
        omega
      have hk := pk_lt b q (n := xs.length) (by omega)
      simp only [pk] at hk
      refine ⟨⟨by omega, by omega, hby, by omega⟩, ⟨by omega, by omega, hby, by omega⟩, ifB_of (fun _ => ?_) (fun _ => ifB_of (fun _ => ?_) (fun _ => ifB_of (fun _ => ?_) (fun _ => ?_)))⟩
      · exact ⟨⟨by omega, hl⟩, ⟨by omega, by omega, hby, by simp⟩, hk, fin _ _ (by simp only [broadP, length_setC_item]; omega) (by omega) (by omega)⟩
      · exact ⟨⟨by omega, by omega, hby⟩, hk, fin _ _ (by simp only [broadP, length_setC_item]; omega) (by omega) (by omega)⟩
      · exact ⟨⟨by omega, hl⟩, by simp only [room, List.length_cons, List.length_nil]; omega, fin _ _ (by simp only [broadP, List.length_append, List.length_cons, List.length_nil]; omega) (by omega) (by omega)⟩
      · exact fin _ _ (by simp only [broadP]; omega) (by omega) (by omega))

end Go.Proofs.Ytgdpaijphaeimaa.Sym
