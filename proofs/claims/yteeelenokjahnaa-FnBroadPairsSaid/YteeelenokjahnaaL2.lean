/-
  Laws of boxes.
  No condition.
-/
import Derived.Test.YteeelenokjahnaaD2
namespace Go.Proofs.Yteeelenokjahnaa.Sym
open Go
set_option linter.unusedVariables false
set_option linter.unusedSimpArgs false
set_option maxRecDepth 100000

/-- What is left without a number. -/
def goneL (id : Int) (xs : List Item) : List Item := xs.filter fun y => y.Id != id
def noPair (id : Int) (q : Pair) : Bool := q.A != id && q.B != id
theorem rowF_gone {id : Int} {x : Item} (h : x.Id ≠ id) : ∀ (ys : List Item), (rowF x ys).filter (noPair id) = rowF x (goneL id ys)
  | [] => rfl
  | y :: r => by
    have ih := rowF_gone h r
    simp only [rowF, goneL] at ih ⊢
    cases hm : boxMeets x.Box y.Box <;> cases hy : (y.Id != id) <;> simp [List.filter, hm, hy, noPair, h] at ih ⊢ <;> simp_all
theorem rowF_none {id : Int} {x : Item} (h : x.Id = id) : ∀ (ys : List Item), (rowF x ys).filter (noPair id) = []
  | [] => rfl
  | y :: r => by
    have ih := rowF_none h r
    simp only [rowF] at ih ⊢
    cases hm : boxMeets x.Box y.Box with
    | true => simpa [List.filter, hm, noPair, h] using ih
    | false => simpa [List.filter, hm] using ih
theorem pairsF_gone {id : Int} : ∀ (xs : List Item), (pairsF xs).filter (noPair id) = pairsF (goneL id xs)
  | [] => rfl
  | x :: r => by
    simp only [pairsF, List.filter_append]
    rw [pairsF_gone r]
    by_cases h : x.Id = id
    · rw [rowF_none h]
      have : goneL id (x :: r) = goneL id r := by simp [goneL, h]
      rw [this]
      rfl
    · rw [rowF_gone h]
      have : goneL id (x :: r) = x :: goneL id r := by simp [goneL, h]
      rw [this]
      rfl
theorem ix_del {xs : List Item} {k : Nat} (hk : k < xs.length) (e : Nat) : Ty.ix .item (delI xs k) e = if e < k then Ty.ix .item xs e else Ty.ix .item xs (e + 1) := by
  simp only [Ty.ix, delI, List.getD_eq_getElem?_getD]
  split
  · rename_i h
    rw [List.getElem?_append_left (by simp; omega), List.getElem?_take_of_lt h]
  · rename_i h
    rw [List.getElem?_append_right (by simp; omega)]
    have hl : (xs.take k).length = k := by simp; omega
    rw [hl, List.getElem?_drop, show k + 1 + (e - k) = e + 1 by omega]
theorem length_delI {xs : List Item} {k : Nat} (hk : k < xs.length) : (delI xs k).length + 1 = xs.length := by
  simp [delI]
  omega
theorem itemsOk_del {xs : List Item} {k : Nat} (h : itemsOk xs = true) (hk : k < xs.length) : itemsOk (delI xs k) = true := by
  obtain ⟨h1, h2, h3⟩ := itemsOk_iff.1 h
  have hl := length_delI hk
  refine itemsOk_iff.2 ⟨by omega, fun e he => ?_, fun e he => ?_⟩
  · rw [ix_del hk]
    split
    · exact h2 e (by omega)
    · exact h2 (e + 1) (by omega)
  · rw [ix_del hk, ix_del hk]
    by_cases q : e + 1 < k
    · rw [if_pos (by omega), if_pos q]
      exact h3 e (by omega)
    · by_cases q2 : e < k
      · rw [if_pos q2, if_neg q]
        exact items_lt h (by omega) (by omega)
      · rw [if_neg q2, if_neg q]
        exact h3 (e + 1) (by omega)
theorem mem_ix {T : Ty} {xs : List T.El} {x : T.El} (h : x ∈ xs) : ∃ i, i < xs.length ∧ T.ix xs i = x := by
  obtain ⟨i, hi, e⟩ := List.mem_iff_getElem.1 h
  exact ⟨i, hi, ix_eq (by rw [← e]; exact List.getElem?_eq_getElem hi)⟩
theorem hasI_at {xs : List Item} {id : Int} (h : hasI xs id = true) : (Ty.ix .item xs (atI xs id)).Id = id := by
  simp only [hasI, Bool.and_eq_true, beq_iff_eq] at h
  exact h.2
theorem del_gone {xs : List Item} {id : Int} (h : itemsOk xs = true) (hh : hasI xs id = true) : delI xs (atI xs id) = goneL id xs := by
  have hlt := hasI_lt hh
  have hid := hasI_at hh
  generalize atI xs id = k at *
  have e : xs = xs.take k ++ Ty.ix .item xs k :: xs.drop (k + 1) := by
    rw [← drop_ix (T := .item) hlt, List.take_append_drop]
  have h1 : goneL id (xs.take k) = xs.take k := by
    refine List.filter_eq_self.2 fun y hy => ?_
    obtain ⟨i, hi, q⟩ := mem_ix (T := .item) hy
    have hi' : i < k := by simp at hi; omega
    have hx : Ty.ix .item (xs.take k) i = Ty.ix .item xs i := by simp only [Ty.ix, List.getD_eq_getElem?_getD, List.getElem?_take_of_lt hi']
    have := items_lt h hi' hlt
    rw [← q, hx]
    simp
    omega
  have h2 : goneL id (xs.drop (k + 1)) = xs.drop (k + 1) := by
    refine List.filter_eq_self.2 fun y hy => ?_
    obtain ⟨i, hi, q⟩ := mem_ix (T := .item) hy
    have hx : Ty.ix .item (xs.drop (k + 1)) i = Ty.ix .item xs (k + 1 + i) := by simp only [Ty.ix, List.getD_eq_getElem?_getD, List.getElem?_drop]
    have := items_lt h (a := k) (b := k + 1 + i) (by omega) (by simp at hi; omega)
    rw [← q, hx]
    simp
    omega
  have h3 : goneL id (Ty.ix .item xs k :: xs.drop (k + 1)) = xs.drop (k + 1) := by
    conv => rhs; rw [← h2]
    simp [goneL, hid]
  conv => rhs; rw [e]
  unfold delI
  have h4 : goneL id (xs.take k ++ Ty.ix .item xs k :: xs.drop (k + 1)) = goneL id (xs.take k) ++ goneL id (Ty.ix .item xs k :: xs.drop (k + 1)) := by simp [goneL]
  rw [h4, h1, h3]
theorem hasI_gone {xs : List Item} {id : Int} : hasI (goneL id xs) id = false := by
  cases hh : hasI (goneL id xs) id with
  | false => rfl
  | true =>
    have hlt := hasI_lt hh
    have hid := hasI_at hh
    have hm : Ty.ix .item (goneL id xs) (atI (goneL id xs) id) ∈ goneL id xs := by
      have := ix_get (T := .item) hlt
      exact List.mem_of_getElem? this
    have := (List.mem_filter.1 hm).2
    simp [hid] at this
def goneP (z : List Item × Int) : Prop := z.1.length ≤ 25
instance : Nonempty {x : List Item × Int // goneP x} := ⟨⟨([], 0), by simp [goneP]⟩⟩
noncomputable def g_DrawBroadGone (b : List Int) : {x : List Item × Int // goneP x} := someAns tt (look [(73, fs_l1Open), (77, fs_rdPick), (103, fs_l11AnyBroad)]) Try.f63 [.vec 0] [(false, .vec .byte b)] (fun x : {x : List Item × Int // goneP x} => (.tup [.agg [.vec 1], .int .i64 ((x.1).2)] : SV)) (fun x : {x : List Item × Int // goneP x} => ([(false, .vec .byte b), (true, .vec .item ((x.1).1))] : List Ent))
noncomputable def fs_DrawBroadGone : Fs := ⟨[], fun args H => match args, H with
  | [.vec 0], [(false, .vec .byte b)] => some ((some (BytesOk b)), .tup [.agg [.vec 1], .int .i64 (((g_DrawBroadGone b).1).2)], [(false, .vec .byte b), (true, .vec .item (((g_DrawBroadGone b).1).1))])
  | _, _ => none⟩

theorem vc_DrawBroadGone (b : List Int) (Q : SV → List Ent → Prop) :
    fnVC tt (look [(73, fs_l1Open), (77, fs_rdPick), (103, fs_l11AnyBroad)]) L0 Try.f63 [.vec 0] [(false, .vec .byte b)] Q =
    (((0 : Int) ≤ (0 : Int) ∧ (0 : Int) + (400 : Int) ≤ (1000000000000 : Int) ∧ BytesOk (List.take (min (List.length b) (2000 : Nat)) (List.drop (0 : Nat) b))) ∧ ((0 : Int) ≤ (0 : Int) + (↑(Prod.snd (g_l11AnyBroad (List.take (min (List.length b) (2000 : Nat)) (List.drop (0 : Nat) b)) (0 : Int)) % (401 : Nat)) : Int) ∧ (0 : Int) + (↑(Prod.snd (g_l11AnyBroad (List.take (min (List.length b) (2000 : Nat)) (List.drop (0 : Nat) b)) (0 : Int)) % (401 : Nat)) : Int) + (1 : Int) ≤ (1000000000000 : Int) ∧ BytesOk (List.take (min (List.length b) (2000 : Nat)) (List.drop (0 : Nat) b)) ∧ (1 : Int) ≤ (12 : Int)) ∧ Q (SV.tup [SV.agg [SV.vec (1 : Nat)], SV.int IntKind.i64 (g_rdPick (List.take (min (List.length b) (2000 : Nat)) (List.drop (0 : Nat) b)) ((0 : Int) + (↑(Prod.snd (g_l11AnyBroad (List.take (min (List.length b) (2000 : Nat)) (List.drop (0 : Nat) b)) (0 : Int)) % (401 : Nat)) : Int)) (12 : Int) % (12 : Int))]) [(false, Blk.vec Ty.byte b), (true, Blk.vec Ty.item (Subtype.val (Prod.fst (g_l11AnyBroad (List.take (min (List.length b) (2000 : Nat)) (List.drop (0 : Nat) b)) (0 : Int)))))]) := by kernel_rfl

theorem ok_DrawBroadGone : FsOk Try.prog 63 fs_DrawBroadGone := fsOk_of tt_ok (tabFs_cons ok_l1Open (tabFs_cons ok_rdPick (tabFs_cons ok_l11AnyBroad tabFs_nil))) mixed Try.func63 (by kernel_rfl) (by kernel_rfl) (by
    intro args LL p0 r HH h hp
    unfold fs_DrawBroadGone at h
    dsimp only at h
    split at h
    case h_2 => cases h
    rename_i b
    simp only [Option.some.injEq, Prod.mk.injEq] at h
    obtain ⟨rfl, rfl, rfl⟩ := h
    refine ⟨by simp [Form, stays], L0, ?_⟩
    have hby := hp _ rfl
    refine someAns_ok (R := (fun x : {x : List Item × Int // goneP x} => (.tup [.agg [.vec 1], .int .i64 ((x.1).2)] : SV))) (HH := (fun x : {x : List Item × Int // goneP x} => ([(false, .vec .byte b), (true, .vec .item ((x.1).1))] : List Ent))) (by kernel_rfl) ?_
    have fin : ∀ (z0 : List Item) (z1 : Int), goneP (z0, z1) → ∃ x : {x : List Item × Int // goneP x}, ((.tup [.agg [.vec 1], .int .i64 (((z0, z1)).2)] : SV) : SV) = (fun x : {x : List Item × Int // goneP x} => (.tup [.agg [.vec 1], .int .i64 ((x.1).2)] : SV)) x ∧ (([(false, .vec .byte b), (true, .vec .item (((z0, z1)).1))] : List Ent) : List Ent) = (fun x : {x : List Item × Int // goneP x} => ([(false, .vec .byte b), (true, .vec .item ((x.1).1))] : List Ent)) x := fun z0 z1 hpred => ⟨⟨(z0, z1), hpred⟩, rfl, rfl⟩
    rw [vc_DrawBroadGone]
    try dsimp only
    try dsimp only at fin
    repeat' (first | refine ifB_of (fun _ => ?_) (fun _ => ?_) | refine pre_of ?_ (fun _ => ?_))
    all_goals first
      | (refine fin _ _ ?_; exact (g_l11AnyBroad _ _).1.2)
      | omega
      | exact hby
      | exact hby.part _ _
      | exact Nat.le_add_left _ _
      | exact ⟨by omega, by omega, hby.part _ _⟩
      | exact ⟨by omega, by omega, hby.part _ _, by omega⟩
      | exact ⟨by omega, by omega, hby.part _ _, Nat.le_add_left _ _⟩)

def leftF (id : Int) (ps : List Pair) : List Pair := ps.filter (noPair id)
theorem leftF_drop {id : Int} {ps : List Pair} {i : Nat} (h : i < ps.length) : leftF id (ps.drop i) = (bif noPair id (Ty.ix .pair ps i) then [Ty.ix .pair ps i] else []) ++ leftF id (ps.drop (i + 1)) := by
  rw [drop_ix (T := .pair) h]
  unfold leftF
  cases q : noPair id (Ty.ix .pair ps i) <;> simp [List.filter, q]
theorem ifBt {p q : Prop} : ifB true p q = p := rfl
theorem ifBf {p q : Prop} : ifB false p q = q := rfl
theorem goneF_true {xs : List Item} {id : Int} (h : (goneF xs id).2 = true) : itemsOk xs = true ∧ (goneF xs id).1 = goneL id xs ∧ itemsOk (goneL id xs) = true := by
  unfold goneF at h ⊢
  cases h1 : itemsOk xs with
  | false => rw [h1] at h; cases h
  | true =>
    cases h2 : hasI xs id with
    | false => rw [h1, h2] at h; cases h
    | true =>
      have e := del_gone h1 h2
      refine ⟨rfl, e, ?_⟩
      rw [← e]
      exact itemsOk_del h1 (hasI_lt h2)
theorem goneF_twice {xs : List Item} {id : Int} : (goneF (goneL id xs) id).2 = false := by
  unfold goneF
  rw [hasI_gone]
  cases itemsOk (goneL id xs) <;> rfl
theorem leftF_end {id : Int} {ps : List Pair} {i : Nat} (h : ps.length ≤ i) : leftF id (ps.drop i) = [] := by
  rw [drop_end h]
  rfl
theorem left_next {id i : Int} {ps l l' : List Pair} (h0 : 0 ≤ i) (h1 : i < ps.length) (hl : ps.length ≤ 576) (h : l ++ leftF id (ps.drop i.toNat) = leftF id ps)
    (e : l' = l ++ bif noPair id (Ty.ix .pair ps i.toNat) then [Ty.ix .pair ps i.toNat] else []) :
    (0 ≤ IntKind.i64.wrap (i + 1) ∧ IntKind.i64.wrap (i + 1) ≤ ps.length ∧ l' ++ leftF id (ps.drop (IntKind.i64.wrap (i + 1)).toNat) = leftF id ps) ∧ ((ps.length : Int) - IntKind.i64.wrap (i + 1)).toNat < ((ps.length : Int) - i).toNat := by
  have w : IntKind.i64.wrap (i + 1) = i + 1 := wrap_small (by omega) (by omega)
  rw [w]
  refine ⟨⟨by omega, by omega, ?_⟩, by omega⟩
  rw [← h, leftF_drop (ps := ps) (i := i.toNat) (by omega), e, show (i + 1).toNat = i.toNat + 1 by omega, List.append_assoc]

def LSleft  : LS where
  S := List Int × Int × List Item × List Pair × List Pair × Int
  live := [(4, [none]), (5, [some .item]), (9, [some .pair]), (10, [some .pair]), (11, [none])]
  shape := fun s => ([.int .i64 s.2.1, .ptr 2 0 0, .vec 3, .vec 4, .int .i64 s.2.2.2.2.2], [(false, .vec .byte s.1), (true, .vec .item s.2.2.1), (true, .box [.vec 1]), (true, .vec .pair s.2.2.2.1), (true, .vec .pair s.2.2.2.2.1)])
  get := fun v h => match v, h with
    | [.int .i64 id, .ptr 2 0 0, .vec 3, .vec 4, .int .i64 i], [(false, .vec .byte b), (true, .vec .item x), (true, .box [.vec 1]), (true, .vec .pair list), (true, .vec .pair lft)] => some (b, id, x, list, lft, i)
    | _, _ => none
  inv := fun s0 s => Holds (s.1 = s0.1 ∧ s.2.1 = s0.2.1 ∧ s.2.2.1 = s0.2.2.1 ∧ s.2.2.2.1 = s0.2.2.2.1 ∧ 0 ≤ s.2.2.2.2.2 ∧ s.2.2.2.2.2 ≤ s0.2.2.2.1.length ∧ s.2.2.2.2.1 ++ leftF s0.2.1 (s0.2.2.2.1.drop s.2.2.2.2.2.toNat) = leftF s0.2.1 s0.2.2.2.1)
  mu := fun s => ((s.2.2.2.1.length : Int) - s.2.2.2.2.2).toNat
  ok := by
    intro v h s hg
    try dsimp only at hg
    split at hg <;> cases hg
    rfl

def L_lawBroadGone : Loops := fun n => match n with
  | 11 => some LSleft
  | _ => none
noncomputable def fs_lawBroadGone : Fs := ⟨[], fun args H => match args, H with
  | [.vec 0], [(false, .vec .byte b)] => some ((some (LOk .byte b)), .bool (true), [(false, .vec .byte b)])
  | _, _ => none⟩

theorem vc_lawBroadGone (b : List Int) (Q : SV → List Ent → Prop) :
    fnVC tt (look [(63, fs_DrawBroadGone), (64, fs_implBroadGone), (65, fs_specBroadGone), (66, fs_lawsPqBroad), (46, fs_implBroadPairs), (18, fs_implBroadOk), (47, fs_lawsPqPairs)]) (L_lawBroadGone) Try.f13 [.vec 0] [(false, .vec .byte b)] Q =
    (ifB (decide ((↑(List.length b) : Int) > (1048576 : Int))) (Q (SV.bool true) [(false, Blk.vec Ty.byte b)]) (BytesOk b ∧ List.length (Prod.fst (Subtype.val (g_DrawBroadGone b))) ≤ (1048576 : Nat) ∧ List.length (Prod.fst (Subtype.val (g_DrawBroadGone b))) ≤ (1048576 : Nat) ∧ ifB (!Prod.snd (goneF (Prod.fst (Subtype.val (g_DrawBroadGone b))) (Prod.snd (Subtype.val (g_DrawBroadGone b)))) == Prod.snd (goneF (Prod.fst (Subtype.val (g_DrawBroadGone b))) (Prod.snd (Subtype.val (g_DrawBroadGone b))))) (ifB (Prod.snd (goneF (Prod.fst (Subtype.val (g_DrawBroadGone b))) (Prod.snd (Subtype.val (g_DrawBroadGone b)))) == Prod.snd (goneF (Prod.fst (Subtype.val (g_DrawBroadGone b))) (Prod.snd (Subtype.val (g_DrawBroadGone b))))) (List.length (Prod.fst (goneF (Prod.fst (Subtype.val (g_DrawBroadGone b))) (Prod.snd (Subtype.val (g_DrawBroadGone b))))) ≤ (4611686018427387904 : Nat) ∧ Q (SV.bool (same (Prod.fst (goneF (Prod.fst (Subtype.val (g_DrawBroadGone b))) (Prod.snd (Subtype.val (g_DrawBroadGone b))))) (Prod.fst (goneF (Prod.fst (Subtype.val (g_DrawBroadGone b))) (Prod.snd (Subtype.val (g_DrawBroadGone b))))))) [(false, Blk.vec Ty.byte b)]) (Q (SV.bool false) [(false, Blk.vec Ty.byte b)])) (List.length (Prod.fst (goneF (Prod.fst (Subtype.val (g_DrawBroadGone b))) (Prod.snd (Subtype.val (g_DrawBroadGone b))))) ≤ (4611686018427387904 : Nat) ∧ ifB (!same (Prod.fst (goneF (Prod.fst (Subtype.val (g_DrawBroadGone b))) (Prod.snd (Subtype.val (g_DrawBroadGone b))))) (Prod.fst (goneF (Prod.fst (Subtype.val (g_DrawBroadGone b))) (Prod.snd (Subtype.val (g_DrawBroadGone b)))))) (ifB (Prod.snd (goneF (Prod.fst (Subtype.val (g_DrawBroadGone b))) (Prod.snd (Subtype.val (g_DrawBroadGone b)))) == Prod.snd (goneF (Prod.fst (Subtype.val (g_DrawBroadGone b))) (Prod.snd (Subtype.val (g_DrawBroadGone b))))) (List.length (Prod.fst (goneF (Prod.fst (Subtype.val (g_DrawBroadGone b))) (Prod.snd (Subtype.val (g_DrawBroadGone b))))) ≤ (4611686018427387904 : Nat) ∧ Q (SV.bool (same (Prod.fst (goneF (Prod.fst (Subtype.val (g_DrawBroadGone b))) (Prod.snd (Subtype.val (g_DrawBroadGone b))))) (Prod.fst (goneF (Prod.fst (Subtype.val (g_DrawBroadGone b))) (Prod.snd (Subtype.val (g_DrawBroadGone b))))))) [(false, Blk.vec Ty.byte b)]) (Q (SV.bool false) [(false, Blk.vec Ty.byte b)])) (ifB (!Prod.snd (goneF (Prod.fst (Subtype.val (g_DrawBroadGone b))) (Prod.snd (Subtype.val (g_DrawBroadGone b))))) (ifB (Prod.snd (goneF (Prod.fst (Subtype.val (g_DrawBroadGone b))) (Prod.snd (Subtype.val (g_DrawBroadGone b)))) == Prod.snd (goneF (Prod.fst (Subtype.val (g_DrawBroadGone b))) (Prod.snd (Subtype.val (g_DrawBroadGone b))))) (List.length (Prod.fst (goneF (Prod.fst (Subtype.val (g_DrawBroadGone b))) (Prod.snd (Subtype.val (g_DrawBroadGone b))))) ≤ (4611686018427387904 : Nat) ∧ Q (SV.bool (same (Prod.fst (goneF (Prod.fst (Subtype.val (g_DrawBroadGone b))) (Prod.snd (Subtype.val (g_DrawBroadGone b))))) (Prod.fst (goneF (Prod.fst (Subtype.val (g_DrawBroadGone b))) (Prod.snd (Subtype.val (g_DrawBroadGone b))))))) [(false, Blk.vec Ty.byte b)]) (Q (SV.bool false) [(false, Blk.vec Ty.byte b)])) (List.length (Prod.fst (Subtype.val (g_DrawBroadGone b))) ≤ (1048576 : Nat) ∧ Holds (b = b ∧ Prod.snd (Subtype.val (g_DrawBroadGone b)) = Prod.snd (Subtype.val (g_DrawBroadGone b)) ∧ Prod.fst (goneF (Prod.fst (Subtype.val (g_DrawBroadGone b))) (Prod.snd (Subtype.val (g_DrawBroadGone b)))) = Prod.fst (goneF (Prod.fst (Subtype.val (g_DrawBroadGone b))) (Prod.snd (Subtype.val (g_DrawBroadGone b)))) ∧ broadPairs (Prod.fst (Subtype.val (g_DrawBroadGone b))) = broadPairs (Prod.fst (Subtype.val (g_DrawBroadGone b))) ∧ (0 : Int) ≤ (0 : Int) ∧ (0 : Int) ≤ (↑(List.length (broadPairs (Prod.fst (Subtype.val (g_DrawBroadGone b))))) : Int) ∧ [] ++ leftF (Prod.snd (Subtype.val (g_DrawBroadGone b))) (List.drop (Int.toNat (0 : Int)) (broadPairs (Prod.fst (Subtype.val (g_DrawBroadGone b))))) = leftF (Prod.snd (Subtype.val (g_DrawBroadGone b))) (broadPairs (Prod.fst (Subtype.val (g_DrawBroadGone b))))) ∧ ∀ (x : List Int × Int × List Item × List Pair × List Pair × Int), Holds (Prod.fst x = b ∧ Prod.fst (Prod.snd x) = Prod.snd (Subtype.val (g_DrawBroadGone b)) ∧ Prod.fst (Prod.snd (Prod.snd x)) = Prod.fst (goneF (Prod.fst (Subtype.val (g_DrawBroadGone b))) (Prod.snd (Subtype.val (g_DrawBroadGone b)))) ∧ Prod.fst (Prod.snd (Prod.snd (Prod.snd x))) = broadPairs (Prod.fst (Subtype.val (g_DrawBroadGone b))) ∧ (0 : Int) ≤ Prod.snd (Prod.snd (Prod.snd (Prod.snd (Prod.snd x)))) ∧ Prod.snd (Prod.snd (Prod.snd (Prod.snd (Prod.snd x)))) ≤ (↑(List.length (broadPairs (Prod.fst (Subtype.val (g_DrawBroadGone b))))) : Int) ∧ Prod.fst (Prod.snd (Prod.snd (Prod.snd (Prod.snd x)))) ++ leftF (Prod.snd (Subtype.val (g_DrawBroadGone b))) (List.drop (Int.toNat (Prod.snd (Prod.snd (Prod.snd (Prod.snd (Prod.snd x)))))) (broadPairs (Prod.fst (Subtype.val (g_DrawBroadGone b))))) = leftF (Prod.snd (Subtype.val (g_DrawBroadGone b))) (broadPairs (Prod.fst (Subtype.val (g_DrawBroadGone b))))) → ifB (decide (Prod.snd (Prod.snd (Prod.snd (Prod.snd (Prod.snd x)))) < (↑(List.length (Prod.fst (Prod.snd (Prod.snd (Prod.snd x))))) : Int))) (((0 : Int) ≤ Prod.snd (Prod.snd (Prod.snd (Prod.snd (Prod.snd x)))) ∧ Prod.snd (Prod.snd (Prod.snd (Prod.snd (Prod.snd x)))) < (↑(List.length (Prod.fst (Prod.snd (Prod.snd (Prod.snd x))))) : Int)) ∧ ifB (Pair.A (Ty.ix Ty.pair (Prod.fst (Prod.snd (Prod.snd (Prod.snd x)))) (Int.toNat (Prod.snd (Prod.snd (Prod.snd (Prod.snd (Prod.snd x))))))) != Prod.fst (Prod.snd x)) (((0 : Int) ≤ Prod.snd (Prod.snd (Prod.snd (Prod.snd (Prod.snd x)))) ∧ Prod.snd (Prod.snd (Prod.snd (Prod.snd (Prod.snd x)))) < (↑(List.length (Prod.fst (Prod.snd (Prod.snd (Prod.snd x))))) : Int)) ∧ ifB (Pair.B (Ty.ix Ty.pair (Prod.fst (Prod.snd (Prod.snd (Prod.snd x)))) (Int.toNat (Prod.snd (Prod.snd (Prod.snd (Prod.snd (Prod.snd x))))))) != Prod.fst (Prod.snd x)) (((0 : Int) ≤ Prod.snd (Prod.snd (Prod.snd (Prod.snd (Prod.snd x)))) ∧ Prod.snd (Prod.snd (Prod.snd (Prod.snd (Prod.snd x)))) < (↑(List.length (Prod.fst (Prod.snd (Prod.snd (Prod.snd x))))) : Int)) ∧ (List.length (Prod.fst (Prod.snd (Prod.snd (Prod.snd (Prod.snd x))))) + List.length [Ty.ix Ty.pair (Prod.fst (Prod.snd (Prod.snd (Prod.snd x)))) (Int.toNat (Prod.snd (Prod.snd (Prod.snd (Prod.snd (Prod.snd x))))))]) * (16 : Nat) ≤ room ∧ Holds (Prod.fst x = b ∧ Prod.fst (Prod.snd x) = Prod.snd (Subtype.val (g_DrawBroadGone b)) ∧ Prod.fst (Prod.snd (Prod.snd x)) = Prod.fst (goneF (Prod.fst (Subtype.val (g_DrawBroadGone b))) (Prod.snd (Subtype.val (g_DrawBroadGone b)))) ∧ Prod.fst (Prod.snd (Prod.snd (Prod.snd x))) = broadPairs (Prod.fst (Subtype.val (g_DrawBroadGone b))) ∧ (0 : Int) ≤ IntKind.wrap IntKind.i64 (Prod.snd (Prod.snd (Prod.snd (Prod.snd (Prod.snd x)))) + (1 : Int)) ∧ IntKind.wrap IntKind.i64 (Prod.snd (Prod.snd (Prod.snd (Prod.snd (Prod.snd x)))) + (1 : Int)) ≤ (↑(List.length (broadPairs (Prod.fst (Subtype.val (g_DrawBroadGone b))))) : Int) ∧ Prod.fst (Prod.snd (Prod.snd (Prod.snd (Prod.snd x)))) ++ [Ty.ix Ty.pair (Prod.fst (Prod.snd (Prod.snd (Prod.snd x)))) (Int.toNat (Prod.snd (Prod.snd (Prod.snd (Prod.snd (Prod.snd x))))))] ++ leftF (Prod.snd (Subtype.val (g_DrawBroadGone b))) (List.drop (Int.toNat (IntKind.wrap IntKind.i64 (Prod.snd (Prod.snd (Prod.snd (Prod.snd (Prod.snd x)))) + (1 : Int)))) (broadPairs (Prod.fst (Subtype.val (g_DrawBroadGone b))))) = leftF (Prod.snd (Subtype.val (g_DrawBroadGone b))) (broadPairs (Prod.fst (Subtype.val (g_DrawBroadGone b))))) ∧ Int.toNat ((↑(List.length (Prod.fst (Prod.snd (Prod.snd (Prod.snd x))))) : Int) - IntKind.wrap IntKind.i64 (Prod.snd (Prod.snd (Prod.snd (Prod.snd (Prod.snd x)))) + (1 : Int))) < Int.toNat ((↑(List.length (Prod.fst (Prod.snd (Prod.snd (Prod.snd x))))) : Int) - Prod.snd (Prod.snd (Prod.snd (Prod.snd (Prod.snd x)))))) (Holds (Prod.fst x = b ∧ Prod.fst (Prod.snd x) = Prod.snd (Subtype.val (g_DrawBroadGone b)) ∧ Prod.fst (Prod.snd (Prod.snd x)) = Prod.fst (goneF (Prod.fst (Subtype.val (g_DrawBroadGone b))) (Prod.snd (Subtype.val (g_DrawBroadGone b)))) ∧ Prod.fst (Prod.snd (Prod.snd (Prod.snd x))) = broadPairs (Prod.fst (Subtype.val (g_DrawBroadGone b))) ∧ (0 : Int) ≤ IntKind.wrap IntKind.i64 (Prod.snd (Prod.snd (Prod.snd (Prod.snd (Prod.snd x)))) + (1 : Int)) ∧ IntKind.wrap IntKind.i64 (Prod.snd (Prod.snd (Prod.snd (Prod.snd (Prod.snd x)))) + (1 : Int)) ≤ (↑(List.length (broadPairs (Prod.fst (Subtype.val (g_DrawBroadGone b))))) : Int) ∧ Prod.fst (Prod.snd (Prod.snd (Prod.snd (Prod.snd x)))) ++ leftF (Prod.snd (Subtype.val (g_DrawBroadGone b))) (List.drop (Int.toNat (IntKind.wrap IntKind.i64 (Prod.snd (Prod.snd (Prod.snd (Prod.snd (Prod.snd x)))) + (1 : Int)))) (broadPairs (Prod.fst (Subtype.val (g_DrawBroadGone b))))) = leftF (Prod.snd (Subtype.val (g_DrawBroadGone b))) (broadPairs (Prod.fst (Subtype.val (g_DrawBroadGone b))))) ∧ Int.toNat ((↑(List.length (Prod.fst (Prod.snd (Prod.snd (Prod.snd x))))) : Int) - IntKind.wrap IntKind.i64 (Prod.snd (Prod.snd (Prod.snd (Prod.snd (Prod.snd x)))) + (1 : Int))) < Int.toNat ((↑(List.length (Prod.fst (Prod.snd (Prod.snd (Prod.snd x))))) : Int) - Prod.snd (Prod.snd (Prod.snd (Prod.snd (Prod.snd x))))))) (Holds (Prod.fst x = b ∧ Prod.fst (Prod.snd x) = Prod.snd (Subtype.val (g_DrawBroadGone b)) ∧ Prod.fst (Prod.snd (Prod.snd x)) = Prod.fst (goneF (Prod.fst (Subtype.val (g_DrawBroadGone b))) (Prod.snd (Subtype.val (g_DrawBroadGone b)))) ∧ Prod.fst (Prod.snd (Prod.snd (Prod.snd x))) = broadPairs (Prod.fst (Subtype.val (g_DrawBroadGone b))) ∧ (0 : Int) ≤ IntKind.wrap IntKind.i64 (Prod.snd (Prod.snd (Prod.snd (Prod.snd (Prod.snd x)))) + (1 : Int)) ∧ IntKind.wrap IntKind.i64 (Prod.snd (Prod.snd (Prod.snd (Prod.snd (Prod.snd x)))) + (1 : Int)) ≤ (↑(List.length (broadPairs (Prod.fst (Subtype.val (g_DrawBroadGone b))))) : Int) ∧ Prod.fst (Prod.snd (Prod.snd (Prod.snd (Prod.snd x)))) ++ leftF (Prod.snd (Subtype.val (g_DrawBroadGone b))) (List.drop (Int.toNat (IntKind.wrap IntKind.i64 (Prod.snd (Prod.snd (Prod.snd (Prod.snd (Prod.snd x)))) + (1 : Int)))) (broadPairs (Prod.fst (Subtype.val (g_DrawBroadGone b))))) = leftF (Prod.snd (Subtype.val (g_DrawBroadGone b))) (broadPairs (Prod.fst (Subtype.val (g_DrawBroadGone b))))) ∧ Int.toNat ((↑(List.length (Prod.fst (Prod.snd (Prod.snd (Prod.snd x))))) : Int) - IntKind.wrap IntKind.i64 (Prod.snd (Prod.snd (Prod.snd (Prod.snd (Prod.snd x)))) + (1 : Int))) < Int.toNat ((↑(List.length (Prod.fst (Prod.snd (Prod.snd (Prod.snd x))))) : Int) - Prod.snd (Prod.snd (Prod.snd (Prod.snd (Prod.snd x))))))) (List.length (Prod.fst (Prod.snd (Prod.snd x))) ≤ (1048576 : Nat) ∧ List.length (Prod.fst (Prod.snd (Prod.snd x))) ≤ (1048576 : Nat) ∧ ifB (itemsOk (Prod.fst (Prod.snd (Prod.snd x)))) (ifB (!Prod.snd (goneF (Prod.fst (Prod.snd (Prod.snd x))) (Prod.fst (Prod.snd x)))) (List.length (Prod.fst (Prod.snd (Prod.snd x))) ≤ (1048576 : Nat) ∧ List.length (broadPairs (Prod.fst (Prod.snd (Prod.snd x)))) ≤ (4611686018427387904 : Nat) ∧ Q (SV.bool (same (broadPairs (Prod.fst (Prod.snd (Prod.snd x)))) (Prod.fst (Prod.snd (Prod.snd (Prod.snd (Prod.snd x))))))) [(false, Blk.vec Ty.byte (Prod.fst x))]) (Q (SV.bool false) [(false, Blk.vec Ty.byte (Prod.fst x))])) (Q (SV.bool false) [(false, Blk.vec Ty.byte (Prod.fst x))]))))))) := by kernel_rfl

theorem ok_lawBroadGone : FsOk Try.prog 13 fs_lawBroadGone := fsOk_of tt_ok (tabFs_cons ok_DrawBroadGone (tabFs_cons ok_implBroadGone (tabFs_cons ok_specBroadGone (tabFs_cons ok_lawsPqBroad (tabFs_cons ok_implBroadPairs (tabFs_cons ok_implBroadOk (tabFs_cons ok_lawsPqPairs tabFs_nil))))))) mixed Try.func13 (by kernel_rfl) (by kernel_rfl) (by
    intro args LL p r HH h hp
    unfold fs_lawBroadGone at h
    dsimp only at h
    split at h
    case h_2 => cases h
    rename_i b
    simp only [Option.some.injEq, Prod.mk.injEq] at h
    obtain ⟨rfl, rfl, rfl⟩ := h
    refine ⟨by simp [Form, stays], (L_lawBroadGone), ?_⟩
    rw [vc_lawBroadGone]
    try dsimp only
    have hb := bytesOk_of (hp _ rfl)
    refine ifB_of (fun c => ⟨rfl, rfl⟩) (fun c => ⟨hb, ?_⟩)
    generalize g_DrawBroadGone b = z
    obtain ⟨⟨xs, id⟩, hr⟩ := z
    have hr : xs.length ≤ 25 := hr
    dsimp only
    have hg := length_goneF (xs := xs) (id := id)
    simp only [same_self, beq_self_eq_true, bne_self_eq_false, Bool.not_true, ifBt, ifBf]
    refine ⟨by omega, by omega, by omega, ifB_of (fun c1 => ⟨by omega, (by trivial), (by trivial)⟩) (fun c1 => ?_)⟩
    obtain ⟨g1, g2, g3⟩ := goneF_true (not_false c1)
    rw [g2] at hg ⊢
    have hbp := length_broadPairs (xs := xs)
    refine ⟨by omega, ⟨(by trivial), (by trivial), (by trivial), (by trivial), by omega, by omega, (by trivial)⟩, ?_⟩
    rintro ⟨b', id', x, list, lft, i⟩ ⟨h⟩
    dsimp only at h ⊢
    obtain ⟨rfl, rfl, rfl, rfl, i0, i1, i2⟩ := h
    have hll : lft.length ≤ 576 := by
      have e := congrArg List.length i2
      have : (leftF id' (broadPairs xs)).length ≤ (broadPairs xs).length := List.length_filter_le _ _
      simp only [List.length_append] at e
      omega
    refine ifB_of (fun c2 => ?_) (fun c2 => ?_)
    · have c2 := of_decide_eq_true c2
      refine ⟨⟨i0, c2⟩, ifB_of (fun c3 => ⟨⟨i0, c2⟩, ifB_of (fun c4 => ?_) (fun c4 => ?_)⟩) (fun c3 => ?_)⟩
      · have q := left_next i0 c2 hbp i2 (l' := lft ++ [Ty.ix .pair (broadPairs xs) i.toNat]) (by simp [noPair, c3, c4])
        exact ⟨⟨i0, c2⟩, by simp only [room, List.length_cons, List.length_nil]; omega, ⟨(by trivial), (by trivial), (by trivial), (by trivial), q.1⟩, q.2⟩
      · have q := left_next i0 c2 hbp i2 (l' := lft) (by simp [noPair, c3, c4])
        exact ⟨⟨(by trivial), (by trivial), (by trivial), (by trivial), q.1⟩, q.2⟩
      · have q := left_next i0 c2 hbp i2 (l' := lft) (by simp [noPair, c3])
        exact ⟨⟨(by trivial), (by trivial), (by trivial), (by trivial), q.1⟩, q.2⟩
    · have c2 := of_decide_eq_false c2
      rw [leftF_end (by omega), List.append_nil] at i2
      have e : broadPairs (goneL id' xs) = lft := by
        rw [i2]
        unfold broadPairs leftF
        rw [g1, g3]
        exact (pairsF_gone xs).symm
      have hlp := length_broadPairs (xs := goneL id' xs)
      rw [g3, goneF_twice, e]
      refine ⟨by omega, by omega, ?_⟩
      simp only [same_self, Bool.not_false, ifBt]
      exact ⟨by omega, by omega, (by trivial), (by trivial)⟩)

end Go.Proofs.Yteeelenokjahnaa.Sym
