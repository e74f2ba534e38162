/-
  The laws of boxes that are put.
  No condition.
-/
import Derived.Test.YtgdpaijphaeimaaL3
import Derived.Test.YtgdpaijphaeimaaG8
namespace Go.Proofs.Ytgdpaijphaeimaa.Sym
open Go
set_option linter.unusedVariables false
set_option linter.unusedSimpArgs false
set_option maxRecDepth 100000

theorem ix_drop {T : Ty} {xs : List T.El} {k e : Nat} : T.ix (xs.drop k) e = T.ix xs (k + e) := by
  simp only [Ty.ix, List.getD_eq_getElem?_getD, List.getElem?_drop]
theorem itemsOk_drop {xs : List Item} (h : itemsOk xs = true) (k : Nat) : itemsOk (xs.drop k) = true := by
  obtain ⟨h1, h2, h3⟩ := itemsOk_iff.1 h
  refine itemsOk_iff.2 ⟨by simp; omega, fun e he => ?_, fun e he => ?_⟩
  · simp only [List.length_drop] at he
    rw [ix_drop (T := .item)]
    exact h2 _ (by omega)
  · simp only [List.length_drop] at he
    rw [ix_drop (T := .item), ix_drop (T := .item)]
    have := h3 (k + e) (by omega)
    rwa [show k + e + 1 = k + (e + 1) by omega] at this
theorem put_drop {xs : List Item} (h : itemsOk xs = true) {i : Nat} (hi : i < xs.length) : putF (xs.drop (i + 1)) (Ty.ix .item xs i) = (xs.drop i, true) := by
  have h1 := itemsOk_drop h (i + 1)
  have hl := itemsOk_len h
  have h2 := (itemsOk_iff.1 h).2.1 i hi
  have hlt : 0 < (xs.drop (i + 1)).length → (Ty.ix .item xs i).Id < (Ty.ix .item (xs.drop (i + 1)) 0).Id := fun q => by
    simp only [List.length_drop] at q
    rw [ix_drop (T := .item)]
    exact items_lt h (by omega) (by omega)
  have h3 : atI (xs.drop (i + 1)) (Ty.ix .item xs i).Id = 0 := pref_eq (T := .item) (by omega) (fun e he => by omega) (fun q => decide_eq_false (by have := hlt q; omega))
  have h4 : hasI (xs.drop (i + 1)) (Ty.ix .item xs i).Id = false := by
    unfold hasI
    rw [h3]
    cases q : decide (0 < (xs.drop (i + 1)).length) with
    | false => rfl
    | true =>
      have := hlt (of_decide_eq_true q)
      simp only [Bool.true_and, beq_eq_false_iff_ne]
      omega
  have h5 : decide ((xs.drop (i + 1)).length ≥ 24) = false := decide_eq_false (by simp; omega)
  unfold putF
  rw [h1, h2, h4, h5, h3]
  simp only [cond_true, cond_false]
  rw [drop_ix (T := .item) hi]
  simp [insI]
def LSbo  : LS where
  S := List Int × List Item × List Item × Int
  live := [(3, [some .item]), (4, [some .item]), (5, [none])]
  shape := fun s => ([.ptr 2 0 0, .ptr 4 0 0, .int .i64 s.2.2.2], [(false, .vec .byte s.1), (true, .vec .item s.2.1), (true, .box [.vec 1]), (true, .vec .item s.2.2.1), (true, .box [.vec 3])])
  get := fun v h => match v, h with
    | [.ptr 2 0 0, .ptr 4 0 0, .int .i64 i], [(false, .vec .byte b), (true, .vec .item xs), (true, .box [.vec 1]), (true, .vec .item ys), (true, .box [.vec 3])] => some (b, xs, ys, i)
    | _, _ => none
  inv := fun s0 s => Holds (s.1 = s0.1 ∧ s.2.1 = s0.2.1 ∧ -1 ≤ s.2.2.2 ∧ s.2.2.2 < s0.2.1.length ∧ s.2.2.1 = s0.2.1.drop (s.2.2.2 + 1).toNat)
  mu := fun s => (s.2.2.2 + 1).toNat
  ok := by
    intro v h s hg
    try dsimp only at hg
    split at hg <;> cases hg
    rfl

def L_lawBroadOrder : Loops := fun n => match n with
  | 8 => some LSbo
  | _ => none
noncomputable def fs_lawBroadOrder : Fs := ⟨[], fun args H => match args, H with
  | [.vec 0], [(false, .vec .byte b)] => some ((some (LOk .byte b)), .bool (true), [(false, .vec .byte b)])
  | _, _ => none⟩

theorem vc_lawBroadOrder (b : List Int) (Q : SV → List Ent → Prop) :
    fnVC tt (look [(42, fs_DrawBroadPairs), (20, fs_implBroadPairs), (43, fs_specBroadPairs), (17, fs_lawsPqPairs), (19, fs_specBroadOk), (44, fs_implBroadPut), (45, fs_lawsPqBroad)]) (L_lawBroadOrder) Try.f7 [.vec 0] [(false, .vec .byte b)] Q =
    (let A1_ := (Subtype.val (g_DrawBroadPairs b)); ifB (decide ((↑(List.length b) : Int) > (1048576 : Int))) (Q (SV.bool true) [(false, Blk.vec Ty.byte b)]) (BytesOk b ∧ List.length A1_ ≤ (1048576 : Nat) ∧ List.length A1_ ≤ (1048576 : Nat) ∧ List.length (broadPairs A1_) ≤ (4611686018427387904 : Nat) ∧ ifB (!same (broadPairs A1_) (broadPairs A1_)) (List.length A1_ ≤ (1048576 : Nat) ∧ List.length A1_ ≤ (1048576 : Nat) ∧ List.length (broadPairs A1_) ≤ (4611686018427387904 : Nat) ∧ Q (SV.bool (same (broadPairs A1_) (broadPairs A1_))) [(false, Blk.vec Ty.byte b)]) (List.length A1_ ≤ (1048576 : Nat) ∧ ifB (!itemsOk A1_) (List.length A1_ ≤ (1048576 : Nat) ∧ List.length A1_ ≤ (1048576 : Nat) ∧ List.length (broadPairs A1_) ≤ (4611686018427387904 : Nat) ∧ Q (SV.bool (same (broadPairs A1_) (broadPairs A1_))) [(false, Blk.vec Ty.byte b)]) (Holds (b = b ∧ Subtype.val (g_DrawBroadPairs b) = Subtype.val (g_DrawBroadPairs b) ∧ (-1 : Int) ≤ IntKind.wrap IntKind.i64 ((↑(List.length A1_) : Int) - (1 : Int)) ∧ IntKind.wrap IntKind.i64 ((↑(List.length A1_) : Int) - (1 : Int)) < (↑(List.length A1_) : Int) ∧ [] = List.drop (Int.toNat (IntKind.wrap IntKind.i64 ((↑(List.length A1_) : Int) - (1 : Int)) + (1 : Int))) A1_) ∧ ∀ (x : List Int × List Item × List Item × Int), Holds (Prod.fst x = b ∧ Prod.fst (Prod.snd x) = Subtype.val (g_DrawBroadPairs b) ∧ (-1 : Int) ≤ Prod.snd (Prod.snd (Prod.snd x)) ∧ Prod.snd (Prod.snd (Prod.snd x)) < (↑(List.length A1_) : Int) ∧ Prod.fst (Prod.snd (Prod.snd x)) = List.drop (Int.toNat (Prod.snd (Prod.snd (Prod.snd x)) + (1 : Int))) A1_) → ifB (decide (Prod.snd (Prod.snd (Prod.snd x)) ≥ (0 : Int))) (((0 : Int) ≤ Prod.snd (Prod.snd (Prod.snd x)) ∧ Prod.snd (Prod.snd (Prod.snd x)) < (↑(List.length (Prod.fst (Prod.snd x))) : Int)) ∧ List.length (Prod.fst (Prod.snd (Prod.snd x))) ≤ (1048576 : Nat) ∧ ifB (!Prod.snd (putF (Prod.fst (Prod.snd (Prod.snd x))) (Ty.ix Ty.item (Prod.fst (Prod.snd x)) (Int.toNat (Prod.snd (Prod.snd (Prod.snd x))))))) (Q (SV.bool false) [(false, Blk.vec Ty.byte (Prod.fst x))]) (Holds (Prod.fst x = b ∧ Prod.fst (Prod.snd x) = Subtype.val (g_DrawBroadPairs b) ∧ (-1 : Int) ≤ IntKind.wrap IntKind.i64 (Prod.snd (Prod.snd (Prod.snd x)) - (1 : Int)) ∧ IntKind.wrap IntKind.i64 (Prod.snd (Prod.snd (Prod.snd x)) - (1 : Int)) < (↑(List.length A1_) : Int) ∧ Prod.fst (putF (Prod.fst (Prod.snd (Prod.snd x))) (Ty.ix Ty.item (Prod.fst (Prod.snd x)) (Int.toNat (Prod.snd (Prod.snd (Prod.snd x)))))) = List.drop (Int.toNat (IntKind.wrap IntKind.i64 (Prod.snd (Prod.snd (Prod.snd x)) - (1 : Int)) + (1 : Int))) A1_) ∧ Int.toNat (IntKind.wrap IntKind.i64 (Prod.snd (Prod.snd (Prod.snd x)) - (1 : Int)) + (1 : Int)) < Int.toNat (Prod.snd (Prod.snd (Prod.snd x)) + (1 : Int)))) (List.length (Prod.fst (Prod.snd (Prod.snd x))) ≤ (4611686018427387904 : Nat) ∧ Q (SV.bool (same (Prod.fst (Prod.snd (Prod.snd x))) (Prod.fst (Prod.snd x)))) [(false, Blk.vec Ty.byte (Prod.fst x))]))))) := by kernel_rfl

theorem ok_lawBroadOrder : FsOk Try.prog 7 fs_lawBroadOrder := fsOk_of tt_ok (tabFs_cons ok_DrawBroadPairs (tabFs_cons ok_implBroadPairs (tabFs_cons ok_specBroadPairs (tabFs_cons ok_lawsPqPairs (tabFs_cons ok_specBroadOk (tabFs_cons ok_implBroadPut (tabFs_cons ok_lawsPqBroad tabFs_nil))))))) mixed Try.func7 (by kernel_rfl) (by kernel_rfl) (by
    intro args LL p r HH h hp
    unfold fs_lawBroadOrder at h
    dsimp only at h
    split at h
    case h_2 => cases h
    rename_i b
    simp only [Option.some.injEq, Prod.mk.injEq] at h
    obtain ⟨rfl, rfl, rfl⟩ := h
    refine ⟨by simp [Form, stays], (L_lawBroadOrder), ?_⟩
    rw [vc_lawBroadOrder]
    try dsimp only
    have hb := bytesOk_of (hp _ rfl)
    refine ifB_of (fun c => ⟨rfl, rfl⟩) (fun c => ⟨hb, ?_⟩)
    generalize g_DrawBroadPairs b = z
    obtain ⟨xs, hr⟩ := z
    have hr : xs.length ≤ 25 := hr
    dsimp only
    simp only [same_self, Bool.not_true, ifBt, ifBf]
    have hbp := length_broadPairs (xs := xs)
    refine ⟨by omega, by omega, by omega, by omega, ifB_of (fun c1 => ⟨by omega, by omega, by omega, (by trivial), (by trivial)⟩) (fun c1 => ?_)⟩
    have g1 := not_false c1
    have wl : IntKind.i64.wrap ((xs.length : Int) - 1) = (xs.length : Int) - 1 := wrap_small (by omega) (by omega)
    rw [wl]
    refine ⟨⟨(by trivial), (by trivial), by omega, by omega, (drop_end (by omega)).symm⟩, ?_⟩
    rintro ⟨b1, xs1, ys, i⟩ ⟨h⟩
    dsimp only at h ⊢
    obtain ⟨e1, e2, i0, i1, e3⟩ := h
    subst e1 e2 e3
    have w : IntKind.i64.wrap (i - 1) = i - 1 := wrap_small (by omega) (by omega)
    rw [w]
    refine ifB_of (fun c2 => ?_) (fun c2 => ?_)
    · have c2 : i ≥ 0 := of_decide_eq_true c2
      have key := put_drop g1 (i := i.toNat) (by omega)
      rw [show (i + 1).toNat = i.toNat + 1 by omega, key]
      refine ⟨⟨c2, i1⟩, by simp; omega, ?_⟩
      simp only [Bool.not_true, ifBf]
      exact ⟨⟨(by trivial), (by trivial), by omega, by omega, by rw [show (i - 1 + 1).toNat = i.toNat by omega]⟩, by omega⟩
    · have c2 := of_decide_eq_false c2
      rw [show (i + 1).toNat = 0 by omega]
      simp only [List.drop_zero, same_self]
      exact ⟨by omega, (by trivial), (by trivial)⟩)


/-! ### A box that was put -/
theorem at_one {xs : List Item} (h : itemsOk xs = true) {k : Nat} {id : Int} (hk : k < xs.length) (hid : (Ty.ix .item xs k).Id = id) : atI xs id = k ∧ hasI xs id = true := by
  have e : atI xs id = k := pref_eq (T := .item) (by omega) (fun e he => decide_eq_true (by have := items_lt h he hk; omega)) (fun _ => decide_eq_false (by omega))
  refine ⟨e, ?_⟩
  unfold hasI
  rw [e, decide_eq_true hk]
  simp [hid]
theorem set_same {T : Ty} {xs : List T.El} {k : Nat} {x : T.El} (hk : k < xs.length) (h : T.ix xs k = x) : xs.set k x = xs := by
  apply List.ext_getElem?
  intro j
  by_cases e : k = j
  · subst e
    rw [ix_get (T := T) hk, h]
    simp [hk]
  · rw [List.getElem?_set_ne e]
/-- What was put is there. -/
theorem put_there {xs : List Item} {x : Item} (h : itemsOk xs = true) (hp : (putF xs x).2 = true) : itemOk x = true ∧ xs.length ≤ (putF xs x).1.length ∧ ∃ k, k < (putF xs x).1.length ∧ Ty.ix .item (putF xs x).1 k = x := by
  have hk := atI_le xs x.Id
  unfold putF at hp ⊢
  rw [h] at hp ⊢
  cases h2 : itemOk x with
  | false => rw [h2] at hp; cases hp
  | true =>
    cases h3 : hasI xs x.Id with
    | true =>
      have hlt := hasI_lt h3
      simp only [cond_true]
      exact ⟨(by trivial), by simp, _, by simpa using hlt, ix_set_self (T := .item) hlt⟩
    | false =>
      cases h4 : decide (xs.length ≥ 24) with
      | true => rw [h2, h3, h4] at hp; cases hp
      | false =>
        simp only [cond_true, cond_false]
        refine ⟨(by trivial), by rw [length_insI hk]; omega, atI xs x.Id, by rw [length_insI hk]; omega, ?_⟩
        rw [ix_ins hk, if_neg (by omega), if_pos rfl]
theorem put_twice {xs : List Item} {x : Item} (h : itemsOk xs = true) (hp : (putF xs x).2 = true) : putF (putF xs x).1 x = ((putF xs x).1, true) := by
  obtain ⟨h1, _, k, hk, hx⟩ := put_there h hp
  have hy := itemsOk_putF (x := x) h
  obtain ⟨e1, e2⟩ := at_one hy hk (by rw [hx])
  generalize (putF xs x).1 = ys at *
  unfold putF
  rw [hy, h1, e2, e1]
  simp only [cond_true]
  rw [set_same (T := .item) hk hx]
theorem put_gone {xs : List Item} {x : Item} (h : itemsOk xs = true) (hp : (putF xs x).2 = true) :
    goneF (putF xs x).1 x.Id = (goneL x.Id (putF xs x).1, true) ∧ (goneL x.Id (putF xs x).1).length + 1 = (putF xs x).1.length := by
  obtain ⟨h1, _, k, hk, hx⟩ := put_there h hp
  have hy := itemsOk_putF (x := x) h
  obtain ⟨e1, e2⟩ := at_one hy hk (by rw [hx])
  generalize (putF xs x).1 = ys at *
  have e := del_gone hy e2
  unfold goneF
  rw [hy, e2, e]
  refine ⟨rfl, ?_⟩
  rw [← e, e1]
  simp only [delI, List.length_append, List.length_take, List.length_drop]
  omega
theorem meets_self {b : Box} (h : boxOk b = true) : boxMeets b b = true := by
  simp only [boxOk, Bool.and_eq_true, decide_eq_true_eq] at h
  simp only [boxMeets, Bool.and_eq_true, decide_eq_true_eq]
  omega
theorem put_ask {xs : List Item} {x : Item} (h : itemsOk xs = true) (hp : (putF xs x).2 = true) :
    hasN (broadAsk (putF xs x).1 x.Box) x.Id = true ∧ hasN (broadAsk (goneL x.Id (putF xs x).1) x.Box) x.Id = false := by
  obtain ⟨h1, _, k, hk, hx⟩ := put_there h hp
  have hy := itemsOk_putF (x := x) h
  generalize (putF xs x).1 = ys at *
  have hb : boxOk x.Box = true := by
    simp only [itemOk, Bool.and_eq_true] at h1
    exact h1.2
  refine ⟨?_, ?_⟩
  · have e : broadAsk ys x.Box = askF x.Box ys := by simp [broadAsk, hy, hb]
    rw [e]
    exact hasN_true.2 (mem_askF.2 ⟨x, by rw [← hx]; exact ix_mem (T := .item) hk, meets_self hb, rfl⟩)
  · cases q : hasN (broadAsk (goneL x.Id ys) x.Box) x.Id with
    | false => rfl
    | true =>
      have q := hasN_true.1 q
      unfold broadAsk at q
      cases q2 : itemsOk (goneL x.Id ys) && boxOk x.Box with
      | false => rw [q2] at q; simp at q
      | true =>
        rw [q2] at q
        obtain ⟨y, hy2, _, hid⟩ := mem_askF.1 q
        have := (List.mem_filter.1 hy2).2
        simp [hid] at this
def putP (z : List Item × Item) : Prop := z.1.length ≤ 25
instance : Nonempty {x : List Item × Item // putP x} := ⟨⟨([], ⟨0, ⟨⟨0, 0⟩, ⟨0, 0⟩⟩⟩), by simp [putP]⟩⟩
noncomputable def g_DrawBroadPut (b : List Int) : {x : List Item × Item // putP x} := someAns tt (look [(72, fs_l1Open), (73, fs_l11AnyBroad), (75, fs_rdPick), (129, fs_rdOne), (130, fs_l11AnyBox)]) Try.f52 [.vec 0] [(false, .vec .byte b)] (fun x : {x : List Item × Item // putP x} => (.tup [.agg [.vec 1], .agg [.int .i64 ((x.1).2).Id, .int .i64 ((x.1).2).Box.Low.X, .int .i64 ((x.1).2).Box.Low.Y, .int .i64 ((x.1).2).Box.High.X, .int .i64 ((x.1).2).Box.High.Y]] : SV)) (fun x : {x : List Item × Item // putP x} => ([(false, .vec .byte b), (true, .vec .item ((x.1).1))] : List Ent))
noncomputable def fs_DrawBroadPut : Fs := ⟨[], fun args H => match args, H with
  | [.vec 0], [(false, .vec .byte b)] => some ((some (BytesOk b)), .tup [.agg [.vec 1], .agg [.int .i64 (((g_DrawBroadPut b).1).2).Id, .int .i64 (((g_DrawBroadPut b).1).2).Box.Low.X, .int .i64 (((g_DrawBroadPut b).1).2).Box.Low.Y, .int .i64 (((g_DrawBroadPut b).1).2).Box.High.X, .int .i64 (((g_DrawBroadPut b).1).2).Box.High.Y]], [(false, .vec .byte b), (true, .vec .item (((g_DrawBroadPut b).1).1))])
  | _, _ => none⟩

theorem vc_DrawBroadPut (b : List Int) (Q : SV → List Ent → Prop) :
    fnVC tt (look [(72, fs_l1Open), (73, fs_l11AnyBroad), (75, fs_rdPick), (129, fs_rdOne), (130, fs_l11AnyBox)]) L0 Try.f52 [.vec 0] [(false, .vec .byte b)] Q =
    (let A1_ := (List.take (min (List.length b) (2000 : Nat)) (List.drop (0 : Nat) b)); let A2_ := (↑(Prod.snd (g_l11AnyBroad A1_ (0 : Int)) % (401 : Nat)) : Int); let A4_ := (↑(List.length [g_rdPick A1_ ((0 : Int) + A2_) (12 : Int) % (12 : Int), g_rdPick A1_ ((0 : Int) + A2_ + (1 : Int)) (60 : Int) % (60 : Int), (-1 : Int), (1000000000 : Int)]) : Int); let A3_ := (Prod.fst (g_l11AnyBox A1_ ((0 : Int) + A2_ + (1 : Int) + (1 : Int) + (1 : Int)))); ((0 : Int) ≤ (0 : Int) ∧ (0 : Int) + (400 : Int) ≤ (1000000000000 : Int) ∧ BytesOk A1_) ∧ ((0 : Int) ≤ (0 : Int) + A2_ ∧ (0 : Int) + A2_ + (1 : Int) ≤ (1000000000000 : Int) ∧ BytesOk A1_ ∧ (1 : Int) ≤ (12 : Int)) ∧ ((0 : Int) ≤ (0 : Int) + A2_ + (1 : Int) ∧ (0 : Int) + A2_ + (1 : Int) + (1 : Int) ≤ (1000000000000 : Int) ∧ BytesOk A1_ ∧ (1 : Int) ≤ (60 : Int)) ∧ ((0 : Int) ≤ (0 : Int) + A2_ + (1 : Int) + (1 : Int) ∧ (0 : Int) + A2_ + (1 : Int) + (1 : Int) + (1 : Int) ≤ (1000000000000 : Int) ∧ BytesOk A1_ ∧ (1 : Nat) ≤ List.length [g_rdPick A1_ ((0 : Int) + A2_) (12 : Int) % (12 : Int), g_rdPick A1_ ((0 : Int) + A2_ + (1 : Int)) (60 : Int) % (60 : Int), (-1 : Int), (1000000000 : Int)]) ∧ ((0 : Int) ≤ (0 : Int) + A2_ + (1 : Int) + (1 : Int) + (1 : Int) ∧ (0 : Int) + A2_ + (1 : Int) + (1 : Int) + (1 : Int) + (8 : Int) ≤ (1000000000000 : Int) ∧ BytesOk A1_) ∧ Q (SV.tup [SV.agg [SV.vec (1 : Nat)], SV.agg [SV.int IntKind.i64 (Ty.ix Ty.int [g_rdPick A1_ ((0 : Int) + A2_) (12 : Int) % (12 : Int), g_rdPick A1_ ((0 : Int) + A2_ + (1 : Int)) (60 : Int) % (60 : Int), (-1 : Int), (1000000000 : Int)] (Int.toNat (g_rdPick A1_ ((0 : Int) + A2_ + (1 : Int) + (1 : Int)) A4_ % A4_))), SV.int IntKind.i64 (Vec.X (Box.Low A3_)), SV.int IntKind.i64 (Vec.Y (Box.Low A3_)), SV.int IntKind.i64 (Vec.X (Box.High A3_)), SV.int IntKind.i64 (Vec.Y (Box.High A3_))]]) [(false, Blk.vec Ty.byte b), (true, Blk.vec Ty.item (Subtype.val (Prod.fst (g_l11AnyBroad A1_ (0 : Int)))))]) := by kernel_rfl

theorem ok_DrawBroadPut : FsOk Try.prog 52 fs_DrawBroadPut := fsOk_of tt_ok (tabFs_cons ok_l1Open (tabFs_cons ok_l11AnyBroad (tabFs_cons ok_rdPick (tabFs_cons ok_rdOne (tabFs_cons ok_l11AnyBox tabFs_nil))))) mixed Try.func52 (by kernel_rfl) (by kernel_rfl) (by
    intro args LL p0 r HH h hp
    unfold fs_DrawBroadPut at h
    dsimp only at h
    split at h
    case h_2 => cases h
    rename_i b
    simp only [Option.some.injEq, Prod.mk.injEq] at h
    obtain ⟨rfl, rfl, rfl⟩ := h
    refine ⟨by simp [Form, stays], L0, ?_⟩
    have hby := hp _ rfl
    refine someAns_ok (R := (fun x : {x : List Item × Item // putP x} => (.tup [.agg [.vec 1], .agg [.int .i64 ((x.1).2).Id, .int .i64 ((x.1).2).Box.Low.X, .int .i64 ((x.1).2).Box.Low.Y, .int .i64 ((x.1).2).Box.High.X, .int .i64 ((x.1).2).Box.High.Y]] : SV))) (HH := (fun x : {x : List Item × Item // putP x} => ([(false, .vec .byte b), (true, .vec .item ((x.1).1))] : List Ent))) (by kernel_rfl) ?_
    have fin : ∀ (z0 : List Item) (z1I : Int) (z1LX : Int) (z1LY : Int) (z1HX : Int) (z1HY : Int), putP (z0, (Item.mk z1I (Box.mk (Vec.mk z1LX z1LY) (Vec.mk z1HX z1HY)))) → ∃ x : {x : List Item × Item // putP x}, ((.tup [.agg [.vec 1], .agg [.int .i64 (((z0, (Item.mk z1I (Box.mk (Vec.mk z1LX z1LY) (Vec.mk z1HX z1HY))))).2).Id, .int .i64 (((z0, (Item.mk z1I (Box.mk (Vec.mk z1LX z1LY) (Vec.mk z1HX z1HY))))).2).Box.Low.X, .int .i64 (((z0, (Item.mk z1I (Box.mk (Vec.mk z1LX z1LY) (Vec.mk z1HX z1HY))))).2).Box.Low.Y, .int .i64 (((z0, (Item.mk z1I (Box.mk (Vec.mk z1LX z1LY) (Vec.mk z1HX z1HY))))).2).Box.High.X, .int .i64 (((z0, (Item.mk z1I (Box.mk (Vec.mk z1LX z1LY) (Vec.mk z1HX z1HY))))).2).Box.High.Y]] : SV) : SV) = (fun x : {x : List Item × Item // putP x} => (.tup [.agg [.vec 1], .agg [.int .i64 ((x.1).2).Id, .int .i64 ((x.1).2).Box.Low.X, .int .i64 ((x.1).2).Box.Low.Y, .int .i64 ((x.1).2).Box.High.X, .int .i64 ((x.1).2).Box.High.Y]] : SV)) x ∧ (([(false, .vec .byte b), (true, .vec .item (((z0, (Item.mk z1I (Box.mk (Vec.mk z1LX z1LY) (Vec.mk z1HX z1HY))))).1))] : List Ent) : List Ent) = (fun x : {x : List Item × Item // putP x} => ([(false, .vec .byte b), (true, .vec .item ((x.1).1))] : List Ent)) x := fun z0 z1I z1LX z1LY z1HX z1HY hpred => ⟨⟨(z0, (Item.mk z1I (Box.mk (Vec.mk z1LX z1LY) (Vec.mk z1HX z1HY)))), hpred⟩, rfl, rfl⟩
    rw [vc_DrawBroadPut]
    try dsimp only
    try dsimp only at fin
    repeat' (first | refine ifB_of (fun _ => ?_) (fun _ => ?_) | refine pre_of ?_ (fun _ => ?_))
    all_goals first
      | (refine fin _ _ _ _ _ _ ?_; exact (g_l11AnyBroad _ _).1.2)
      | omega
      | exact hby
      | exact hby.part _ _
      | exact Nat.le_add_left _ _
      | exact ⟨by omega, by omega, hby.part _ _⟩
      | exact ⟨by omega, by omega, hby.part _ _, by omega⟩
      | exact ⟨by omega, by omega, hby.part _ _, Nat.le_add_left _ _⟩)

theorem put_no {xs : List Item} {x : Item} (h : itemsOk xs = true) (hp : (putF xs x).2 = false) : (putF xs x).1 = xs := by
  unfold putF at hp ⊢
  rw [h] at hp ⊢
  cases h2 : itemOk x with
  | false => rfl
  | true =>
    cases h3 : hasI xs x.Id with
    | true => rw [h2, h3] at hp; cases hp
    | false =>
      cases h4 : decide (xs.length ≥ 24) with
      | true => rfl
      | false => rw [h2, h3, h4] at hp; cases hp
noncomputable def fs_lawBroadPut : Fs := ⟨[], fun args H => match args, H with
  | [.vec 0], [(false, .vec .byte b)] => some ((some (LOk .byte b)), .bool (true), [(false, .vec .byte b)])
  | _, _ => none⟩

theorem vc_lawBroadPut (b : List Int) (Q : SV → List Ent → Prop) :
    fnVC tt (look [(52, fs_DrawBroadPut), (44, fs_implBroadPut), (46, fs_specBroadPut), (45, fs_lawsPqBroad), (53, fs_implBroadOk), (19, fs_specBroadOk), (54, fs_implBroadGone), (56, fs_implBroadAsk), (55, fs_lawsPqHas)]) L0 Try.f10 [.vec 0] [(false, .vec .byte b)] Q =
    (let A3_ := (false, Blk.vec Ty.byte b); let A2_ := (Subtype.val (g_DrawBroadPut b)); let A1_ := (putF (Prod.fst A2_) (Prod.snd A2_)); let A4_ := (goneF (Prod.fst A1_) (Item.Id (Prod.snd A2_))); ifB (decide ((↑(List.length b) : Int) > (1048576 : Int))) (Q (SV.bool true) [A3_]) (BytesOk b ∧ List.length (Prod.fst A2_) ≤ (1048576 : Nat) ∧ List.length (Prod.fst A2_) ≤ (1048576 : Nat) ∧ ifB (!Prod.snd A1_ == Prod.snd A1_) (ifB (Prod.snd A1_ == Prod.snd A1_) (List.length (Prod.fst A1_) ≤ (4611686018427387904 : Nat) ∧ ifB (same (Prod.fst A1_) (Prod.fst A1_)) (List.length (Prod.fst A2_) ≤ (1048576 : Nat) ∧ List.length (Prod.fst A2_) ≤ (1048576 : Nat) ∧ Q (SV.bool (itemsOk (Prod.fst A2_) == itemsOk (Prod.fst A2_))) [A3_]) (Q (SV.bool false) [A3_])) (Q (SV.bool false) [A3_])) (List.length (Prod.fst A1_) ≤ (4611686018427387904 : Nat) ∧ ifB (!same (Prod.fst A1_) (Prod.fst A1_)) (ifB (Prod.snd A1_ == Prod.snd A1_) (List.length (Prod.fst A1_) ≤ (4611686018427387904 : Nat) ∧ ifB (same (Prod.fst A1_) (Prod.fst A1_)) (List.length (Prod.fst A2_) ≤ (1048576 : Nat) ∧ List.length (Prod.fst A2_) ≤ (1048576 : Nat) ∧ Q (SV.bool (itemsOk (Prod.fst A2_) == itemsOk (Prod.fst A2_))) [A3_]) (Q (SV.bool false) [A3_])) (Q (SV.bool false) [A3_])) (List.length (Prod.fst A2_) ≤ (1048576 : Nat) ∧ List.length (Prod.fst A2_) ≤ (1048576 : Nat) ∧ ifB (!itemsOk (Prod.fst A2_) == itemsOk (Prod.fst A2_)) (ifB (Prod.snd A1_ == Prod.snd A1_) (List.length (Prod.fst A1_) ≤ (4611686018427387904 : Nat) ∧ ifB (same (Prod.fst A1_) (Prod.fst A1_)) (List.length (Prod.fst A2_) ≤ (1048576 : Nat) ∧ List.length (Prod.fst A2_) ≤ (1048576 : Nat) ∧ Q (SV.bool (itemsOk (Prod.fst A2_) == itemsOk (Prod.fst A2_))) [A3_]) (Q (SV.bool false) [A3_])) (Q (SV.bool false) [A3_])) (List.length (Prod.fst A2_) ≤ (1048576 : Nat) ∧ ifB (!itemsOk (Prod.fst A2_)) (ifB (Prod.snd A1_ == Prod.snd A1_) (List.length (Prod.fst A1_) ≤ (4611686018427387904 : Nat) ∧ ifB (same (Prod.fst A1_) (Prod.fst A1_)) (List.length (Prod.fst A2_) ≤ (1048576 : Nat) ∧ List.length (Prod.fst A2_) ≤ (1048576 : Nat) ∧ Q (SV.bool (itemsOk (Prod.fst A2_) == itemsOk (Prod.fst A2_))) [A3_]) (Q (SV.bool false) [A3_])) (Q (SV.bool false) [A3_])) (ifB (!Prod.snd A1_) (List.length (Prod.fst A1_) ≤ (4611686018427387904 : Nat) ∧ Q (SV.bool (same (Prod.fst A1_) (Prod.fst A2_))) [A3_]) (List.length (Prod.fst A1_) ≤ (1048576 : Nat) ∧ List.length (Prod.fst A1_) ≤ (1048576 : Nat) ∧ List.length (Prod.fst A1_) ≤ (1048576 : Nat) ∧ ifB (itemsOk (Prod.fst A1_)) (ifB (Prod.snd (putF (Prod.fst A1_) (Prod.snd A2_))) (List.length (Prod.fst (putF (Prod.fst A1_) (Prod.snd A2_))) ≤ (4611686018427387904 : Nat) ∧ ifB (same (Prod.fst (putF (Prod.fst A1_) (Prod.snd A2_))) (Prod.fst A1_)) (ifB (Prod.snd A4_) (ifB (IntKind.wrap IntKind.i64 ((↑(List.length (Prod.fst A4_)) : Int) + (1 : Int)) == (↑(List.length (Prod.fst A1_)) : Int)) (ifB (decide ((↑(List.length (Prod.fst A1_)) : Int) ≥ (↑(List.length (Prod.fst A2_)) : Int))) (List.length (Prod.fst A1_) ≤ (1048576 : Nat) ∧ List.length (broadAsk (Prod.fst A1_) (Item.Box (Prod.snd A2_))) ≤ (1048576 : Nat) ∧ ifB (hasN (broadAsk (Prod.fst A1_) (Item.Box (Prod.snd A2_))) (Item.Id (Prod.snd A2_))) (List.length (Prod.fst A4_) ≤ (1048576 : Nat) ∧ List.length (broadAsk (Prod.fst A4_) (Item.Box (Prod.snd A2_))) ≤ (1048576 : Nat) ∧ Q (SV.bool !hasN (broadAsk (Prod.fst A4_) (Item.Box (Prod.snd A2_))) (Item.Id (Prod.snd A2_))) [A3_]) (Q (SV.bool false) [A3_])) (Q (SV.bool false) [A3_])) (Q (SV.bool false) [A3_])) (Q (SV.bool false) [A3_])) (Q (SV.bool false) [A3_])) (Q (SV.bool false) [A3_])) (Q (SV.bool false) [A3_])))))))) := by kernel_rfl

theorem ok_lawBroadPut : FsOk Try.prog 10 fs_lawBroadPut := fsOk_of tt_ok (tabFs_cons ok_DrawBroadPut (tabFs_cons ok_implBroadPut (tabFs_cons ok_specBroadPut (tabFs_cons ok_lawsPqBroad (tabFs_cons ok_implBroadOk (tabFs_cons ok_specBroadOk (tabFs_cons ok_implBroadGone (tabFs_cons ok_implBroadAsk (tabFs_cons ok_lawsPqHas tabFs_nil))))))))) mixed Try.func10 (by kernel_rfl) (by kernel_rfl) (by
    intro args LL p r HH h hp
    unfold fs_lawBroadPut at h
    dsimp only at h
    split at h
    case h_2 => cases h
    rename_i b
    simp only [Option.some.injEq, Prod.mk.injEq] at h
    obtain ⟨rfl, rfl, rfl⟩ := h
    refine ⟨by simp [Form, stays], L0, ?_⟩
    rw [vc_lawBroadPut]
    try dsimp only
    have hb := bytesOk_of (hp _ rfl)
    refine ifB_of (fun c => ⟨rfl, rfl⟩) (fun c => ⟨hb, ?_⟩)
    generalize g_DrawBroadPut b = z
    obtain ⟨⟨xs, x⟩, hr⟩ := z
    have hr : xs.length ≤ 25 := hr
    dsimp only
    simp only [same_self, beq_self_eq_true, bne_self_eq_false, Bool.not_true, ifBt, ifBf]
    have hl := length_putF2 (xs := xs) (x := x)
    refine ⟨by omega, by omega, by omega, by omega, by omega, by omega, ifB_of (fun c1 => ⟨by omega, by omega, by omega, (by trivial), (by trivial)⟩) (fun c1 => ifB_of (fun c2 => ?_) (fun c2 => ?_))⟩
    · rw [put_no (not_false c1) (not_true c2)]
      simp only [same_self]
      exact ⟨by omega, (by trivial), (by trivial)⟩
    · have g1 := not_false c1
      have hp := not_false c2
      have hlen := (put_there g1 hp).2.1
      obtain ⟨k1, k2⟩ := put_gone g1 hp
      obtain ⟨q1, q2⟩ := put_ask g1 hp
      have e1 := length_broadAsk (xs := (putF xs x).1) (x := x.Box)
      have e2 := length_broadAsk (xs := goneL x.Id (putF xs x).1) (x := x.Box)
      rw [k1, put_twice g1 hp, itemsOk_putF (x := x) g1]
      dsimp only
      have w : IntKind.i64.wrap (((goneL x.Id (putF xs x).1).length : Int) + 1) = ((putF xs x).1.length : Int) := by rw [wrap_small (by omega) (by omega)]; omega
      have hge : decide (((putF xs x).1.length : Int) ≥ (xs.length : Int)) = true := decide_eq_true (by omega)
      rw [w, hge, q1, q2]
      simp only [same_self, beq_self_eq_true, ifBt, Bool.not_false]
      exact ⟨by omega, by omega, by omega, by omega, by omega, by omega, by omega, by omega, (by trivial), (by trivial)⟩)

end Go.Proofs.Ytgdpaijphaeimaa.Sym
