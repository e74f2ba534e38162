/-
  Laws of boxes, asked and in pairs.
  No condition.
-/
import Derived.Test.YtgdpaijphaeimaaL2
namespace Go.Proofs.Ytgdpaijphaeimaa.Sym
open Go
set_option linter.unusedVariables false
set_option linter.unusedSimpArgs false
set_option maxRecDepth 100000

def boxBoth (a b : Box) : Box := bif boxOk a && boxOk b then ⟨⟨min a.Low.X b.Low.X, min a.Low.Y b.Low.Y⟩, ⟨max a.High.X b.High.X, max a.High.Y b.High.Y⟩⟩ else ⟨⟨0, 0⟩, ⟨0, 0⟩⟩
def hasN (xs : List Int) (n : Int) : Bool := xs.any fun y => y == n
theorem hasN_true {xs : List Int} {n : Int} : hasN xs n = true ↔ n ∈ xs := by
  simp [hasN]
theorem hasN_false {xs : List Int} {n : Int} (h : ∀ e, e < xs.length → (Ty.ix .int xs e == n) = false) : hasN xs n = false := by
  cases q : hasN xs n with
  | false => rfl
  | true =>
    obtain ⟨i, hi, e⟩ := mem_ix (T := .int) (hasN_true.1 q)
    have := h i hi
    rw [e] at this
    simp at this
theorem ix_mem {T : Ty} {xs : List T.El} {i : Nat} (h : i < xs.length) : T.ix xs i ∈ xs := List.mem_of_getElem? (ix_get h)
def LSpqHas  : LS where
  S := List Int × Unit × Int × Int
  live := [(0, [none]), (1, [none]), (5, [none])]
  shape := fun s => ([.vec 0, .int .i64 s.2.2.1, .int .i64 s.2.2.2], [(false, .vec .int s.1)])
  get := fun v h => match v, h with
    | [.vec 0, .int .i64 n, .int .i64 i], [(false, .vec .int xs)] => some (xs, (), n, i)
    | _, _ => none
  inv := fun s0 s => Holds (s.1 = s0.1 ∧ s.2.2.1 = s0.2.2.1 ∧ 0 ≤ s.2.2.2 ∧ s.2.2.2 ≤ s0.1.length ∧ (∀ e, e < s.2.2.2.toNat → (Ty.ix .int s0.1 e == s0.2.2.1) = false))
  mu := fun s => ((s.1.length : Int) - s.2.2.2).toNat
  ok := by
    intro v h s hg
    try dsimp only at hg
    split at hg <;> cases hg
    rfl

def L_pqHas : Loops := fun n => match n with
  | 2 => some LSpqHas
  | _ => none
noncomputable def fs_lawsPqHas : Fs := ⟨[], fun args H => match args, H with
  | [.vec 0, .int .i64 n], [(false, .vec .int xs)] => some ((some (xs.length ≤ 1048576)), .bool (hasN xs n), [(false, .vec .int xs)])
  | _, _ => none⟩

theorem vc_lawsPqHas (xs : List Int) (n : Int) (Q : SV → List Ent → Prop) :
    fnVC tt (look []) (L_pqHas) Try.f55 [.vec 0, .int .i64 n] [(false, .vec .int xs)] Q =
    (Holds (xs = xs ∧ n = n ∧ (0 : Int) ≤ (0 : Int) ∧ (0 : Int) ≤ (↑(List.length xs) : Int) ∧ ∀ (e : Nat), e < Int.toNat (0 : Int) → (Ty.ix Ty.int xs e == n) = false) ∧ ∀ (x : List Int × Unit × Int × Int), Holds (Prod.fst x = xs ∧ Prod.fst (Prod.snd (Prod.snd x)) = n ∧ (0 : Int) ≤ Prod.snd (Prod.snd (Prod.snd x)) ∧ Prod.snd (Prod.snd (Prod.snd x)) ≤ (↑(List.length xs) : Int) ∧ ∀ (e : Nat), e < Int.toNat (Prod.snd (Prod.snd (Prod.snd x))) → (Ty.ix Ty.int xs e == n) = false) → ifB (decide (Prod.snd (Prod.snd (Prod.snd x)) < (↑(List.length (Prod.fst x)) : Int))) (((0 : Int) ≤ Prod.snd (Prod.snd (Prod.snd x)) ∧ Prod.snd (Prod.snd (Prod.snd x)) < (↑(List.length (Prod.fst x)) : Int)) ∧ ifB (Ty.ix Ty.int (Prod.fst x) (Int.toNat (Prod.snd (Prod.snd (Prod.snd x)))) == Prod.fst (Prod.snd (Prod.snd x))) (Q (SV.bool true) [(false, Blk.vec Ty.int (Prod.fst x))]) (Holds (Prod.fst x = xs ∧ Prod.fst (Prod.snd (Prod.snd x)) = n ∧ (0 : Int) ≤ IntKind.wrap IntKind.i64 (Prod.snd (Prod.snd (Prod.snd x)) + (1 : Int)) ∧ IntKind.wrap IntKind.i64 (Prod.snd (Prod.snd (Prod.snd x)) + (1 : Int)) ≤ (↑(List.length xs) : Int) ∧ ∀ (e : Nat), e < Int.toNat (IntKind.wrap IntKind.i64 (Prod.snd (Prod.snd (Prod.snd x)) + (1 : Int))) → (Ty.ix Ty.int xs e == n) = false) ∧ Int.toNat ((↑(List.length (Prod.fst x)) : Int) - IntKind.wrap IntKind.i64 (Prod.snd (Prod.snd (Prod.snd x)) + (1 : Int))) < Int.toNat ((↑(List.length (Prod.fst x)) : Int) - Prod.snd (Prod.snd (Prod.snd x))))) (Q (SV.bool false) [(false, Blk.vec Ty.int (Prod.fst x))])) := by kernel_rfl

theorem ok_lawsPqHas : FsOk Try.prog 55 fs_lawsPqHas := fsOk_of tt_ok tabFs_nil mixed Try.func55 (by kernel_rfl) (by kernel_rfl) (by
    intro args LL p r HH h hp
    unfold fs_lawsPqHas at h
    dsimp only at h
    split at h
    case h_2 => cases h
    rename_i n xs
    simp only [Option.some.injEq, Prod.mk.injEq] at h
    obtain ⟨rfl, rfl, rfl⟩ := h
    refine ⟨by simp [Form, stays], (L_pqHas), ?_⟩
    rw [vc_lawsPqHas]
    try dsimp only
    have hb := hp _ rfl
    refine ⟨⟨(by trivial), (by trivial), by omega, by omega, fun e he => absurd he (by simp)⟩, ?_⟩
    rintro ⟨xs', u, n', i⟩ ⟨h⟩
    dsimp only at h ⊢
    obtain ⟨rfl, rfl, i0, i1, i2⟩ := h
    refine ifB_of (fun c => ?_) (fun c => ?_)
    · have c := of_decide_eq_true c
      refine ⟨⟨i0, c⟩, ifB_of (fun c2 => ?_) (fun c2 => ?_)⟩
      · have e := ix_mem (T := .int) (xs := xs') (i := i.toNat) (by omega)
        have c2 : Ty.ix .int xs' i.toNat = n' := by simpa using c2
        rw [c2] at e
        exact ⟨by rw [hasN_true.2 e], (by trivial)⟩
      · have w : IntKind.i64.wrap (i + 1) = i + 1 := wrap_small (by omega) (by omega)
        rw [w]
        refine ⟨⟨(by trivial), (by trivial), by omega, by omega, fun e he => ?_⟩, by omega⟩
        by_cases q : e = i.toNat
        · rw [q]; exact c2
        · exact i2 e (by omega)
    · have c := of_decide_eq_false c
      exact ⟨by rw [hasN_false fun e he => i2 e (by omega)], (by trivial)⟩)

def askP (z : List Item × Box) : Prop := z.1.length ≤ 25
instance : Nonempty {x : List Item × Box // askP x} := ⟨⟨([], ⟨⟨0, 0⟩, ⟨0, 0⟩⟩), by simp [askP]⟩⟩
theorem both_meets {y a b : Box} (ha : boxOk a = true) (hb : boxOk b = true) (h : boxMeets y a = true) : boxMeets y (boxBoth a b) = true := by
  simp only [boxBoth, ha, hb, Bool.and_self, cond_true]
  simp only [boxMeets, Bool.and_eq_true, decide_eq_true_eq] at h ⊢
  omega
theorem both_ok {a b : Box} (ha : boxOk a = true) (hb : boxOk b = true) : boxOk (boxBoth a b) = true := by
  simp only [boxBoth, ha, hb, Bool.and_self, cond_true]
  simp only [boxOk, vecOk, isIn, Bool.and_eq_true, decide_eq_true_eq] at ha hb ⊢
  omega
theorem mem_askF {x : Box} {xs : List Item} {n : Int} : n ∈ askF x xs ↔ ∃ y, y ∈ xs ∧ boxMeets y.Box x = true ∧ y.Id = n := by
  simp [askF, and_assoc]
theorem askF_asc {x : Box} {xs : List Item} (h : itemsOk xs = true) {i : Nat} (hi : i + 1 < (askF x xs).length) : Ty.ix .int (askF x xs) i < Ty.ix .int (askF x xs) (i + 1) := by
  have h1 : xs.Pairwise (fun a b => a.Id < b.Id) := by
    refine List.pairwise_iff_getElem.2 fun i j hi hj hij => ?_
    have e := items_lt h hij hj
    rwa [ix_eq (T := .item) (List.getElem?_eq_getElem hi), ix_eq (T := .item) (List.getElem?_eq_getElem hj)] at e
  have h2 : (askF x xs).Pairwise (fun a b => a < b) := by
    unfold askF
    exact List.pairwise_map.2 (h1.filter _)
  have e := List.pairwise_iff_getElem.1 h2 i (i + 1) (by omega) hi (by omega)
  rwa [← ix_eq (T := .int) (List.getElem?_eq_getElem (show i < (askF x xs).length by omega)), ← ix_eq (T := .int) (List.getElem?_eq_getElem hi)] at e
def listP (z : List Item) : Prop := z.length ≤ 25
instance : Nonempty {x : List Item // listP x} := ⟨⟨[], by simp [listP]⟩⟩
noncomputable def g_DrawBroadPairs (b : List Int) : {x : List Item // listP x} := someAns tt (look [(72, fs_l1Open), (73, fs_l11AnyBroad)]) Try.f42 [.vec 0] [(false, .vec .byte b)] (fun x : {x : List Item // listP x} => (.agg [.vec 1] : SV)) (fun x : {x : List Item // listP x} => ([(false, .vec .byte b), (true, .vec .item (x.1))] : List Ent))
noncomputable def fs_DrawBroadPairs : Fs := ⟨[], fun args H => match args, H with
  | [.vec 0], [(false, .vec .byte b)] => some ((some (BytesOk b)), .agg [.vec 1], [(false, .vec .byte b), (true, .vec .item ((g_DrawBroadPairs b).1))])
  | _, _ => none⟩

theorem vc_DrawBroadPairs (b : List Int) (Q : SV → List Ent → Prop) :
    fnVC tt (look [(72, fs_l1Open), (73, fs_l11AnyBroad)]) L0 Try.f42 [.vec 0] [(false, .vec .byte b)] Q =
    (((0 : Int) ≤ (0 : Int) ∧ (0 : Int) + (400 : Int) ≤ (1000000000000 : Int) ∧ BytesOk (List.take (min (List.length b) (2000 : Nat)) (List.drop (0 : Nat) b))) ∧ Q (SV.agg [SV.vec (1 : Nat)]) [(false, Blk.vec Ty.byte b), (true, Blk.vec Ty.item (Subtype.val (Prod.fst (g_l11AnyBroad (List.take (min (List.length b) (2000 : Nat)) (List.drop (0 : Nat) b)) (0 : Int)))))]) := by kernel_rfl

theorem ok_DrawBroadPairs : FsOk Try.prog 42 fs_DrawBroadPairs := fsOk_of tt_ok (tabFs_cons ok_l1Open (tabFs_cons ok_l11AnyBroad tabFs_nil)) mixed Try.func42 (by kernel_rfl) (by kernel_rfl) (by
    intro args LL p0 r HH h hp
    unfold fs_DrawBroadPairs at h
    dsimp only at h
    split at h
    case h_2 => cases h
    rename_i b
    simp only [Option.some.injEq, Prod.mk.injEq] at h
    obtain ⟨rfl, rfl, rfl⟩ := h
    refine ⟨by simp [Form, stays], L0, ?_⟩
    have hby := hp _ rfl
    refine someAns_ok (R := (fun x : {x : List Item // listP x} => (.agg [.vec 1] : SV))) (HH := (fun x : {x : List Item // listP x} => ([(false, .vec .byte b), (true, .vec .item (x.1))] : List Ent))) (by kernel_rfl) ?_
    have fin : ∀ (z : List Item), listP z → ∃ x : {x : List Item // listP x}, ((.agg [.vec 1] : SV) : SV) = (fun x : {x : List Item // listP x} => (.agg [.vec 1] : SV)) x ∧ (([(false, .vec .byte b), (true, .vec .item (z))] : List Ent) : List Ent) = (fun x : {x : List Item // listP x} => ([(false, .vec .byte b), (true, .vec .item (x.1))] : List Ent)) x := fun z hpred => ⟨⟨z, hpred⟩, rfl, rfl⟩
    rw [vc_DrawBroadPairs]
    try dsimp only
    try dsimp only at fin
    repeat' (first | refine ifB_of (fun _ => ?_) (fun _ => ?_) | refine pre_of ?_ (fun _ => ?_))
    all_goals first
      | (refine fin _ ?_; exact (g_l11AnyBroad _ _).1.2)
      | omega
      | exact hby
      | exact hby.part _ _
      | exact Nat.le_add_left _ _
      | exact ⟨by omega, by omega, hby.part _ _⟩
      | exact ⟨by omega, by omega, hby.part _ _, by omega⟩
      | exact ⟨by omega, by omega, hby.part _ _, Nat.le_add_left _ _⟩)

def LSlawAsk  : LS where
  S := List Int × List Int × List Int × List Int × Int
  live := [(7, [some .int]), (10, [some .int]), (11, [none])]
  shape := fun s => ([.vec 2, .vec 3, .int .i64 s.2.2.2.2], [(false, .vec .byte s.1), (false, .vec .byte s.2.1), (true, .vec .int s.2.2.1), (true, .vec .int s.2.2.2.1)])
  get := fun v h => match v, h with
    | [.vec 2, .vec 3, .int .i64 i], [(false, .vec .byte b), (false, .vec .byte c), (true, .vec .int xs), (true, .vec .int ws)] => some (b, c, xs, ws, i)
    | _, _ => none
  inv := fun s0 s => Holds (s.1 = s0.1 ∧ s.2.1 = s0.2.1 ∧ s.2.2.1 = s0.2.2.1 ∧ s.2.2.2.1 = s0.2.2.2.1 ∧ 0 ≤ s.2.2.2.2 ∧ s.2.2.2.2 ≤ s0.2.2.1.length)
  mu := fun s => ((s.2.2.1.length : Int) - s.2.2.2.2).toNat
  ok := by
    intro v h s hg
    try dsimp only at hg
    split at hg <;> cases hg
    rfl

def L_lawBroadAsk : Loops := fun n => match n with
  | 12 => some LSlawAsk
  | _ => none
end Go.Proofs.Ytgdpaijphaeimaa.Sym
