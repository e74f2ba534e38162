/-
  Laws of boxes, asked and in pairs.
  No condition.
-/
import Derived.Test.YteeelenokjahnaaL2
namespace Go.Proofs.Yteeelenokjahnaa.Sym
open Go
set_option linter.unusedVariables false
set_option linter.unusedSimpArgs false
set_option maxRecDepth 100000

def boxBoth (a b : Box) : Box := bif boxOk a && boxOk b then ⟨⟨min a.Low.X b.Low.X, min a.Low.Y b.Low.Y⟩, ⟨max a.High.X b.High.X, max a.High.Y b.High.Y⟩⟩ else ⟨⟨0, 0⟩, ⟨0, 0⟩⟩
noncomputable def fs_implBoxBoth : Fs := ⟨[], fun args H => match args, H with
  | [.agg [.int .i64 aLX, .int .i64 aLY, .int .i64 aHX, .int .i64 aHY], .agg [.int .i64 bLX, .int .i64 bLY, .int .i64 bHX, .int .i64 bHY]], [] => some (none, .agg [.int .i64 (boxBoth (Box.mk (Vec.mk aLX aLY) (Vec.mk aHX aHY)) (Box.mk (Vec.mk bLX bLY) (Vec.mk bHX bHY))).Low.X, .int .i64 (boxBoth (Box.mk (Vec.mk aLX aLY) (Vec.mk aHX aHY)) (Box.mk (Vec.mk bLX bLY) (Vec.mk bHX bHY))).Low.Y, .int .i64 (boxBoth (Box.mk (Vec.mk aLX aLY) (Vec.mk aHX aHY)) (Box.mk (Vec.mk bLX bLY) (Vec.mk bHX bHY))).High.X, .int .i64 (boxBoth (Box.mk (Vec.mk aLX aLY) (Vec.mk aHX aHY)) (Box.mk (Vec.mk bLX bLY) (Vec.mk bHX bHY))).High.Y], [])
  | _, _ => none⟩

theorem vc_implBoxBoth (aLX : Int) (aLY : Int) (aHX : Int) (aHY : Int) (bLX : Int) (bLY : Int) (bHX : Int) (bHY : Int) (Q : SV → List Ent → Prop) :
    fnVC tt (look [(94, fs_implBoxOk)]) L0 Try.f43 [.agg [.int .i64 aLX, .int .i64 aLY, .int .i64 aHX, .int .i64 aHY], .agg [.int .i64 bLX, .int .i64 bLY, .int .i64 bHX, .int .i64 bHY]] [] Q =
    (ifB (!boxOk (Box.mk (Vec.mk aLX aLY) (Vec.mk aHX aHY))) (Q (SV.agg [SV.int IntKind.i64 (0 : Int), SV.int IntKind.i64 (0 : Int), SV.int IntKind.i64 (0 : Int), SV.int IntKind.i64 (0 : Int)]) []) (ifB (!boxOk (Box.mk (Vec.mk bLX bLY) (Vec.mk bHX bHY))) (Q (SV.agg [SV.int IntKind.i64 (0 : Int), SV.int IntKind.i64 (0 : Int), SV.int IntKind.i64 (0 : Int), SV.int IntKind.i64 (0 : Int)]) []) (Q (SV.agg [SV.int IntKind.i64 (if bLX < aLX then bLX else aLX), SV.int IntKind.i64 (if bLY < aLY then bLY else aLY), SV.int IntKind.i64 (if bHX > aHX then bHX else aHX), SV.int IntKind.i64 (if bHY > aHY then bHY else aHY)]) []))) := by kernel_rfl

theorem ok_implBoxBoth : FsOk Try.prog 43 fs_implBoxBoth := fsOk_of tt_ok (tabFs_cons ok_implBoxOk tabFs_nil) mixed Try.func43 (by kernel_rfl) (by kernel_rfl) (by
    intro args LL p r HH h hp
    unfold fs_implBoxBoth at h
    dsimp only at h
    split at h
    case h_2 => cases h
    rename_i aLX aLY aHX aHY bLX bLY bHX bHY
    simp only [Option.some.injEq, Prod.mk.injEq] at h
    obtain ⟨rfl, rfl, rfl⟩ := h
    refine ⟨by simp [Form, stays], L0, ?_⟩
    rw [vc_implBoxBoth]
    try dsimp only
    refine ifB_of (fun c => ?_) (fun c => ifB_of (fun c2 => ?_) (fun c2 => ?_))
    · simp [boxBoth, not_true c]
    · simp [boxBoth, not_false c, not_true c2]
    · simp [boxBoth, not_false c, not_false c2]
      omega)

def hasN (xs : List Int) (n : Int) : Bool := xs.any fun y => y == n
theorem hasN_true {xs : List Int} {n : Int} : hasN xs n = true ↔ n ∈ xs := by
  simp [hasN]
theorem hasN_false {xs : List Int} {n : Int} (h : ∀ e, e < xs.length → (Ty.ix .int xs e == n) = false) : hasN xs n = false := by
  cases q : hasN xs n with
  | false => rfl
  | true =>
    obtain ⟨i, hi, e⟩ := mem_ix (T := .int) (hasN_true.1 q)
    have := h i hi
    rw [e] at this
    simp at this
theorem ix_mem {T : Ty} {xs : List T.El} {i : Nat} (h : i < xs.length) : T.ix xs i ∈ xs := List.mem_of_getElem? (ix_get h)
def LSpqHas  : LS where
  S := List Int × Unit × Int × Int
  live := [(0, [none]), (1, [none]), (5, [none])]
  shape := fun s => ([.vec 0, .int .i64 s.2.2.1, .int .i64 s.2.2.2], [(false, .vec .int s.1)])
  get := fun v h => match v, h with
    | [.vec 0, .int .i64 n, .int .i64 i], [(false, .vec .int xs)] => some (xs, (), n, i)
    | _, _ => none
  inv := fun s0 s => Holds (s.1 = s0.1 ∧ s.2.2.1 = s0.2.2.1 ∧ 0 ≤ s.2.2.2 ∧ s.2.2.2 ≤ s0.1.length ∧ (∀ e, e < s.2.2.2.toNat → (Ty.ix .int s0.1 e == s0.2.2.1) = false))
  mu := fun s => ((s.1.length : Int) - s.2.2.2).toNat
  ok := by
    intro v h s hg
    try dsimp only at hg
    split at hg <;> cases hg
    rfl

def L_pqHas : Loops := fun n => match n with
  | 2 => some LSpqHas
  | _ => none
noncomputable def fs_lawsPqHas : Fs := ⟨[], fun args H => match args, H with
  | [.vec 0, .int .i64 n], [(false, .vec .int xs)] => some ((some (xs.length ≤ 1048576)), .bool (hasN xs n), [(false, .vec .int xs)])
  | _, _ => none⟩

theorem vc_lawsPqHas (xs : List Int) (n : Int) (Q : SV → List Ent → Prop) :
    fnVC tt (look []) (L_pqHas) Try.f44 [.vec 0, .int .i64 n] [(false, .vec .int xs)] Q =
    (Holds (xs = xs ∧ n = n ∧ (0 : Int) ≤ (0 : Int) ∧ (0 : Int) ≤ (↑(List.length xs) : Int) ∧ ∀ (e : Nat), e < Int.toNat (0 : Int) → (Ty.ix Ty.int xs e == n) = false) ∧ ∀ (x : List Int × Unit × Int × Int), Holds (Prod.fst x = xs ∧ Prod.fst (Prod.snd (Prod.snd x)) = n ∧ (0 : Int) ≤ Prod.snd (Prod.snd (Prod.snd x)) ∧ Prod.snd (Prod.snd (Prod.snd x)) ≤ (↑(List.length xs) : Int) ∧ ∀ (e : Nat), e < Int.toNat (Prod.snd (Prod.snd (Prod.snd x))) → (Ty.ix Ty.int xs e == n) = false) → ifB (decide (Prod.snd (Prod.snd (Prod.snd x)) < (↑(List.length (Prod.fst x)) : Int))) (((0 : Int) ≤ Prod.snd (Prod.snd (Prod.snd x)) ∧ Prod.snd (Prod.snd (Prod.snd x)) < (↑(List.length (Prod.fst x)) : Int)) ∧ ifB (Ty.ix Ty.int (Prod.fst x) (Int.toNat (Prod.snd (Prod.snd (Prod.snd x)))) == Prod.fst (Prod.snd (Prod.snd x))) (Q (SV.bool true) [(false, Blk.vec Ty.int (Prod.fst x))]) (Holds (Prod.fst x = xs ∧ Prod.fst (Prod.snd (Prod.snd x)) = n ∧ (0 : Int) ≤ IntKind.wrap IntKind.i64 (Prod.snd (Prod.snd (Prod.snd x)) + (1 : Int)) ∧ IntKind.wrap IntKind.i64 (Prod.snd (Prod.snd (Prod.snd x)) + (1 : Int)) ≤ (↑(List.length xs) : Int) ∧ ∀ (e : Nat), e < Int.toNat (IntKind.wrap IntKind.i64 (Prod.snd (Prod.snd (Prod.snd x)) + (1 : Int))) → (Ty.ix Ty.int xs e == n) = false) ∧ Int.toNat ((↑(List.length (Prod.fst x)) : Int) - IntKind.wrap IntKind.i64 (Prod.snd (Prod.snd (Prod.snd x)) + (1 : Int))) < Int.toNat ((↑(List.length (Prod.fst x)) : Int) - Prod.snd (Prod.snd (Prod.snd x))))) (Q (SV.bool false) [(false, Blk.vec Ty.int (Prod.fst x))])) := by kernel_rfl

theorem ok_lawsPqHas : FsOk Try.prog 44 fs_lawsPqHas := fsOk_of tt_ok tabFs_nil mixed Try.func44 (by kernel_rfl) (by kernel_rfl) (by
    intro args LL p r HH h hp
    unfold fs_lawsPqHas at h
    dsimp only at h
    split at h
    case h_2 => cases h
    rename_i n xs
    simp only [Option.some.injEq, Prod.mk.injEq] at h
    obtain ⟨rfl, rfl, rfl⟩ := h
    refine ⟨by simp [Form, stays], (L_pqHas), ?_⟩
    rw [vc_lawsPqHas]
    try dsimp only
    have hb := hp _ rfl
    refine ⟨⟨(by trivial), (by trivial), by omega, by omega, fun e he => absurd he (by simp)⟩, ?_⟩
    rintro ⟨xs', u, n', i⟩ ⟨h⟩
    dsimp only at h ⊢
    obtain ⟨rfl, rfl, i0, i1, i2⟩ := h
    refine ifB_of (fun c => ?_) (fun c => ?_)
    · have c := of_decide_eq_true c
      refine ⟨⟨i0, c⟩, ifB_of (fun c2 => ?_) (fun c2 => ?_)⟩
      · have e := ix_mem (T := .int) (xs := xs') (i := i.toNat) (by omega)
        have c2 : Ty.ix .int xs' i.toNat = n' := by simpa using c2
        rw [c2] at e
        exact ⟨by rw [hasN_true.2 e], (by trivial)⟩
      · have w : IntKind.i64.wrap (i + 1) = i + 1 := wrap_small (by omega) (by omega)
        rw [w]
        refine ⟨⟨(by trivial), (by trivial), by omega, by omega, fun e he => ?_⟩, by omega⟩
        by_cases q : e = i.toNat
        · rw [q]; exact c2
        · exact i2 e (by omega)
    · have c := of_decide_eq_false c
      exact ⟨by rw [hasN_false fun e he => i2 e (by omega)], (by trivial)⟩)

def askP (z : List Item × Box) : Prop := z.1.length ≤ 25
instance : Nonempty {x : List Item × Box // askP x} := ⟨⟨([], ⟨⟨0, 0⟩, ⟨0, 0⟩⟩), by simp [askP]⟩⟩
noncomputable def g_DrawBroadAsk (b : List Int) : {x : List Item × Box // askP x} := someAns tt (look [(73, fs_l1Open), (77, fs_rdPick), (103, fs_l11AnyBroad), (93, fs_l11AnyBox)]) Try.f41 [.vec 0] [(false, .vec .byte b)] (fun x : {x : List Item × Box // askP x} => (.tup [.agg [.vec 1], .agg [.int .i64 ((x.1).2).Low.X, .int .i64 ((x.1).2).Low.Y, .int .i64 ((x.1).2).High.X, .int .i64 ((x.1).2).High.Y]] : SV)) (fun x : {x : List Item × Box // askP x} => ([(false, .vec .byte b), (true, .vec .item ((x.1).1))] : List Ent))
noncomputable def fs_DrawBroadAsk : Fs := ⟨[], fun args H => match args, H with
  | [.vec 0], [(false, .vec .byte b)] => some ((some (BytesOk b)), .tup [.agg [.vec 1], .agg [.int .i64 (((g_DrawBroadAsk b).1).2).Low.X, .int .i64 (((g_DrawBroadAsk b).1).2).Low.Y, .int .i64 (((g_DrawBroadAsk b).1).2).High.X, .int .i64 (((g_DrawBroadAsk b).1).2).High.Y]], [(false, .vec .byte b), (true, .vec .item (((g_DrawBroadAsk b).1).1))])
  | _, _ => none⟩

theorem vc_DrawBroadAsk (b : List Int) (Q : SV → List Ent → Prop) :
    fnVC tt (look [(73, fs_l1Open), (77, fs_rdPick), (103, fs_l11AnyBroad), (93, fs_l11AnyBox)]) L0 Try.f41 [.vec 0] [(false, .vec .byte b)] Q =
    (((0 : Int) ≤ (0 : Int) ∧ (0 : Int) + (400 : Int) ≤ (1000000000000 : Int) ∧ BytesOk (List.take (min (List.length b) (2000 : Nat)) (List.drop (0 : Nat) b))) ∧ ifB (decide ((↑(List.length (Subtype.val (Prod.fst (g_l11AnyBroad (List.take (min (List.length b) (2000 : Nat)) (List.drop (0 : Nat) b)) (0 : Int))))) : Int) > (0 : Int))) (((0 : Int) ≤ (0 : Int) + (↑(Prod.snd (g_l11AnyBroad (List.take (min (List.length b) (2000 : Nat)) (List.drop (0 : Nat) b)) (0 : Int)) % (401 : Nat)) : Int) ∧ (0 : Int) + (↑(Prod.snd (g_l11AnyBroad (List.take (min (List.length b) (2000 : Nat)) (List.drop (0 : Nat) b)) (0 : Int)) % (401 : Nat)) : Int) + (1 : Int) ≤ (1000000000000 : Int) ∧ BytesOk (List.take (min (List.length b) (2000 : Nat)) (List.drop (0 : Nat) b)) ∧ (1 : Int) ≤ (2 : Int)) ∧ ifB (g_rdPick (List.take (min (List.length b) (2000 : Nat)) (List.drop (0 : Nat) b)) ((0 : Int) + (↑(Prod.snd (g_l11AnyBroad (List.take (min (List.length b) (2000 : Nat)) (List.drop (0 : Nat) b)) (0 : Int)) % (401 : Nat)) : Int)) (2 : Int) % (2 : Int) == (0 : Int)) (((0 : Int) ≤ (0 : Int) + (↑(Prod.snd (g_l11AnyBroad (List.take (min (List.length b) (2000 : Nat)) (List.drop (0 : Nat) b)) (0 : Int)) % (401 : Nat)) : Int) + (1 : Int) ∧ (0 : Int) + (↑(Prod.snd (g_l11AnyBroad (List.take (min (List.length b) (2000 : Nat)) (List.drop (0 : Nat) b)) (0 : Int)) % (401 : Nat)) : Int) + (1 : Int) + (1 : Int) ≤ (1000000000000 : Int) ∧ BytesOk (List.take (min (List.length b) (2000 : Nat)) (List.drop (0 : Nat) b)) ∧ (1 : Int) ≤ (↑(List.length (Subtype.val (Prod.fst (g_l11AnyBroad (List.take (min (List.length b) (2000 : Nat)) (List.drop (0 : Nat) b)) (0 : Int))))) : Int)) ∧ ((0 : Int) ≤ g_rdPick (List.take (min (List.length b) (2000 : Nat)) (List.drop (0 : Nat) b)) ((0 : Int) + (↑(Prod.snd (g_l11AnyBroad (List.take (min (List.length b) (2000 : Nat)) (List.drop (0 : Nat) b)) (0 : Int)) % (401 : Nat)) : Int) + (1 : Int)) (↑(List.length (Subtype.val (Prod.fst (g_l11AnyBroad (List.take (min (List.length b) (2000 : Nat)) (List.drop (0 : Nat) b)) (0 : Int))))) : Int) % (↑(List.length (Subtype.val (Prod.fst (g_l11AnyBroad (List.take (min (List.length b) (2000 : Nat)) (List.drop (0 : Nat) b)) (0 : Int))))) : Int) ∧ g_rdPick (List.take (min (List.length b) (2000 : Nat)) (List.drop (0 : Nat) b)) ((0 : Int) + (↑(Prod.snd (g_l11AnyBroad (List.take (min (List.length b) (2000 : Nat)) (List.drop (0 : Nat) b)) (0 : Int)) % (401 : Nat)) : Int) + (1 : Int)) (↑(List.length (Subtype.val (Prod.fst (g_l11AnyBroad (List.take (min (List.length b) (2000 : Nat)) (List.drop (0 : Nat) b)) (0 : Int))))) : Int) % (↑(List.length (Subtype.val (Prod.fst (g_l11AnyBroad (List.take (min (List.length b) (2000 : Nat)) (List.drop (0 : Nat) b)) (0 : Int))))) : Int) < (↑(List.length (Subtype.val (Prod.fst (g_l11AnyBroad (List.take (min (List.length b) (2000 : Nat)) (List.drop (0 : Nat) b)) (0 : Int))))) : Int)) ∧ ((0 : Int) ≤ (0 : Int) + (↑(Prod.snd (g_l11AnyBroad (List.take (min (List.length b) (2000 : Nat)) (List.drop (0 : Nat) b)) (0 : Int)) % (401 : Nat)) : Int) + (1 : Int) + (1 : Int) ∧ (0 : Int) + (↑(Prod.snd (g_l11AnyBroad (List.take (min (List.length b) (2000 : Nat)) (List.drop (0 : Nat) b)) (0 : Int)) % (401 : Nat)) : Int) + (1 : Int) + (1 : Int) + (1 : Int) ≤ (1000000000000 : Int) ∧ BytesOk (List.take (min (List.length b) (2000 : Nat)) (List.drop (0 : Nat) b)) ∧ (1 : Int) ≤ (3 : Int)) ∧ Q (SV.tup [SV.agg [SV.vec (1 : Nat)], SV.agg [SV.int IntKind.i64 (Vec.X (Box.Low (Item.Box (Ty.ix Ty.item (Subtype.val (Prod.fst (g_l11AnyBroad (List.take (min (List.length b) (2000 : Nat)) (List.drop (0 : Nat) b)) (0 : Int)))) (Int.toNat (g_rdPick (List.take (min (List.length b) (2000 : Nat)) (List.drop (0 : Nat) b)) ((0 : Int) + (↑(Prod.snd (g_l11AnyBroad (List.take (min (List.length b) (2000 : Nat)) (List.drop (0 : Nat) b)) (0 : Int)) % (401 : Nat)) : Int) + (1 : Int)) (↑(List.length (Subtype.val (Prod.fst (g_l11AnyBroad (List.take (min (List.length b) (2000 : Nat)) (List.drop (0 : Nat) b)) (0 : Int))))) : Int) % (↑(List.length (Subtype.val (Prod.fst (g_l11AnyBroad (List.take (min (List.length b) (2000 : Nat)) (List.drop (0 : Nat) b)) (0 : Int))))) : Int))))))), SV.int IntKind.i64 (Vec.Y (Box.Low (Item.Box (Ty.ix Ty.item (Subtype.val (Prod.fst (g_l11AnyBroad (List.take (min (List.length b) (2000 : Nat)) (List.drop (0 : Nat) b)) (0 : Int)))) (Int.toNat (g_rdPick (List.take (min (List.length b) (2000 : Nat)) (List.drop (0 : Nat) b)) ((0 : Int) + (↑(Prod.snd (g_l11AnyBroad (List.take (min (List.length b) (2000 : Nat)) (List.drop (0 : Nat) b)) (0 : Int)) % (401 : Nat)) : Int) + (1 : Int)) (↑(List.length (Subtype.val (Prod.fst (g_l11AnyBroad (List.take (min (List.length b) (2000 : Nat)) (List.drop (0 : Nat) b)) (0 : Int))))) : Int) % (↑(List.length (Subtype.val (Prod.fst (g_l11AnyBroad (List.take (min (List.length b) (2000 : Nat)) (List.drop (0 : Nat) b)) (0 : Int))))) : Int))))))), SV.int IntKind.i64 (IntKind.wrap IntKind.i64 (IntKind.wrap IntKind.i64 (Vec.X (Box.High (Item.Box (Ty.ix Ty.item (Subtype.val (Prod.fst (g_l11AnyBroad (List.take (min (List.length b) (2000 : Nat)) (List.drop (0 : Nat) b)) (0 : Int)))) (Int.toNat (g_rdPick (List.take (min (List.length b) (2000 : Nat)) (List.drop (0 : Nat) b)) ((0 : Int) + (↑(Prod.snd (g_l11AnyBroad (List.take (min (List.length b) (2000 : Nat)) (List.drop (0 : Nat) b)) (0 : Int)) % (401 : Nat)) : Int) + (1 : Int)) (↑(List.length (Subtype.val (Prod.fst (g_l11AnyBroad (List.take (min (List.length b) (2000 : Nat)) (List.drop (0 : Nat) b)) (0 : Int))))) : Int) % (↑(List.length (Subtype.val (Prod.fst (g_l11AnyBroad (List.take (min (List.length b) (2000 : Nat)) (List.drop (0 : Nat) b)) (0 : Int))))) : Int)))))) + g_rdPick (List.take (min (List.length b) (2000 : Nat)) (List.drop (0 : Nat) b)) ((0 : Int) + (↑(Prod.snd (g_l11AnyBroad (List.take (min (List.length b) (2000 : Nat)) (List.drop (0 : Nat) b)) (0 : Int)) % (401 : Nat)) : Int) + (1 : Int) + (1 : Int)) (3 : Int) % (3 : Int)) - (1 : Int))), SV.int IntKind.i64 (Vec.Y (Box.High (Item.Box (Ty.ix Ty.item (Subtype.val (Prod.fst (g_l11AnyBroad (List.take (min (List.length b) (2000 : Nat)) (List.drop (0 : Nat) b)) (0 : Int)))) (Int.toNat (g_rdPick (List.take (min (List.length b) (2000 : Nat)) (List.drop (0 : Nat) b)) ((0 : Int) + (↑(Prod.snd (g_l11AnyBroad (List.take (min (List.length b) (2000 : Nat)) (List.drop (0 : Nat) b)) (0 : Int)) % (401 : Nat)) : Int) + (1 : Int)) (↑(List.length (Subtype.val (Prod.fst (g_l11AnyBroad (List.take (min (List.length b) (2000 : Nat)) (List.drop (0 : Nat) b)) (0 : Int))))) : Int) % (↑(List.length (Subtype.val (Prod.fst (g_l11AnyBroad (List.take (min (List.length b) (2000 : Nat)) (List.drop (0 : Nat) b)) (0 : Int))))) : Int)))))))]]) [(false, Blk.vec Ty.byte b), (true, Blk.vec Ty.item (Subtype.val (Prod.fst (g_l11AnyBroad (List.take (min (List.length b) (2000 : Nat)) (List.drop (0 : Nat) b)) (0 : Int)))))]) (((0 : Int) ≤ (0 : Int) + (↑(Prod.snd (g_l11AnyBroad (List.take (min (List.length b) (2000 : Nat)) (List.drop (0 : Nat) b)) (0 : Int)) % (401 : Nat)) : Int) + (1 : Int) ∧ (0 : Int) + (↑(Prod.snd (g_l11AnyBroad (List.take (min (List.length b) (2000 : Nat)) (List.drop (0 : Nat) b)) (0 : Int)) % (401 : Nat)) : Int) + (1 : Int) + (8 : Int) ≤ (1000000000000 : Int) ∧ BytesOk (List.take (min (List.length b) (2000 : Nat)) (List.drop (0 : Nat) b))) ∧ Q (SV.tup [SV.agg [SV.vec (1 : Nat)], SV.agg [SV.int IntKind.i64 (Vec.X (Box.Low (Prod.fst (g_l11AnyBox (List.take (min (List.length b) (2000 : Nat)) (List.drop (0 : Nat) b)) ((0 : Int) + (↑(Prod.snd (g_l11AnyBroad (List.take (min (List.length b) (2000 : Nat)) (List.drop (0 : Nat) b)) (0 : Int)) % (401 : Nat)) : Int) + (1 : Int)))))), SV.int IntKind.i64 (Vec.Y (Box.Low (Prod.fst (g_l11AnyBox (List.take (min (List.length b) (2000 : Nat)) (List.drop (0 : Nat) b)) ((0 : Int) + (↑(Prod.snd (g_l11AnyBroad (List.take (min (List.length b) (2000 : Nat)) (List.drop (0 : Nat) b)) (0 : Int)) % (401 : Nat)) : Int) + (1 : Int)))))), SV.int IntKind.i64 (Vec.X (Box.High (Prod.fst (g_l11AnyBox (List.take (min (List.length b) (2000 : Nat)) (List.drop (0 : Nat) b)) ((0 : Int) + (↑(Prod.snd (g_l11AnyBroad (List.take (min (List.length b) (2000 : Nat)) (List.drop (0 : Nat) b)) (0 : Int)) % (401 : Nat)) : Int) + (1 : Int)))))), SV.int IntKind.i64 (Vec.Y (Box.High (Prod.fst (g_l11AnyBox (List.take (min (List.length b) (2000 : Nat)) (List.drop (0 : Nat) b)) ((0 : Int) + (↑(Prod.snd (g_l11AnyBroad (List.take (min (List.length b) (2000 : Nat)) (List.drop (0 : Nat) b)) (0 : Int)) % (401 : Nat)) : Int) + (1 : Int))))))]]) [(false, Blk.vec Ty.byte b), (true, Blk.vec Ty.item (Subtype.val (Prod.fst (g_l11AnyBroad (List.take (min (List.length b) (2000 : Nat)) (List.drop (0 : Nat) b)) (0 : Int)))))])) (((0 : Int) ≤ (0 : Int) + (↑(Prod.snd (g_l11AnyBroad (List.take (min (List.length b) (2000 : Nat)) (List.drop (0 : Nat) b)) (0 : Int)) % (401 : Nat)) : Int) ∧ (0 : Int) + (↑(Prod.snd (g_l11AnyBroad (List.take (min (List.length b) (2000 : Nat)) (List.drop (0 : Nat) b)) (0 : Int)) % (401 : Nat)) : Int) + (8 : Int) ≤ (1000000000000 : Int) ∧ BytesOk (List.take (min (List.length b) (2000 : Nat)) (List.drop (0 : Nat) b))) ∧ Q (SV.tup [SV.agg [SV.vec (1 : Nat)], SV.agg [SV.int IntKind.i64 (Vec.X (Box.Low (Prod.fst (g_l11AnyBox (List.take (min (List.length b) (2000 : Nat)) (List.drop (0 : Nat) b)) ((0 : Int) + (↑(Prod.snd (g_l11AnyBroad (List.take (min (List.length b) (2000 : Nat)) (List.drop (0 : Nat) b)) (0 : Int)) % (401 : Nat)) : Int)))))), SV.int IntKind.i64 (Vec.Y (Box.Low (Prod.fst (g_l11AnyBox (List.take (min (List.length b) (2000 : Nat)) (List.drop (0 : Nat) b)) ((0 : Int) + (↑(Prod.snd (g_l11AnyBroad (List.take (min (List.length b) (2000 : Nat)) (List.drop (0 : Nat) b)) (0 : Int)) % (401 : Nat)) : Int)))))), SV.int IntKind.i64 (Vec.X (Box.High (Prod.fst (g_l11AnyBox (List.take (min (List.length b) (2000 : Nat)) (List.drop (0 : Nat) b)) ((0 : Int) + (↑(Prod.snd (g_l11AnyBroad (List.take (min (List.length b) (2000 : Nat)) (List.drop (0 : Nat) b)) (0 : Int)) % (401 : Nat)) : Int)))))), SV.int IntKind.i64 (Vec.Y (Box.High (Prod.fst (g_l11AnyBox (List.take (min (List.length b) (2000 : Nat)) (List.drop (0 : Nat) b)) ((0 : Int) + (↑(Prod.snd (g_l11AnyBroad (List.take (min (List.length b) (2000 : Nat)) (List.drop (0 : Nat) b)) (0 : Int)) % (401 : Nat)) : Int))))))]]) [(false, Blk.vec Ty.byte b), (true, Blk.vec Ty.item (Subtype.val (Prod.fst (g_l11AnyBroad (List.take (min (List.length b) (2000 : Nat)) (List.drop (0 : Nat) b)) (0 : Int)))))])) := by kernel_rfl

theorem ok_DrawBroadAsk : FsOk Try.prog 41 fs_DrawBroadAsk := fsOk_of tt_ok (tabFs_cons ok_l1Open (tabFs_cons ok_rdPick (tabFs_cons ok_l11AnyBroad (tabFs_cons ok_l11AnyBox tabFs_nil)))) mixed Try.func41 (by kernel_rfl) (by kernel_rfl) (by
    intro args LL p0 r HH h hp
    unfold fs_DrawBroadAsk at h
    dsimp only at h
    split at h
    case h_2 => cases h
    rename_i b
    simp only [Option.some.injEq, Prod.mk.injEq] at h
    obtain ⟨rfl, rfl, rfl⟩ := h
    refine ⟨by simp [Form, stays], L0, ?_⟩
    have hby := hp _ rfl
    refine someAns_ok (R := (fun x : {x : List Item × Box // askP x} => (.tup [.agg [.vec 1], .agg [.int .i64 ((x.1).2).Low.X, .int .i64 ((x.1).2).Low.Y, .int .i64 ((x.1).2).High.X, .int .i64 ((x.1).2).High.Y]] : SV))) (HH := (fun x : {x : List Item × Box // askP x} => ([(false, .vec .byte b), (true, .vec .item ((x.1).1))] : List Ent))) (by kernel_rfl) ?_
    have fin : ∀ (z0 : List Item) (z1LX : Int) (z1LY : Int) (z1HX : Int) (z1HY : Int), askP (z0, (Box.mk (Vec.mk z1LX z1LY) (Vec.mk z1HX z1HY))) → ∃ x : {x : List Item × Box // askP x}, ((.tup [.agg [.vec 1], .agg [.int .i64 (((z0, (Box.mk (Vec.mk z1LX z1LY) (Vec.mk z1HX z1HY)))).2).Low.X, .int .i64 (((z0, (Box.mk (Vec.mk z1LX z1LY) (Vec.mk z1HX z1HY)))).2).Low.Y, .int .i64 (((z0, (Box.mk (Vec.mk z1LX z1LY) (Vec.mk z1HX z1HY)))).2).High.X, .int .i64 (((z0, (Box.mk (Vec.mk z1LX z1LY) (Vec.mk z1HX z1HY)))).2).High.Y]] : SV) : SV) = (fun x : {x : List Item × Box // askP x} => (.tup [.agg [.vec 1], .agg [.int .i64 ((x.1).2).Low.X, .int .i64 ((x.1).2).Low.Y, .int .i64 ((x.1).2).High.X, .int .i64 ((x.1).2).High.Y]] : SV)) x ∧ (([(false, .vec .byte b), (true, .vec .item (((z0, (Box.mk (Vec.mk z1LX z1LY) (Vec.mk z1HX z1HY)))).1))] : List Ent) : List Ent) = (fun x : {x : List Item × Box // askP x} => ([(false, .vec .byte b), (true, .vec .item ((x.1).1))] : List Ent)) x := fun z0 z1LX z1LY z1HX z1HY hpred => ⟨⟨(z0, (Box.mk (Vec.mk z1LX z1LY) (Vec.mk z1HX z1HY))), hpred⟩, rfl, rfl⟩
    rw [vc_DrawBroadAsk]
    try dsimp only
    try dsimp only at fin
    have hq := hby.part 0 (min b.length 2000)
    generalize List.take (min b.length 2000) (List.drop 0 b) = q at *
    generalize g_l11AnyBroad q 0 = z
    obtain ⟨⟨xs, hx⟩, m⟩ := z
    have hx : xs.length ≤ 25 := hx
    dsimp only
    refine ⟨⟨by omega, by omega, hq⟩, ifB_of (fun c => ⟨⟨by omega, by omega, hq, by omega⟩, ifB_of (fun c2 => ?_) (fun c2 => ⟨⟨by omega, by omega, hq⟩, fin _ _ _ _ _ hx⟩)⟩) (fun c => ⟨⟨by omega, by omega, hq⟩, fin _ _ _ _ _ hx⟩)⟩
    have hl : 0 < (xs.length : Int) := of_decide_eq_true c
    exact ⟨⟨by omega, by omega, hq, by omega⟩, pk_lt q _ (n := xs.length) (by omega), ⟨by omega, by omega, hq, by omega⟩, fin _ _ _ _ _ hx⟩)

theorem both_meets {y a b : Box} (ha : boxOk a = true) (hb : boxOk b = true) (h : boxMeets y a = true) : boxMeets y (boxBoth a b) = true := by
  simp only [boxBoth, ha, hb, Bool.and_self, cond_true]
  simp only [boxMeets, Bool.and_eq_true, decide_eq_true_eq] at h ⊢
  omega
theorem both_ok {a b : Box} (ha : boxOk a = true) (hb : boxOk b = true) : boxOk (boxBoth a b) = true := by
  simp only [boxBoth, ha, hb, Bool.and_self, cond_true]
  simp only [boxOk, vecOk, isIn, Bool.and_eq_true, decide_eq_true_eq] at ha hb ⊢
  omega
theorem mem_askF {x : Box} {xs : List Item} {n : Int} : n ∈ askF x xs ↔ ∃ y, y ∈ xs ∧ boxMeets y.Box x = true ∧ y.Id = n := by
  simp [askF, and_assoc]
theorem askF_asc {x : Box} {xs : List Item} (h : itemsOk xs = true) {i : Nat} (hi : i + 1 < (askF x xs).length) : Ty.ix .int (askF x xs) i < Ty.ix .int (askF x xs) (i + 1) := by
  have h1 : xs.Pairwise (fun a b => a.Id < b.Id) := by
    refine List.pairwise_iff_getElem.2 fun i j hi hj hij => ?_
    have e := items_lt h hij hj
    rwa [ix_eq (T := .item) (List.getElem?_eq_getElem hi), ix_eq (T := .item) (List.getElem?_eq_getElem hj)] at e
  have h2 : (askF x xs).Pairwise (fun a b => a < b) := by
    unfold askF
    exact List.pairwise_map.2 (h1.filter _)
  have e := List.pairwise_iff_getElem.1 h2 i (i + 1) (by omega) hi (by omega)
  rwa [← ix_eq (T := .int) (List.getElem?_eq_getElem (show i < (askF x xs).length by omega)), ← ix_eq (T := .int) (List.getElem?_eq_getElem hi)] at e
noncomputable def fs_implBoxMeets : Fs := ⟨[], fun args H => match args, H with
  | [.agg [.int .i64 aLX, .int .i64 aLY, .int .i64 aHX, .int .i64 aHY], .agg [.int .i64 bLX, .int .i64 bLY, .int .i64 bHX, .int .i64 bHY]], [] => some (none, .bool (boxOk (Box.mk (Vec.mk aLX aLY) (Vec.mk aHX aHY)) && boxOk (Box.mk (Vec.mk bLX bLY) (Vec.mk bHX bHY)) && boxMeets (Box.mk (Vec.mk aLX aLY) (Vec.mk aHX aHY)) (Box.mk (Vec.mk bLX bLY) (Vec.mk bHX bHY))), [])
  | _, _ => none⟩

theorem vc_implBoxMeets (aLX : Int) (aLY : Int) (aHX : Int) (aHY : Int) (bLX : Int) (bLY : Int) (bHX : Int) (bHY : Int) (Q : SV → List Ent → Prop) :
    fnVC tt (look [(94, fs_implBoxOk), (101, fs_implMeets)]) L0 Try.f49 [.agg [.int .i64 aLX, .int .i64 aLY, .int .i64 aHX, .int .i64 aHY], .agg [.int .i64 bLX, .int .i64 bLY, .int .i64 bHX, .int .i64 bHY]] [] Q =
    (ifB (boxOk (Box.mk (Vec.mk aLX aLY) (Vec.mk aHX aHY))) (ifB (boxOk (Box.mk (Vec.mk bLX bLY) (Vec.mk bHX bHY))) (Q (SV.bool (boxMeets (Box.mk (Vec.mk aLX aLY) (Vec.mk aHX aHY)) (Box.mk (Vec.mk bLX bLY) (Vec.mk bHX bHY)))) []) (Q (SV.bool false) [])) (Q (SV.bool false) [])) := by kernel_rfl

theorem ok_implBoxMeets : FsOk Try.prog 49 fs_implBoxMeets := fsOk_of tt_ok (tabFs_cons ok_implBoxOk (tabFs_cons ok_implMeets tabFs_nil)) mixed Try.func49 (by kernel_rfl) (by kernel_rfl) (by
    intro args LL p r HH h hp
    unfold fs_implBoxMeets at h
    dsimp only at h
    split at h
    case h_2 => cases h
    rename_i aLX aLY aHX aHY bLX bLY bHX bHY
    simp only [Option.some.injEq, Prod.mk.injEq] at h
    obtain ⟨rfl, rfl, rfl⟩ := h
    refine ⟨by simp [Form, stays], L0, ?_⟩
    rw [vc_implBoxMeets]
    try dsimp only
    refine ifB_of (fun c => ifB_of (fun c2 => ?_) (fun c2 => ?_)) (fun c => ?_)
    · simp [c, c2]
    · simp [c, c2]
    · simp [c])

def listP (z : List Item) : Prop := z.length ≤ 25
instance : Nonempty {x : List Item // listP x} := ⟨⟨[], by simp [listP]⟩⟩
noncomputable def g_DrawBroadPairs (b : List Int) : {x : List Item // listP x} := someAns tt (look [(73, fs_l1Open), (103, fs_l11AnyBroad)]) Try.f45 [.vec 0] [(false, .vec .byte b)] (fun x : {x : List Item // listP x} => (.agg [.vec 1] : SV)) (fun x : {x : List Item // listP x} => ([(false, .vec .byte b), (true, .vec .item (x.1))] : List Ent))
noncomputable def fs_DrawBroadPairs : Fs := ⟨[], fun args H => match args, H with
  | [.vec 0], [(false, .vec .byte b)] => some ((some (BytesOk b)), .agg [.vec 1], [(false, .vec .byte b), (true, .vec .item ((g_DrawBroadPairs b).1))])
  | _, _ => none⟩

theorem vc_DrawBroadPairs (b : List Int) (Q : SV → List Ent → Prop) :
    fnVC tt (look [(73, fs_l1Open), (103, fs_l11AnyBroad)]) L0 Try.f45 [.vec 0] [(false, .vec .byte b)] Q =
    (((0 : Int) ≤ (0 : Int) ∧ (0 : Int) + (400 : Int) ≤ (1000000000000 : Int) ∧ BytesOk (List.take (min (List.length b) (2000 : Nat)) (List.drop (0 : Nat) b))) ∧ Q (SV.agg [SV.vec (1 : Nat)]) [(false, Blk.vec Ty.byte b), (true, Blk.vec Ty.item (Subtype.val (Prod.fst (g_l11AnyBroad (List.take (min (List.length b) (2000 : Nat)) (List.drop (0 : Nat) b)) (0 : Int)))))]) := by kernel_rfl

theorem ok_DrawBroadPairs : FsOk Try.prog 45 fs_DrawBroadPairs := fsOk_of tt_ok (tabFs_cons ok_l1Open (tabFs_cons ok_l11AnyBroad tabFs_nil)) mixed Try.func45 (by kernel_rfl) (by kernel_rfl) (by
    intro args LL p0 r HH h hp
    unfold fs_DrawBroadPairs at h
    dsimp only at h
    split at h
    case h_2 => cases h
    rename_i b
    simp only [Option.some.injEq, Prod.mk.injEq] at h
    obtain ⟨rfl, rfl, rfl⟩ := h
    refine ⟨by simp [Form, stays], L0, ?_⟩
    have hby := hp _ rfl
    refine someAns_ok (R := (fun x : {x : List Item // listP x} => (.agg [.vec 1] : SV))) (HH := (fun x : {x : List Item // listP x} => ([(false, .vec .byte b), (true, .vec .item (x.1))] : List Ent))) (by kernel_rfl) ?_
    have fin : ∀ (z : List Item), listP z → ∃ x : {x : List Item // listP x}, ((.agg [.vec 1] : SV) : SV) = (fun x : {x : List Item // listP x} => (.agg [.vec 1] : SV)) x ∧ (([(false, .vec .byte b), (true, .vec .item (z))] : List Ent) : List Ent) = (fun x : {x : List Item // listP x} => ([(false, .vec .byte b), (true, .vec .item (x.1))] : List Ent)) x := fun z hpred => ⟨⟨z, hpred⟩, rfl, rfl⟩
    rw [vc_DrawBroadPairs]
    try dsimp only
    try dsimp only at fin
    repeat' (first | refine ifB_of (fun _ => ?_) (fun _ => ?_) | refine pre_of ?_ (fun _ => ?_))
    all_goals first
      | (refine fin _ ?_; exact (g_l11AnyBroad _ _).1.2)
      | omega
      | exact hby
      | exact hby.part _ _
      | exact Nat.le_add_left _ _
      | exact ⟨by omega, by omega, hby.part _ _⟩
      | exact ⟨by omega, by omega, hby.part _ _, by omega⟩
      | exact ⟨by omega, by omega, hby.part _ _, Nat.le_add_left _ _⟩)

def LSlawAsk  : LS where
  S := List Int × List Int × List Int × List Int × Int
  live := [(7, [some .int]), (10, [some .int]), (11, [none])]
  shape := fun s => ([.vec 2, .vec 3, .int .i64 s.2.2.2.2], [(false, .vec .byte s.1), (false, .vec .byte s.2.1), (true, .vec .int s.2.2.1), (true, .vec .int s.2.2.2.1)])
  get := fun v h => match v, h with
    | [.vec 2, .vec 3, .int .i64 i], [(false, .vec .byte b), (false, .vec .byte c), (true, .vec .int xs), (true, .vec .int ws)] => some (b, c, xs, ws, i)
    | _, _ => none
  inv := fun s0 s => Holds (s.1 = s0.1 ∧ s.2.1 = s0.2.1 ∧ s.2.2.1 = s0.2.2.1 ∧ s.2.2.2.1 = s0.2.2.2.1 ∧ 0 ≤ s.2.2.2.2 ∧ s.2.2.2.2 ≤ s0.2.2.1.length)
  mu := fun s => ((s.2.2.1.length : Int) - s.2.2.2.2).toNat
  ok := by
    intro v h s hg
    try dsimp only at hg
    split at hg <;> cases hg
    rfl

def L_lawBroadAsk : Loops := fun n => match n with
  | 12 => some LSlawAsk
  | _ => none
noncomputable def fs_lawBroadAsk : Fs := ⟨[], fun args H => match args, H with
  | [.vec 0, .vec 1], [(false, .vec .byte b), (false, .vec .byte c)] => some ((some (LOk .byte b ∧ LOk .byte c)), .bool (true), [(false, .vec .byte b), (false, .vec .byte c)])
  | _, _ => none⟩

theorem vc_lawBroadAsk (b : List Int) (c : List Int) (Q : SV → List Ent → Prop) :
    fnVC tt (look [(41, fs_DrawBroadAsk), (36, fs_implBroadAsk), (34, fs_specBroadAsk), (42, fs_lawsPqInts), (16, fs_specBroadOk), (31, fs_specBoxOk), (43, fs_implBoxBoth), (44, fs_lawsPqHas)]) (L_lawBroadAsk) Try.f8 [.vec 0, .vec 1] [(false, .vec .byte b), (false, .vec .byte c)] Q =
    (ifB (decide ((↑(List.length b) : Int) > (1048576 : Int))) (Q (SV.bool true) [(false, Blk.vec Ty.byte b), (false, Blk.vec Ty.byte c)]) (ifB (decide ((↑(List.length c) : Int) > (1048576 : Int))) (Q (SV.bool true) [(false, Blk.vec Ty.byte b), (false, Blk.vec Ty.byte c)]) (BytesOk b ∧ List.length (Prod.fst (Subtype.val (g_DrawBroadAsk b))) ≤ (1048576 : Nat) ∧ List.length (Prod.fst (Subtype.val (g_DrawBroadAsk b))) ≤ (1048576 : Nat) ∧ List.length (broadAsk (Prod.fst (Subtype.val (g_DrawBroadAsk b))) (Prod.snd (Subtype.val (g_DrawBroadAsk b)))) ≤ (4611686018427387904 : Nat) ∧ ifB (!same (broadAsk (Prod.fst (Subtype.val (g_DrawBroadAsk b))) (Prod.snd (Subtype.val (g_DrawBroadAsk b)))) (broadAsk (Prod.fst (Subtype.val (g_DrawBroadAsk b))) (Prod.snd (Subtype.val (g_DrawBroadAsk b))))) (List.length (Prod.fst (Subtype.val (g_DrawBroadAsk b))) ≤ (1048576 : Nat) ∧ List.length (broadAsk (Prod.fst (Subtype.val (g_DrawBroadAsk b))) (Prod.snd (Subtype.val (g_DrawBroadAsk b)))) ≤ (4611686018427387904 : Nat) ∧ Q (SV.bool (same (broadAsk (Prod.fst (Subtype.val (g_DrawBroadAsk b))) (Prod.snd (Subtype.val (g_DrawBroadAsk b)))) (broadAsk (Prod.fst (Subtype.val (g_DrawBroadAsk b))) (Prod.snd (Subtype.val (g_DrawBroadAsk b)))))) [(false, Blk.vec Ty.byte b), (false, Blk.vec Ty.byte c)]) (List.length (Prod.fst (Subtype.val (g_DrawBroadAsk b))) ≤ (1048576 : Nat) ∧ ifB (!itemsOk (Prod.fst (Subtype.val (g_DrawBroadAsk b)))) (List.length (Prod.fst (Subtype.val (g_DrawBroadAsk b))) ≤ (1048576 : Nat) ∧ List.length (broadAsk (Prod.fst (Subtype.val (g_DrawBroadAsk b))) (Prod.snd (Subtype.val (g_DrawBroadAsk b)))) ≤ (4611686018427387904 : Nat) ∧ Q (SV.bool (same (broadAsk (Prod.fst (Subtype.val (g_DrawBroadAsk b))) (Prod.snd (Subtype.val (g_DrawBroadAsk b)))) (broadAsk (Prod.fst (Subtype.val (g_DrawBroadAsk b))) (Prod.snd (Subtype.val (g_DrawBroadAsk b)))))) [(false, Blk.vec Ty.byte b), (false, Blk.vec Ty.byte c)]) (ifB (!boxOk (Prod.snd (Subtype.val (g_DrawBroadAsk b)))) (List.length (Prod.fst (Subtype.val (g_DrawBroadAsk b))) ≤ (1048576 : Nat) ∧ List.length (broadAsk (Prod.fst (Subtype.val (g_DrawBroadAsk b))) (Prod.snd (Subtype.val (g_DrawBroadAsk b)))) ≤ (4611686018427387904 : Nat) ∧ Q (SV.bool (same (broadAsk (Prod.fst (Subtype.val (g_DrawBroadAsk b))) (Prod.snd (Subtype.val (g_DrawBroadAsk b)))) (broadAsk (Prod.fst (Subtype.val (g_DrawBroadAsk b))) (Prod.snd (Subtype.val (g_DrawBroadAsk b)))))) [(false, Blk.vec Ty.byte b), (false, Blk.vec Ty.byte c)]) (BytesOk c ∧ ifB (!boxOk (Prod.snd (Subtype.val (g_DrawBroadAsk c)))) (Q (SV.bool true) [(false, Blk.vec Ty.byte b), (false, Blk.vec Ty.byte c)]) (List.length (Prod.fst (Subtype.val (g_DrawBroadAsk b))) ≤ (1048576 : Nat) ∧ Holds (b = b ∧ c = c ∧ broadAsk (Prod.fst (Subtype.val (g_DrawBroadAsk b))) (Prod.snd (Subtype.val (g_DrawBroadAsk b))) = broadAsk (Prod.fst (Subtype.val (g_DrawBroadAsk b))) (Prod.snd (Subtype.val (g_DrawBroadAsk b))) ∧ broadAsk (Prod.fst (Subtype.val (g_DrawBroadAsk b))) (boxBoth (Prod.snd (Subtype.val (g_DrawBroadAsk b))) (Prod.snd (Subtype.val (g_DrawBroadAsk c)))) = broadAsk (Prod.fst (Subtype.val (g_DrawBroadAsk b))) (boxBoth (Prod.snd (Subtype.val (g_DrawBroadAsk b))) (Prod.snd (Subtype.val (g_DrawBroadAsk c)))) ∧ (0 : Int) ≤ (0 : Int) ∧ (0 : Int) ≤ (↑(List.length (broadAsk (Prod.fst (Subtype.val (g_DrawBroadAsk b))) (Prod.snd (Subtype.val (g_DrawBroadAsk b))))) : Int)) ∧ ∀ (x : List Int × List Int × List Int × List Int × Int), Holds (Prod.fst x = b ∧ Prod.fst (Prod.snd x) = c ∧ Prod.fst (Prod.snd (Prod.snd x)) = broadAsk (Prod.fst (Subtype.val (g_DrawBroadAsk b))) (Prod.snd (Subtype.val (g_DrawBroadAsk b))) ∧ Prod.fst (Prod.snd (Prod.snd (Prod.snd x))) = broadAsk (Prod.fst (Subtype.val (g_DrawBroadAsk b))) (boxBoth (Prod.snd (Subtype.val (g_DrawBroadAsk b))) (Prod.snd (Subtype.val (g_DrawBroadAsk c)))) ∧ (0 : Int) ≤ Prod.snd (Prod.snd (Prod.snd (Prod.snd x))) ∧ Prod.snd (Prod.snd (Prod.snd (Prod.snd x))) ≤ (↑(List.length (broadAsk (Prod.fst (Subtype.val (g_DrawBroadAsk b))) (Prod.snd (Subtype.val (g_DrawBroadAsk b))))) : Int)) → ifB (decide (Prod.snd (Prod.snd (Prod.snd (Prod.snd x))) < (↑(List.length (Prod.fst (Prod.snd (Prod.snd x)))) : Int))) (((0 : Int) ≤ Prod.snd (Prod.snd (Prod.snd (Prod.snd x))) ∧ Prod.snd (Prod.snd (Prod.snd (Prod.snd x))) < (↑(List.length (Prod.fst (Prod.snd (Prod.snd x)))) : Int)) ∧ List.length (Prod.fst (Prod.snd (Prod.snd (Prod.snd x)))) ≤ (1048576 : Nat) ∧ ifB (!hasN (Prod.fst (Prod.snd (Prod.snd (Prod.snd x)))) (Ty.ix Ty.int (Prod.fst (Prod.snd (Prod.snd x))) (Int.toNat (Prod.snd (Prod.snd (Prod.snd (Prod.snd x))))))) (Q (SV.bool false) [(false, Blk.vec Ty.byte (Prod.fst x)), (false, Blk.vec Ty.byte (Prod.fst (Prod.snd x)))]) (ifB (decide (Prod.snd (Prod.snd (Prod.snd (Prod.snd x))) > (0 : Int))) (((0 : Int) ≤ IntKind.wrap IntKind.i64 (Prod.snd (Prod.snd (Prod.snd (Prod.snd x))) - (1 : Int)) ∧ IntKind.wrap IntKind.i64 (Prod.snd (Prod.snd (Prod.snd (Prod.snd x))) - (1 : Int)) < (↑(List.length (Prod.fst (Prod.snd (Prod.snd x)))) : Int)) ∧ ((0 : Int) ≤ Prod.snd (Prod.snd (Prod.snd (Prod.snd x))) ∧ Prod.snd (Prod.snd (Prod.snd (Prod.snd x))) < (↑(List.length (Prod.fst (Prod.snd (Prod.snd x)))) : Int)) ∧ ifB (decide (Ty.ix Ty.int (Prod.fst (Prod.snd (Prod.snd x))) (Int.toNat (IntKind.wrap IntKind.i64 (Prod.snd (Prod.snd (Prod.snd (Prod.snd x))) - (1 : Int)))) ≥ Ty.ix Ty.int (Prod.fst (Prod.snd (Prod.snd x))) (Int.toNat (Prod.snd (Prod.snd (Prod.snd (Prod.snd x))))))) (Q (SV.bool false) [(false, Blk.vec Ty.byte (Prod.fst x)), (false, Blk.vec Ty.byte (Prod.fst (Prod.snd x)))]) (Holds (Prod.fst x = b ∧ Prod.fst (Prod.snd x) = c ∧ Prod.fst (Prod.snd (Prod.snd x)) = broadAsk (Prod.fst (Subtype.val (g_DrawBroadAsk b))) (Prod.snd (Subtype.val (g_DrawBroadAsk b))) ∧ Prod.fst (Prod.snd (Prod.snd (Prod.snd x))) = broadAsk (Prod.fst (Subtype.val (g_DrawBroadAsk b))) (boxBoth (Prod.snd (Subtype.val (g_DrawBroadAsk b))) (Prod.snd (Subtype.val (g_DrawBroadAsk c)))) ∧ (0 : Int) ≤ IntKind.wrap IntKind.i64 (Prod.snd (Prod.snd (Prod.snd (Prod.snd x))) + (1 : Int)) ∧ IntKind.wrap IntKind.i64 (Prod.snd (Prod.snd (Prod.snd (Prod.snd x))) + (1 : Int)) ≤ (↑(List.length (broadAsk (Prod.fst (Subtype.val (g_DrawBroadAsk b))) (Prod.snd (Subtype.val (g_DrawBroadAsk b))))) : Int)) ∧ Int.toNat ((↑(List.length (Prod.fst (Prod.snd (Prod.snd x)))) : Int) - IntKind.wrap IntKind.i64 (Prod.snd (Prod.snd (Prod.snd (Prod.snd x))) + (1 : Int))) < Int.toNat ((↑(List.length (Prod.fst (Prod.snd (Prod.snd x)))) : Int) - Prod.snd (Prod.snd (Prod.snd (Prod.snd x)))))) (Holds (Prod.fst x = b ∧ Prod.fst (Prod.snd x) = c ∧ Prod.fst (Prod.snd (Prod.snd x)) = broadAsk (Prod.fst (Subtype.val (g_DrawBroadAsk b))) (Prod.snd (Subtype.val (g_DrawBroadAsk b))) ∧ Prod.fst (Prod.snd (Prod.snd (Prod.snd x))) = broadAsk (Prod.fst (Subtype.val (g_DrawBroadAsk b))) (boxBoth (Prod.snd (Subtype.val (g_DrawBroadAsk b))) (Prod.snd (Subtype.val (g_DrawBroadAsk c)))) ∧ (0 : Int) ≤ IntKind.wrap IntKind.i64 (Prod.snd (Prod.snd (Prod.snd (Prod.snd x))) + (1 : Int)) ∧ IntKind.wrap IntKind.i64 (Prod.snd (Prod.snd (Prod.snd (Prod.snd x))) + (1 : Int)) ≤ (↑(List.length (broadAsk (Prod.fst (Subtype.val (g_DrawBroadAsk b))) (Prod.snd (Subtype.val (g_DrawBroadAsk b))))) : Int)) ∧ Int.toNat ((↑(List.length (Prod.fst (Prod.snd (Prod.snd x)))) : Int) - IntKind.wrap IntKind.i64 (Prod.snd (Prod.snd (Prod.snd (Prod.snd x))) + (1 : Int))) < Int.toNat ((↑(List.length (Prod.fst (Prod.snd (Prod.snd x)))) : Int) - Prod.snd (Prod.snd (Prod.snd (Prod.snd x))))))) (Q (SV.bool true) [(false, Blk.vec Ty.byte (Prod.fst x)), (false, Blk.vec Ty.byte (Prod.fst (Prod.snd x)))])))))))) := by kernel_rfl

theorem ok_lawBroadAsk : FsOk Try.prog 8 fs_lawBroadAsk := fsOk_of tt_ok (tabFs_cons ok_DrawBroadAsk (tabFs_cons ok_implBroadAsk (tabFs_cons ok_specBroadAsk (tabFs_cons ok_lawsPqInts (tabFs_cons ok_specBroadOk (tabFs_cons ok_specBoxOk (tabFs_cons ok_implBoxBoth (tabFs_cons ok_lawsPqHas tabFs_nil)))))))) mixed Try.func8 (by kernel_rfl) (by kernel_rfl) (by
    intro args LL p r HH h hp
    unfold fs_lawBroadAsk at h
    dsimp only at h
    split at h
    case h_2 => cases h
    rename_i b c
    simp only [Option.some.injEq, Prod.mk.injEq] at h
    obtain ⟨rfl, rfl, rfl⟩ := h
    refine ⟨by simp [Form, stays], (L_lawBroadAsk), ?_⟩
    rw [vc_lawBroadAsk]
    try dsimp only
    obtain ⟨l1, l2⟩ := hp _ rfl
    have hb := bytesOk_of l1
    have hc := bytesOk_of l2
    refine ifB_of (fun _ => ⟨(by trivial), (by trivial)⟩) (fun _ => ifB_of (fun _ => ⟨(by trivial), (by trivial)⟩) (fun _ => ⟨hb, ?_⟩))
    generalize g_DrawBroadAsk b = z
    obtain ⟨⟨xs, ⟨⟨x1, x2⟩, ⟨x3, x4⟩⟩⟩, hr⟩ := z
    have hr : xs.length ≤ 25 := hr
    generalize g_DrawBroadAsk c = z
    obtain ⟨⟨ys, ⟨⟨y1, y2⟩, ⟨y3, y4⟩⟩⟩, hr2⟩ := z
    have hla := length_broadAsk (xs := xs) (x := ⟨⟨x1, x2⟩, ⟨x3, x4⟩⟩)
    dsimp only
    simp only [same_self, Bool.not_true, ifBt, ifBf]
    generalize (⟨⟨x1, x2⟩, ⟨x3, x4⟩⟩ : Box) = X at *
    generalize (⟨⟨y1, y2⟩, ⟨y3, y4⟩⟩ : Box) = Y at *
    refine ⟨by omega, by omega, by omega, by omega, ifB_of (fun c1 => ⟨by omega, by omega, (by trivial), (by trivial)⟩) (fun c1 => ifB_of (fun c2 => ⟨by omega, by omega, (by trivial), (by trivial)⟩) (fun c2 => ⟨hc, ifB_of (fun _ => ⟨(by trivial), (by trivial)⟩) (fun c3 => ⟨by omega, ⟨(by trivial), (by trivial), (by trivial), (by trivial), by omega, by omega⟩, ?_⟩)⟩))⟩
    rintro ⟨b', c', list, wide, i⟩ ⟨h⟩
    dsimp only at h ⊢
    obtain ⟨rfl, rfl, rfl, rfl, i0, i1⟩ := h
    have g1 := not_false c1
    have g2 := not_false c2
    have g3 := not_false c3
    have e1 : broadAsk xs X = askF X xs := by simp [broadAsk, g1, g2]
    have e2 : broadAsk xs (boxBoth X Y) = askF (boxBoth X Y) xs := by simp [broadAsk, g1, both_ok g2 g3]
    have hlw := length_broadAsk (xs := xs) (x := boxBoth X Y)
    rw [e1] at i1 hla ⊢
    rw [e2] at hlw ⊢
    have w2 : IntKind.i64.wrap (i + 1) = i + 1 := wrap_small (by omega) (by omega)
    rw [w2]
    refine ifB_of (fun c4 => ?_) (fun _ => ⟨(by trivial), (by trivial)⟩)
    have c4 := of_decide_eq_true c4
    refine ⟨⟨i0, c4⟩, by omega, ifB_of (fun c5 => ?_) (fun c5 => ifB_of (fun c6 => ?_) (fun c6 => ⟨⟨(by trivial), (by trivial), (by trivial), (by trivial), by omega, by omega⟩, by omega⟩))⟩
    · exfalso
      have hm := ix_mem (T := .int) (xs := askF X xs) (i := i.toNat) (by omega)
      obtain ⟨y, hy, h1, h2⟩ := mem_askF.1 hm
      have := hasN_true.2 (mem_askF.2 ⟨y, hy, both_meets g2 g3 h1, h2⟩)
      rw [this] at c5
      cases c5
    · have c6 := of_decide_eq_true c6
      have w : IntKind.i64.wrap (i - 1) = i - 1 := wrap_small (by omega) (by omega)
      rw [w]
      refine ⟨⟨by omega, by omega⟩, ⟨i0, c4⟩, ifB_of (fun c7 => ?_) (fun _ => ⟨⟨(by trivial), (by trivial), (by trivial), (by trivial), by omega, by omega⟩, by omega⟩)⟩
      have c7 := of_decide_eq_true c7
      have := askF_asc g1 (x := X) (i := (i - 1).toNat) (by omega)
      rw [show (i - 1).toNat + 1 = i.toNat by omega] at this
      exact absurd c7 (Int.not_le.2 this))

end Go.Proofs.Yteeelenokjahnaa.Sym
