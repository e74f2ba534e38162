/-
  The law of pairs of boxes.
  No condition.
-/
import Derived.Test.YteeelenokjahnaaL3
namespace Go.Proofs.Yteeelenokjahnaa.Sym
open Go
set_option linter.unusedVariables false
set_option linter.unusedSimpArgs false
set_option maxRecDepth 100000

theorem meets_comm (a b : Box) : boxMeets a b = boxMeets b a := by
  unfold boxMeets
  cases decide (a.Low.X ≤ b.High.X) <;> cases decide (b.Low.X ≤ a.High.X) <;> cases decide (a.Low.Y ≤ b.High.Y) <;> cases decide (b.Low.Y ≤ a.High.Y) <;> rfl
theorem hasN_ask {xs : List Item} (h : itemsOk xs = true) {x : Box} {k : Nat} (hk : k < xs.length) : hasN (askF x xs) (Ty.ix .item xs k).Id = boxMeets x (Ty.ix .item xs k).Box := by
  have hm := ix_mem (T := .item) hk
  rw [meets_comm]
  cases q : boxMeets (Ty.ix .item xs k).Box x with
  | true => exact hasN_true.2 (mem_askF.2 ⟨_, hm, q, rfl⟩)
  | false =>
    cases q2 : hasN (askF x xs) (Ty.ix .item xs k).Id with
    | false => rfl
    | true =>
      obtain ⟨y, hy, h1, h2⟩ := mem_askF.1 (hasN_true.1 q2)
      obtain ⟨j, hj, e⟩ := mem_ix (T := .item) hy
      subst e
      have : j = k := by
        rcases Nat.lt_trichotomy j k with hlt | rfl | hlt
        · have := items_lt h hlt hk
          omega
        · rfl
        · have := items_lt h hlt hj
          omega
      subst this
      rw [h1] at q
      cases q
def LSpr1  : LS where
  S := List Int × List Item × List Pair × Int × Int
  live := [(3, [some .item]), (4, [some .pair]), (5, [none]), (6, [none])]
  shape := fun s => ([.ptr 2 0 0, .vec 3, .int .i64 s.2.2.2.1, .int .i64 s.2.2.2.2], [(false, .vec .byte s.1), (true, .vec .item s.2.1), (true, .box [.vec 1]), (true, .vec .pair s.2.2.1)])
  get := fun v h => match v, h with
    | [.ptr 2 0 0, .vec 3, .int .i64 n, .int .i64 i], [(false, .vec .byte b), (true, .vec .item xs), (true, .box [.vec 1]), (true, .vec .pair ps)] => some (b, xs, ps, n, i)
    | _, _ => none
  inv := fun s0 s => Holds (s.1 = s0.1 ∧ s.2.1 = s0.2.1 ∧ s.2.2.1 = s0.2.2.1 ∧ 0 ≤ s.2.2.2.2 ∧ s.2.2.2.2 ≤ s0.2.1.length ∧ 0 ≤ s.2.2.2.1 ∧ (∃ pre : List Pair, (pre.length : Int) = s.2.2.2.1 ∧ s0.2.2.1 = pre ++ pairsF (s0.2.1.drop s.2.2.2.2.toNat)))
  mu := fun s => ((s.2.1.length : Int) - s.2.2.2.2).toNat
  ok := by
    intro v h s hg
    try dsimp only at hg
    split at hg <;> cases hg
    rfl

def LSpr2  : LS where
  S := List Int × List Item × List Pair × Int × Int × List Int × Int
  live := [(3, [some .item]), (4, [some .pair]), (5, [none]), (6, [none]), (7, [some .int]), (8, [none])]
  shape := fun s => ([.ptr 2 0 0, .vec 3, .int .i64 s.2.2.2.1, .int .i64 s.2.2.2.2.1, .vec 4, .int .i64 s.2.2.2.2.2.2], [(false, .vec .byte s.1), (true, .vec .item s.2.1), (true, .box [.vec 1]), (true, .vec .pair s.2.2.1), (true, .vec .int s.2.2.2.2.2.1)])
  get := fun v h => match v, h with
    | [.ptr 2 0 0, .vec 3, .int .i64 n, .int .i64 i, .vec 4, .int .i64 k], [(false, .vec .byte b), (true, .vec .item xs), (true, .box [.vec 1]), (true, .vec .pair ps), (true, .vec .int met)] => some (b, xs, ps, n, i, met, k)
    | _, _ => none
  inv := fun s0 s => Holds (s.1 = s0.1 ∧ s.2.1 = s0.2.1 ∧ s.2.2.1 = s0.2.2.1 ∧ s.2.2.2.2.1 = s0.2.2.2.2.1 ∧ s.2.2.2.2.2.1 = s0.2.2.2.2.2.1 ∧ 0 ≤ s.2.2.2.2.2.2 ∧ s.2.2.2.2.2.2 ≤ s0.2.1.length ∧ 0 ≤ s.2.2.2.1 ∧ (∃ pre : List Pair, (pre.length : Int) = s.2.2.2.1 ∧ s0.2.2.1 = pre ++ (rowF (Ty.ix .item s0.2.1 s0.2.2.2.2.1.toNat) (s0.2.1.drop s.2.2.2.2.2.2.toNat) ++ pairsF (s0.2.1.drop (s0.2.2.2.2.1.toNat + 1)))))
  mu := fun s => ((s.2.1.length : Int) - s.2.2.2.2.2.2).toNat
  ok := by
    intro v h s hg
    try dsimp only at hg
    split at hg <;> cases hg
    rfl

def L_lawBroadPairs : Loops := fun n => match n with
  | 9 => some LSpr1
  | 13 => some LSpr2
  | _ => none
noncomputable def fs_lawBroadPairs : Fs := ⟨[], fun args H => match args, H with
  | [.vec 0], [(false, .vec .byte b)] => some ((some (LOk .byte b)), .bool (true), [(false, .vec .byte b)])
  | _, _ => none⟩

theorem vc_lawBroadPairs (b : List Int) (Q : SV → List Ent → Prop) :
    fnVC tt (look [(45, fs_DrawBroadPairs), (46, fs_implBroadPairs), (48, fs_specBroadPairs), (47, fs_lawsPqPairs), (16, fs_specBroadOk), (36, fs_implBroadAsk), (49, fs_implBoxMeets), (44, fs_lawsPqHas)]) (L_lawBroadPairs) Try.f9 [.vec 0] [(false, .vec .byte b)] Q =
    (ifB (decide ((↑(List.length b) : Int) > (1048576 : Int))) (Q (SV.bool true) [(false, Blk.vec Ty.byte b)]) (BytesOk b ∧ List.length (Subtype.val (g_DrawBroadPairs b)) ≤ (1048576 : Nat) ∧ List.length (Subtype.val (g_DrawBroadPairs b)) ≤ (1048576 : Nat) ∧ List.length (broadPairs (Subtype.val (g_DrawBroadPairs b))) ≤ (4611686018427387904 : Nat) ∧ ifB (!same (broadPairs (Subtype.val (g_DrawBroadPairs b))) (broadPairs (Subtype.val (g_DrawBroadPairs b)))) (List.length (Subtype.val (g_DrawBroadPairs b)) ≤ (1048576 : Nat) ∧ List.length (broadPairs (Subtype.val (g_DrawBroadPairs b))) ≤ (4611686018427387904 : Nat) ∧ Q (SV.bool (same (broadPairs (Subtype.val (g_DrawBroadPairs b))) (broadPairs (Subtype.val (g_DrawBroadPairs b))))) [(false, Blk.vec Ty.byte b)]) (List.length (Subtype.val (g_DrawBroadPairs b)) ≤ (1048576 : Nat) ∧ ifB (!itemsOk (Subtype.val (g_DrawBroadPairs b))) (List.length (Subtype.val (g_DrawBroadPairs b)) ≤ (1048576 : Nat) ∧ List.length (broadPairs (Subtype.val (g_DrawBroadPairs b))) ≤ (4611686018427387904 : Nat) ∧ Q (SV.bool (same (broadPairs (Subtype.val (g_DrawBroadPairs b))) (broadPairs (Subtype.val (g_DrawBroadPairs b))))) [(false, Blk.vec Ty.byte b)]) (Holds (b = b ∧ Subtype.val (g_DrawBroadPairs b) = Subtype.val (g_DrawBroadPairs b) ∧ broadPairs (Subtype.val (g_DrawBroadPairs b)) = broadPairs (Subtype.val (g_DrawBroadPairs b)) ∧ (0 : Int) ≤ (0 : Int) ∧ (0 : Int) ≤ (↑(List.length (Subtype.val (g_DrawBroadPairs b))) : Int) ∧ (0 : Int) ≤ (0 : Int) ∧ ∃ pre, (↑(List.length pre) : Int) = (0 : Int) ∧ broadPairs (Subtype.val (g_DrawBroadPairs b)) = pre ++ pairsF (List.drop (Int.toNat (0 : Int)) (Subtype.val (g_DrawBroadPairs b)))) ∧ ∀ (x : List Int × List Item × List Pair × Int × Int), Holds (Prod.fst x = b ∧ Prod.fst (Prod.snd x) = Subtype.val (g_DrawBroadPairs b) ∧ Prod.fst (Prod.snd (Prod.snd x)) = broadPairs (Subtype.val (g_DrawBroadPairs b)) ∧ (0 : Int) ≤ Prod.snd (Prod.snd (Prod.snd (Prod.snd x))) ∧ Prod.snd (Prod.snd (Prod.snd (Prod.snd x))) ≤ (↑(List.length (Subtype.val (g_DrawBroadPairs b))) : Int) ∧ (0 : Int) ≤ Prod.fst (Prod.snd (Prod.snd (Prod.snd x))) ∧ ∃ pre, (↑(List.length pre) : Int) = Prod.fst (Prod.snd (Prod.snd (Prod.snd x))) ∧ broadPairs (Subtype.val (g_DrawBroadPairs b)) = pre ++ pairsF (List.drop (Int.toNat (Prod.snd (Prod.snd (Prod.snd (Prod.snd x))))) (Subtype.val (g_DrawBroadPairs b)))) → ifB (decide (Prod.snd (Prod.snd (Prod.snd (Prod.snd x))) < (↑(List.length (Prod.fst (Prod.snd x))) : Int))) (((0 : Int) ≤ Prod.snd (Prod.snd (Prod.snd (Prod.snd x))) ∧ Prod.snd (Prod.snd (Prod.snd (Prod.snd x))) < (↑(List.length (Prod.fst (Prod.snd x))) : Int)) ∧ List.length (Prod.fst (Prod.snd x)) ≤ (1048576 : Nat) ∧ Holds (Prod.fst x = Prod.fst x ∧ Prod.fst (Prod.snd x) = Prod.fst (Prod.snd x) ∧ Prod.fst (Prod.snd (Prod.snd x)) = Prod.fst (Prod.snd (Prod.snd x)) ∧ Prod.snd (Prod.snd (Prod.snd (Prod.snd x))) = Prod.snd (Prod.snd (Prod.snd (Prod.snd x))) ∧ broadAsk (Prod.fst (Prod.snd x)) (Item.Box (Ty.ix Ty.item (Prod.fst (Prod.snd x)) (Int.toNat (Prod.snd (Prod.snd (Prod.snd (Prod.snd x))))))) = broadAsk (Prod.fst (Prod.snd x)) (Item.Box (Ty.ix Ty.item (Prod.fst (Prod.snd x)) (Int.toNat (Prod.snd (Prod.snd (Prod.snd (Prod.snd x))))))) ∧ (0 : Int) ≤ IntKind.wrap IntKind.i64 (Prod.snd (Prod.snd (Prod.snd (Prod.snd x))) + (1 : Int)) ∧ IntKind.wrap IntKind.i64 (Prod.snd (Prod.snd (Prod.snd (Prod.snd x))) + (1 : Int)) ≤ (↑(List.length (Prod.fst (Prod.snd x))) : Int) ∧ (0 : Int) ≤ Prod.fst (Prod.snd (Prod.snd (Prod.snd x))) ∧ ∃ pre, (↑(List.length pre) : Int) = Prod.fst (Prod.snd (Prod.snd (Prod.snd x))) ∧ Prod.fst (Prod.snd (Prod.snd x)) = pre ++ (rowF (Ty.ix Ty.item (Prod.fst (Prod.snd x)) (Int.toNat (Prod.snd (Prod.snd (Prod.snd (Prod.snd x)))))) (List.drop (Int.toNat (IntKind.wrap IntKind.i64 (Prod.snd (Prod.snd (Prod.snd (Prod.snd x))) + (1 : Int)))) (Prod.fst (Prod.snd x))) ++ pairsF (List.drop (Int.toNat (Prod.snd (Prod.snd (Prod.snd (Prod.snd x)))) + (1 : Nat)) (Prod.fst (Prod.snd x))))) ∧ ∀ (x_1 : List Int × List Item × List Pair × Int × Int × List Int × Int), Holds (Prod.fst x_1 = Prod.fst x ∧ Prod.fst (Prod.snd x_1) = Prod.fst (Prod.snd x) ∧ Prod.fst (Prod.snd (Prod.snd x_1)) = Prod.fst (Prod.snd (Prod.snd x)) ∧ Prod.fst (Prod.snd (Prod.snd (Prod.snd (Prod.snd x_1)))) = Prod.snd (Prod.snd (Prod.snd (Prod.snd x))) ∧ Prod.fst (Prod.snd (Prod.snd (Prod.snd (Prod.snd (Prod.snd x_1))))) = broadAsk (Prod.fst (Prod.snd x)) (Item.Box (Ty.ix Ty.item (Prod.fst (Prod.snd x)) (Int.toNat (Prod.snd (Prod.snd (Prod.snd (Prod.snd x))))))) ∧ (0 : Int) ≤ Prod.snd (Prod.snd (Prod.snd (Prod.snd (Prod.snd (Prod.snd x_1))))) ∧ Prod.snd (Prod.snd (Prod.snd (Prod.snd (Prod.snd (Prod.snd x_1))))) ≤ (↑(List.length (Prod.fst (Prod.snd x))) : Int) ∧ (0 : Int) ≤ Prod.fst (Prod.snd (Prod.snd (Prod.snd x_1))) ∧ ∃ pre, (↑(List.length pre) : Int) = Prod.fst (Prod.snd (Prod.snd (Prod.snd x_1))) ∧ Prod.fst (Prod.snd (Prod.snd x)) = pre ++ (rowF (Ty.ix Ty.item (Prod.fst (Prod.snd x)) (Int.toNat (Prod.snd (Prod.snd (Prod.snd (Prod.snd x)))))) (List.drop (Int.toNat (Prod.snd (Prod.snd (Prod.snd (Prod.snd (Prod.snd (Prod.snd x_1))))))) (Prod.fst (Prod.snd x))) ++ pairsF (List.drop (Int.toNat (Prod.snd (Prod.snd (Prod.snd (Prod.snd x)))) + (1 : Nat)) (Prod.fst (Prod.snd x))))) → ifB (decide (Prod.snd (Prod.snd (Prod.snd (Prod.snd (Prod.snd (Prod.snd x_1))))) < (↑(List.length (Prod.fst (Prod.snd x_1))) : Int))) (((0 : Int) ≤ Prod.fst (Prod.snd (Prod.snd (Prod.snd (Prod.snd x_1)))) ∧ Prod.fst (Prod.snd (Prod.snd (Prod.snd (Prod.snd x_1)))) < (↑(List.length (Prod.fst (Prod.snd x_1))) : Int)) ∧ ((0 : Int) ≤ Prod.snd (Prod.snd (Prod.snd (Prod.snd (Prod.snd (Prod.snd x_1))))) ∧ Prod.snd (Prod.snd (Prod.snd (Prod.snd (Prod.snd (Prod.snd x_1))))) < (↑(List.length (Prod.fst (Prod.snd x_1))) : Int)) ∧ ((0 : Int) ≤ Prod.snd (Prod.snd (Prod.snd (Prod.snd (Prod.snd (Prod.snd x_1))))) ∧ Prod.snd (Prod.snd (Prod.snd (Prod.snd (Prod.snd (Prod.snd x_1))))) < (↑(List.length (Prod.fst (Prod.snd x_1))) : Int)) ∧ List.length (Prod.fst (Prod.snd (Prod.snd (Prod.snd (Prod.snd (Prod.snd x_1)))))) ≤ (1048576 : Nat) ∧ ifB (!(boxOk (Item.Box (Ty.ix Ty.item (Prod.fst (Prod.snd x_1)) (Int.toNat (Prod.fst (Prod.snd (Prod.snd (Prod.snd (Prod.snd x_1)))))))) && boxOk (Item.Box (Ty.ix Ty.item (Prod.fst (Prod.snd x_1)) (Int.toNat (Prod.snd (Prod.snd (Prod.snd (Prod.snd (Prod.snd (Prod.snd x_1))))))))) && boxMeets (Item.Box (Ty.ix Ty.item (Prod.fst (Prod.snd x_1)) (Int.toNat (Prod.fst (Prod.snd (Prod.snd (Prod.snd (Prod.snd x_1)))))))) (Item.Box (Ty.ix Ty.item (Prod.fst (Prod.snd x_1)) (Int.toNat (Prod.snd (Prod.snd (Prod.snd (Prod.snd (Prod.snd (Prod.snd x_1)))))))))) == hasN (Prod.fst (Prod.snd (Prod.snd (Prod.snd (Prod.snd (Prod.snd x_1)))))) (Item.Id (Ty.ix Ty.item (Prod.fst (Prod.snd x_1)) (Int.toNat (Prod.snd (Prod.snd (Prod.snd (Prod.snd (Prod.snd (Prod.snd x_1)))))))))) (Q (SV.bool false) [(false, Blk.vec Ty.byte (Prod.fst x_1))]) (ifB (boxOk (Item.Box (Ty.ix Ty.item (Prod.fst (Prod.snd x_1)) (Int.toNat (Prod.fst (Prod.snd (Prod.snd (Prod.snd (Prod.snd x_1)))))))) && boxOk (Item.Box (Ty.ix Ty.item (Prod.fst (Prod.snd x_1)) (Int.toNat (Prod.snd (Prod.snd (Prod.snd (Prod.snd (Prod.snd (Prod.snd x_1))))))))) && boxMeets (Item.Box (Ty.ix Ty.item (Prod.fst (Prod.snd x_1)) (Int.toNat (Prod.fst (Prod.snd (Prod.snd (Prod.snd (Prod.snd x_1)))))))) (Item.Box (Ty.ix Ty.item (Prod.fst (Prod.snd x_1)) (Int.toNat (Prod.snd (Prod.snd (Prod.snd (Prod.snd (Prod.snd (Prod.snd x_1)))))))))) (ifB (decide (Prod.fst (Prod.snd (Prod.snd (Prod.snd x_1))) ≥ (↑(List.length (Prod.fst (Prod.snd (Prod.snd x_1)))) : Int))) (Q (SV.bool false) [(false, Blk.vec Ty.byte (Prod.fst x_1))]) (((0 : Int) ≤ Prod.fst (Prod.snd (Prod.snd (Prod.snd x_1))) ∧ Prod.fst (Prod.snd (Prod.snd (Prod.snd x_1))) < (↑(List.length (Prod.fst (Prod.snd (Prod.snd x_1)))) : Int)) ∧ ((0 : Int) ≤ Prod.fst (Prod.snd (Prod.snd (Prod.snd (Prod.snd x_1)))) ∧ Prod.fst (Prod.snd (Prod.snd (Prod.snd (Prod.snd x_1)))) < (↑(List.length (Prod.fst (Prod.snd x_1))) : Int)) ∧ ((0 : Int) ≤ Prod.snd (Prod.snd (Prod.snd (Prod.snd (Prod.snd (Prod.snd x_1))))) ∧ Prod.snd (Prod.snd (Prod.snd (Prod.snd (Prod.snd (Prod.snd x_1))))) < (↑(List.length (Prod.fst (Prod.snd x_1))) : Int)) ∧ ifB (!(Pair.A (Ty.ix Ty.pair (Prod.fst (Prod.snd (Prod.snd x_1))) (Int.toNat (Prod.fst (Prod.snd (Prod.snd (Prod.snd x_1)))))) == Item.Id (Ty.ix Ty.item (Prod.fst (Prod.snd x_1)) (Int.toNat (Prod.fst (Prod.snd (Prod.snd (Prod.snd (Prod.snd x_1))))))) && Pair.B (Ty.ix Ty.pair (Prod.fst (Prod.snd (Prod.snd x_1))) (Int.toNat (Prod.fst (Prod.snd (Prod.snd (Prod.snd x_1)))))) == Item.Id (Ty.ix Ty.item (Prod.fst (Prod.snd x_1)) (Int.toNat (Prod.snd (Prod.snd (Prod.snd (Prod.snd (Prod.snd (Prod.snd x_1)))))))))) (Q (SV.bool false) [(false, Blk.vec Ty.byte (Prod.fst x_1))]) (Holds (Prod.fst x_1 = Prod.fst x ∧ Prod.fst (Prod.snd x_1) = Prod.fst (Prod.snd x) ∧ Prod.fst (Prod.snd (Prod.snd x_1)) = Prod.fst (Prod.snd (Prod.snd x)) ∧ Prod.fst (Prod.snd (Prod.snd (Prod.snd (Prod.snd x_1)))) = Prod.snd (Prod.snd (Prod.snd (Prod.snd x))) ∧ Prod.fst (Prod.snd (Prod.snd (Prod.snd (Prod.snd (Prod.snd x_1))))) = broadAsk (Prod.fst (Prod.snd x)) (Item.Box (Ty.ix Ty.item (Prod.fst (Prod.snd x)) (Int.toNat (Prod.snd (Prod.snd (Prod.snd (Prod.snd x))))))) ∧ (0 : Int) ≤ IntKind.wrap IntKind.i64 (Prod.snd (Prod.snd (Prod.snd (Prod.snd (Prod.snd (Prod.snd x_1))))) + (1 : Int)) ∧ IntKind.wrap IntKind.i64 (Prod.snd (Prod.snd (Prod.snd (Prod.snd (Prod.snd (Prod.snd x_1))))) + (1 : Int)) ≤ (↑(List.length (Prod.fst (Prod.snd x))) : Int) ∧ (0 : Int) ≤ IntKind.wrap IntKind.i64 (Prod.fst (Prod.snd (Prod.snd (Prod.snd x_1))) + (1 : Int)) ∧ ∃ pre, (↑(List.length pre) : Int) = IntKind.wrap IntKind.i64 (Prod.fst (Prod.snd (Prod.snd (Prod.snd x_1))) + (1 : Int)) ∧ Prod.fst (Prod.snd (Prod.snd x)) = pre ++ (rowF (Ty.ix Ty.item (Prod.fst (Prod.snd x)) (Int.toNat (Prod.snd (Prod.snd (Prod.snd (Prod.snd x)))))) (List.drop (Int.toNat (IntKind.wrap IntKind.i64 (Prod.snd (Prod.snd (Prod.snd (Prod.snd (Prod.snd (Prod.snd x_1))))) + (1 : Int)))) (Prod.fst (Prod.snd x))) ++ pairsF (List.drop (Int.toNat (Prod.snd (Prod.snd (Prod.snd (Prod.snd x)))) + (1 : Nat)) (Prod.fst (Prod.snd x))))) ∧ Int.toNat ((↑(List.length (Prod.fst (Prod.snd x_1))) : Int) - IntKind.wrap IntKind.i64 (Prod.snd (Prod.snd (Prod.snd (Prod.snd (Prod.snd (Prod.snd x_1))))) + (1 : Int))) < Int.toNat ((↑(List.length (Prod.fst (Prod.snd x_1))) : Int) - Prod.snd (Prod.snd (Prod.snd (Prod.snd (Prod.snd (Prod.snd x_1))))))))) (Holds (Prod.fst x_1 = Prod.fst x ∧ Prod.fst (Prod.snd x_1) = Prod.fst (Prod.snd x) ∧ Prod.fst (Prod.snd (Prod.snd x_1)) = Prod.fst (Prod.snd (Prod.snd x)) ∧ Prod.fst (Prod.snd (Prod.snd (Prod.snd (Prod.snd x_1)))) = Prod.snd (Prod.snd (Prod.snd (Prod.snd x))) ∧ Prod.fst (Prod.snd (Prod.snd (Prod.snd (Prod.snd (Prod.snd x_1))))) = broadAsk (Prod.fst (Prod.snd x)) (Item.Box (Ty.ix Ty.item (Prod.fst (Prod.snd x)) (Int.toNat (Prod.snd (Prod.snd (Prod.snd (Prod.snd x))))))) ∧ (0 : Int) ≤ IntKind.wrap IntKind.i64 (Prod.snd (Prod.snd (Prod.snd (Prod.snd (Prod.snd (Prod.snd x_1))))) + (1 : Int)) ∧ IntKind.wrap IntKind.i64 (Prod.snd (Prod.snd (Prod.snd (Prod.snd (Prod.snd (Prod.snd x_1))))) + (1 : Int)) ≤ (↑(List.length (Prod.fst (Prod.snd x))) : Int) ∧ (0 : Int) ≤ Prod.fst (Prod.snd (Prod.snd (Prod.snd x_1))) ∧ ∃ pre, (↑(List.length pre) : Int) = Prod.fst (Prod.snd (Prod.snd (Prod.snd x_1))) ∧ Prod.fst (Prod.snd (Prod.snd x)) = pre ++ (rowF (Ty.ix Ty.item (Prod.fst (Prod.snd x)) (Int.toNat (Prod.snd (Prod.snd (Prod.snd (Prod.snd x)))))) (List.drop (Int.toNat (IntKind.wrap IntKind.i64 (Prod.snd (Prod.snd (Prod.snd (Prod.snd (Prod.snd (Prod.snd x_1))))) + (1 : Int)))) (Prod.fst (Prod.snd x))) ++ pairsF (List.drop (Int.toNat (Prod.snd (Prod.snd (Prod.snd (Prod.snd x)))) + (1 : Nat)) (Prod.fst (Prod.snd x))))) ∧ Int.toNat ((↑(List.length (Prod.fst (Prod.snd x_1))) : Int) - IntKind.wrap IntKind.i64 (Prod.snd (Prod.snd (Prod.snd (Prod.snd (Prod.snd (Prod.snd x_1))))) + (1 : Int))) < Int.toNat ((↑(List.length (Prod.fst (Prod.snd x_1))) : Int) - Prod.snd (Prod.snd (Prod.snd (Prod.snd (Prod.snd (Prod.snd x_1))))))))) (Holds (Prod.fst x_1 = b ∧ Prod.fst (Prod.snd x_1) = Subtype.val (g_DrawBroadPairs b) ∧ Prod.fst (Prod.snd (Prod.snd x_1)) = broadPairs (Subtype.val (g_DrawBroadPairs b)) ∧ (0 : Int) ≤ IntKind.wrap IntKind.i64 (Prod.fst (Prod.snd (Prod.snd (Prod.snd (Prod.snd x_1)))) + (1 : Int)) ∧ IntKind.wrap IntKind.i64 (Prod.fst (Prod.snd (Prod.snd (Prod.snd (Prod.snd x_1)))) + (1 : Int)) ≤ (↑(List.length (Subtype.val (g_DrawBroadPairs b))) : Int) ∧ (0 : Int) ≤ Prod.fst (Prod.snd (Prod.snd (Prod.snd x_1))) ∧ ∃ pre, (↑(List.length pre) : Int) = Prod.fst (Prod.snd (Prod.snd (Prod.snd x_1))) ∧ broadPairs (Subtype.val (g_DrawBroadPairs b)) = pre ++ pairsF (List.drop (Int.toNat (IntKind.wrap IntKind.i64 (Prod.fst (Prod.snd (Prod.snd (Prod.snd (Prod.snd x_1)))) + (1 : Int)))) (Subtype.val (g_DrawBroadPairs b)))) ∧ Int.toNat ((↑(List.length (Prod.fst (Prod.snd x_1))) : Int) - IntKind.wrap IntKind.i64 (Prod.fst (Prod.snd (Prod.snd (Prod.snd (Prod.snd x_1)))) + (1 : Int))) < Int.toNat ((↑(List.length (Prod.fst (Prod.snd x))) : Int) - Prod.snd (Prod.snd (Prod.snd (Prod.snd x)))))) (Q (SV.bool (Prod.fst (Prod.snd (Prod.snd (Prod.snd x))) == (↑(List.length (Prod.fst (Prod.snd (Prod.snd x)))) : Int))) [(false, Blk.vec Ty.byte (Prod.fst x))]))))) := by kernel_rfl

theorem ok_lawBroadPairs : FsOk Try.prog 9 fs_lawBroadPairs := fsOk_of tt_ok (tabFs_cons ok_DrawBroadPairs (tabFs_cons ok_implBroadPairs (tabFs_cons ok_specBroadPairs (tabFs_cons ok_lawsPqPairs (tabFs_cons ok_specBroadOk (tabFs_cons ok_implBroadAsk (tabFs_cons ok_implBoxMeets (tabFs_cons ok_lawsPqHas tabFs_nil)))))))) mixed Try.func9 (by kernel_rfl) (by kernel_rfl) (by
    intro args LL p r HH h hp
    unfold fs_lawBroadPairs at h
    dsimp only at h
    split at h
    case h_2 => cases h
    rename_i b
    simp only [Option.some.injEq, Prod.mk.injEq] at h
    obtain ⟨rfl, rfl, rfl⟩ := h
    refine ⟨by simp [Form, stays], (L_lawBroadPairs), ?_⟩
    rw [vc_lawBroadPairs]
    try dsimp only
    have hb := bytesOk_of (hp _ rfl)
    refine ifB_of (fun c => ⟨rfl, rfl⟩) (fun c => ⟨hb, ?_⟩)
    generalize g_DrawBroadPairs b = z
    obtain ⟨xs, hr⟩ := z
    have hr : xs.length ≤ 25 := hr
    dsimp only
    simp only [same_self, Bool.not_true, ifBt, ifBf]
    have hbp := length_broadPairs (xs := xs)
    refine ⟨by omega, by omega, by omega, by omega, ifB_of (fun c1 => ⟨by omega, by omega, (by trivial), (by trivial)⟩) (fun c1 => ?_)⟩
    have g1 := not_false c1
    have hps : broadPairs xs = pairsF xs := by unfold broadPairs; rw [g1]; rfl
    have hok := itemsOk_iff.1 g1
    refine ⟨⟨(by trivial), (by trivial), (by trivial), by omega, by omega, by omega, [], (by trivial), hps⟩, ?_⟩
    rintro ⟨b1, xs1, ps, n, i⟩ ⟨h⟩
    dsimp only at h ⊢
    obtain ⟨e1, e2, e3, i0, i1, n0, pre, hpre, hl⟩ := h
    subst e1 e2 e3
    have w : IntKind.i64.wrap (i + 1) = i + 1 := wrap_small (by omega) (by omega)
    refine ifB_of (fun c2 => ?_) (fun c2 => ?_)
    · have c2v := of_decide_eq_true c2
      have hi : i.toNat < xs1.length := by omega
      have ht : (i + 1).toNat = i.toNat + 1 := by omega
      have boxesOk : ∀ e, e < xs1.length → boxOk (Ty.ix .item xs1 e).Box = true := fun e he => by
        have := hok.2.1 _ he
        simp only [itemOk, Bool.and_eq_true] at this
        exact this.2
      have hm : broadAsk xs1 (Ty.ix .item xs1 i.toNat).Box = askF (Ty.ix .item xs1 i.toNat).Box xs1 := by simp [broadAsk, g1, boxesOk _ hi]
      rw [w, ht, hm]
      refine ⟨⟨i0, c2v⟩, by omega, ⟨(by trivial), (by trivial), (by trivial), (by trivial), (by trivial), by omega, by omega, n0, pre, hpre, ?_⟩, ?_⟩
      · rw [hl, pairsF_drop hi]
      · rintro ⟨b2, xs2, ps2, n2, i2, met, k⟩ ⟨h⟩
        dsimp only at h ⊢
        obtain ⟨e1, e2, e3, e4, e5, k0, k1, m0, pre2, hpre2, hl2⟩ := h
        subst e1 e2 e3 e4 e5
        have hlen2 := congrArg List.length hl2
        simp only [List.length_append] at hlen2
        refine ifB_of (fun c3 => ?_) (fun c3 => ?_)
        · have c3 := of_decide_eq_true c3
          have hk : k.toNat < xs2.length := by omega
          have wk : IntKind.i64.wrap (k + 1) = k + 1 := wrap_small (by omega) (by omega)
          have htk : (k + 1).toNat = k.toNat + 1 := by omega
          have hla := length_askF (Ty.ix .item xs2 i2.toNat).Box xs2
          have hrow := rowF_drop (x := Ty.ix .item xs2 i2.toNat) hk
          rw [wk, htk, hasN_ask g1 hk, boxesOk _ hi, boxesOk _ hk]
          simp only [Bool.true_and, beq_self_eq_true, Bool.not_true, ifBf]
          refine ⟨⟨i0, c2v⟩, ⟨k0, c3⟩, ⟨k0, c3⟩, by omega, ?_⟩
          cases q : boxMeets (Ty.ix .item xs2 i2.toNat).Box (Ty.ix .item xs2 k.toNat).Box with
          | false =>
            rw [ifBf]
            exact ⟨⟨(by trivial), (by trivial), (by trivial), (by trivial), (by trivial), by omega, by omega, m0, pre2, hpre2, by rw [hl2, hrow, q]; rfl⟩, by omega⟩
          | true =>
            rw [ifBt]
            have hx : broadPairs xs2 = (pre2 ++ [⟨(Ty.ix .item xs2 i2.toNat).Id, (Ty.ix .item xs2 k.toNat).Id⟩]) ++ (rowF (Ty.ix .item xs2 i2.toNat) (xs2.drop (k.toNat + 1)) ++ pairsF (xs2.drop (i2.toNat + 1))) := by
              rw [hl2, hrow, q]
              simp
            have hnl := congrArg List.length hx
            simp only [List.length_append, List.length_cons, List.length_nil] at hnl
            have hix : Ty.ix .pair (broadPairs xs2) n2.toNat = ⟨(Ty.ix .item xs2 i2.toNat).Id, (Ty.ix .item xs2 k.toNat).Id⟩ := by
              refine ix_eq (T := .pair) ?_
              rw [hx, show n2.toNat = pre2.length by omega, List.append_assoc, List.getElem?_append_right (Nat.le_refl _)]
              simp
            have wn : IntKind.i64.wrap (n2 + 1) = n2 + 1 := wrap_small (by omega) (by omega)
            refine ifB_of (fun c4 => ?_) (fun c4 => ⟨⟨m0, by omega⟩, ⟨i0, c2v⟩, ⟨k0, c3⟩, ?_⟩)
            · have c4 := of_decide_eq_true c4
              omega
            · rw [hix, wn]
              simp only [beq_self_eq_true, Bool.and_self, Bool.not_true, ifBf]
              exact ⟨⟨(by trivial), (by trivial), (by trivial), (by trivial), (by trivial), by omega, by omega, by omega, pre2 ++ [⟨(Ty.ix .item xs2 i2.toNat).Id, (Ty.ix .item xs2 k.toNat).Id⟩], by simp; omega, hx⟩, by omega⟩
        · have c3 := of_decide_eq_false c3
          rw [drop_end (by omega)] at hl2
          rw [w, ht]
          exact ⟨⟨(by trivial), (by trivial), (by trivial), by omega, by omega, m0, pre2, hpre2, hl2⟩, by omega⟩
    · have c2 := of_decide_eq_false c2
      rw [drop_end (by omega)] at hl
      have hn := congrArg List.length hl
      simp only [List.length_append, pairsF, List.length_nil] at hn
      have : n = ((broadPairs xs1).length : Int) := by omega
      rw [this]
      simp)

end Go.Proofs.Yteeelenokjahnaa.Sym
