/-
  The law of pairs that are new.
  No condition.
-/
import Derived.Test.YtgdpaijphaeimaaL2
import Derived.Test.YtgdpaijphaeimaaG5
namespace Go.Proofs.Ytgdpaijphaeimaa.Sym
open Go
set_option linter.unusedVariables false
set_option linter.unusedSimpArgs false
set_option maxRecDepth 100000

noncomputable def nPut (b : List Int) (p : Int) (ys : List Item) (y : Box) : Int × List Item := (p + 1, bif (putF ys ⟨pk b p 12, y⟩).2 then (putF ys ⟨pk b p 12, y⟩).1 else ys)
noncomputable def nStep (b : List Int) (p : Int) (ys : List Item) : Int × List Item :=
  bif decide ((ys.length : Int) > 0) then
    bif decide (pk b (p + 6) 3 > 0) then nPut b (p + 6 + 1 + 1) ys (Ty.ix .item ys (pk b (p + 6 + 1) ys.length).toNat).Box
    else nPut b (p + 6 + 1) ys (bx b p)
  else nPut b (p + 6) ys (bx b p)
noncomputable def nGo (b : List Int) : Nat → Int → List Item → Int × List Item
  | 0, p, ys => (p, ys)
  | k + 1, p, ys => nGo b k (nStep b p ys).1 (nStep b p ys).2
theorem nPut_spec {b : List Int} {p : Int} {ys : List Item} {y : Box} (h : ys.length ≤ 25) : (nPut b p ys y).1 = p + 1 ∧ (nPut b p ys y).2.length ≤ 25 := by
  refine ⟨rfl, ?_⟩
  unfold nPut
  have hx : ∀ x : Item, (putF ys x).1.length ≤ 25 := fun x => by
    cases q : itemsOk ys with
    | true =>
      have := itemsOk_len (itemsOk_putF (x := x) q)
      omega
    | false => simp [putF, q]
  cases (putF ys ⟨pk b p 12, y⟩).2 with
  | true => exact hx _
  | false => exact h
theorem nStep_spec {b : List Int} {p : Int} {ys : List Item} (h : ys.length ≤ 25) : p ≤ (nStep b p ys).1 ∧ (nStep b p ys).1 ≤ p + 9 ∧ (nStep b p ys).2.length ≤ 25 := by
  unfold nStep
  cases decide ((ys.length : Int) > 0) with
  | false =>
    simp only [cond_false]
    have := nPut_spec (b := b) (p := p + 6) (y := bx b p) h
    omega
  | true =>
    simp only [cond_true]
    cases decide (pk b (p + 6) 3 > 0) with
    | false =>
      simp only [cond_false]
      have := nPut_spec (b := b) (p := p + 6 + 1) (y := bx b p) h
      omega
    | true =>
      simp only [cond_true]
      have := nPut_spec (b := b) (p := p + 6 + 1 + 1) (y := (Ty.ix .item ys (pk b (p + 6 + 1) ys.length).toNat).Box) h
      omega
theorem nGo_spec {b : List Int} : ∀ {k : Nat} {p : Int} {ys : List Item}, ys.length ≤ 25 → (nGo b k p ys).2.length ≤ 25
  | 0, p, ys, h => h
  | k + 1, p, ys, h => nGo_spec (k := k) (nStep_spec h).2.2
theorem nGo_next {b : List Int} {p q n n0 top : Int} {ys zs : List Item} {R : Int × List Item} (e : nStep b p ys = (q, zs)) (h1 : 0 < n) (h2 : n ≤ n0) (h3 : 0 ≤ p) (h4 : p + 9 * n ≤ top) (hn : n0 ≤ 100) (h5 : ys.length ≤ 25) (h6 : nGo b n.toNat p ys = R) :
    (0 ≤ IntKind.i64.wrap (n - 1) ∧ IntKind.i64.wrap (n - 1) ≤ n0 ∧ 0 ≤ q ∧ q + 9 * IntKind.i64.wrap (n - 1) ≤ top ∧ zs.length ≤ 25 ∧ nGo b (IntKind.i64.wrap (n - 1)).toNat q zs = R) ∧ (IntKind.i64.wrap (n - 1)).toNat < n.toNat := by
  obtain ⟨s1, s2, s3⟩ := nStep_spec (b := b) (p := p) h5
  rw [e] at s1 s2 s3
  dsimp only at s1 s2 s3
  have w : IntKind.i64.wrap (n - 1) = n - 1 := wrap_small (by omega) (by omega)
  rw [w]
  refine ⟨⟨by omega, by omega, by omega, by omega, s3, ?_⟩, by omega⟩
  rw [← h6]
  have : n.toNat = (n - 1).toNat + 1 := by omega
  rw [this]
  simp only [nGo, e]
noncomputable def nDraw (b : List Int) : List Item × List Item :=
  let q := (b.drop 0).take (min b.length 2000)
  let a := g_l11AnyBroad q 0
  (a.1.1, (nGo q (W (1 + pk q (0 + ((a.2 % 401 : Nat) : Int)) 4)).toNat (0 + ((a.2 % 401 : Nat) : Int) + 1) a.1.1).2)
def LSnew  : LS where
  S := List Int × List Item × List Item × (Nat × Int) × List Item × List Item × Int
  live := [(2, [some .item]), (3, [some .item]), (4, [none]), (5, [some .item]), (6, [some .item]), (7, [none])]
  shape := fun s => ([.ptr 2 0 0, .ptr 4 0 0, .ptr 5 0 0, .ptr 7 0 0, .ptr 9 0 0, .int .i64 s.2.2.2.2.2.2], [(false, .vec .byte s.1), (true, .vec .item s.2.1), (true, .box [.vec 1]), (true, .vec .item s.2.2.1), (true, .box [.vec 3]), (true, .box [.sl 0 0 s.2.2.2.1.1, .int .i64 s.2.2.2.1.2]), (true, .vec .item s.2.2.2.2.1), (true, .box [.vec 6]), (true, .vec .item s.2.2.2.2.2.1), (true, .box [.vec 8])])
  get := fun v h => match v, h with
    | [.ptr 2 0 0, .ptr 4 0 0, .ptr 5 0 0, .ptr 7 0 0, .ptr 9 0 0, .int .i64 n], [(false, .vec .byte b), (true, .vec .item z), (true, .box [.vec 1]), (true, .vec .item y), (true, .box [.vec 3]), (true, .box [.sl 0 0 r_0, .int .i64 r_1]), (true, .vec .item xs), (true, .box [.vec 6]), (true, .vec .item ys), (true, .box [.vec 8])] => some (b, z, y, (r_0, r_1), xs, ys, n)
    | _, _ => none
  inv := fun s0 s => Holds (s.1 = s0.1 ∧ s.2.2.2.1.1 = s0.2.2.2.1.1 ∧ s.2.2.2.2.1 = s0.2.2.2.2.1 ∧ (0 ≤ s.2.2.2.2.2.2 ∧ s.2.2.2.2.2.2 ≤ s0.2.2.2.2.2.2 ∧ 0 ≤ s.2.2.2.1.2 ∧ s.2.2.2.1.2 + 9 * s.2.2.2.2.2.2 ≤ s0.2.2.2.1.2 + 9 * s0.2.2.2.2.2.2 ∧ s.2.2.2.2.2.1.length ≤ 25 ∧ nGo ((s0.1.drop 0).take s0.2.2.2.1.1) s.2.2.2.2.2.2.toNat s.2.2.2.1.2 s.2.2.2.2.2.1 = nGo ((s0.1.drop 0).take s0.2.2.2.1.1) s0.2.2.2.2.2.2.toNat s0.2.2.2.1.2 s0.2.2.2.2.2.1))
  mu := fun s => s.2.2.2.2.2.2.toNat
  ok := by
    intro v h s hg
    try dsimp only at hg
    split at hg <;> cases hg
    rfl

def L_drawNew : Loops := fun n => match n with
  | 5 => some LSnew
  | _ => none
noncomputable def fs_DrawBroadNew : Fs := ⟨[], fun args H => match args, H with
  | [.vec 0], [(false, .vec .byte b)] => some ((some (BytesOk b)), .tup [.agg [.vec 1], .agg [.vec 2]], [(false, .vec .byte b), (true, .vec .item (nDraw b).1), (true, .vec .item (nDraw b).2)])
  | _, _ => none⟩

theorem vc_DrawBroadNew (b : List Int) (Q : SV → List Ent → Prop) :
    fnVC tt (look [(72, fs_l1Open), (73, fs_l11AnyBroad), (74, fs_l4Copy), (75, fs_rdPick), (76, fs_l11Box), (46, fs_specBroadPut)]) (L_drawNew) Try.f15 [.vec 0] [(false, .vec .byte b)] Q =
    (let A1_ := (List.take (min (List.length b) (2000 : Nat)) (List.drop (0 : Nat) b)); let A4_ := (Prod.fst (g_l11AnyBroad A1_ (0 : Int))); let A3_ := (↑(Prod.snd (g_l11AnyBroad A1_ (0 : Int)) % (401 : Nat)) : Int); let A6_ := ((0 : Int) + A3_ + (1 : Int)); let A2_ := ((1 : Int) + g_rdPick A1_ ((0 : Int) + A3_) (4 : Int) % (4 : Int)); let A5_ := (Int.toNat (IntKind.wrap IntKind.i64 A2_)); ((0 : Int) ≤ (0 : Int) ∧ (0 : Int) + (400 : Int) ≤ (1000000000000 : Int) ∧ BytesOk A1_) ∧ List.length (Subtype.val A4_) ≤ (1048576 : Nat) ∧ ((0 : Int) ≤ (0 : Int) + A3_ ∧ (0 : Int) + A3_ + (1 : Int) ≤ (1000000000000 : Int) ∧ BytesOk A1_ ∧ (1 : Int) ≤ (4 : Int)) ∧ Holds (b = b ∧ min (List.length b) (2000 : Nat) = min (List.length b) (2000 : Nat) ∧ Subtype.val A4_ = Subtype.val A4_ ∧ (0 : Int) ≤ IntKind.wrap IntKind.i64 A2_ ∧ IntKind.wrap IntKind.i64 A2_ ≤ IntKind.wrap IntKind.i64 A2_ ∧ (0 : Int) ≤ (0 : Int) + A3_ + (1 : Int) ∧ (0 : Int) + A3_ + (1 : Int) + (9 : Int) * IntKind.wrap IntKind.i64 A2_ ≤ (0 : Int) + A3_ + (1 : Int) + (9 : Int) * IntKind.wrap IntKind.i64 A2_ ∧ List.length (Subtype.val A4_) ≤ (25 : Nat) ∧ nGo A1_ A5_ A6_ (Subtype.val A4_) = nGo A1_ A5_ A6_ (Subtype.val A4_)) ∧ ∀ (x : List Int × List Item × List Item × (Nat × Int) × List Item × List Item × Int), Holds (Prod.fst x = b ∧ Prod.fst (Prod.fst (Prod.snd (Prod.snd (Prod.snd x)))) = min (List.length b) (2000 : Nat) ∧ Prod.fst (Prod.snd (Prod.snd (Prod.snd (Prod.snd x)))) = Subtype.val A4_ ∧ (0 : Int) ≤ Prod.snd (Prod.snd (Prod.snd (Prod.snd (Prod.snd (Prod.snd x))))) ∧ Prod.snd (Prod.snd (Prod.snd (Prod.snd (Prod.snd (Prod.snd x))))) ≤ IntKind.wrap IntKind.i64 A2_ ∧ (0 : Int) ≤ Prod.snd (Prod.fst (Prod.snd (Prod.snd (Prod.snd x)))) ∧ Prod.snd (Prod.fst (Prod.snd (Prod.snd (Prod.snd x)))) + (9 : Int) * Prod.snd (Prod.snd (Prod.snd (Prod.snd (Prod.snd (Prod.snd x))))) ≤ (0 : Int) + A3_ + (1 : Int) + (9 : Int) * IntKind.wrap IntKind.i64 A2_ ∧ List.length (Prod.fst (Prod.snd (Prod.snd (Prod.snd (Prod.snd (Prod.snd x)))))) ≤ (25 : Nat) ∧ nGo A1_ (Int.toNat (Prod.snd (Prod.snd (Prod.snd (Prod.snd (Prod.snd (Prod.snd x))))))) (Prod.snd (Prod.fst (Prod.snd (Prod.snd (Prod.snd x))))) (Prod.fst (Prod.snd (Prod.snd (Prod.snd (Prod.snd (Prod.snd x)))))) = nGo A1_ A5_ A6_ (Subtype.val A4_)) → ifB (decide (Prod.snd (Prod.snd (Prod.snd (Prod.snd (Prod.snd (Prod.snd x))))) > (0 : Int))) (((0 : Int) ≤ Prod.snd (Prod.fst (Prod.snd (Prod.snd (Prod.snd x)))) ∧ Prod.snd (Prod.fst (Prod.snd (Prod.snd (Prod.snd x)))) + (6 : Int) ≤ (1000000000000 : Int) ∧ BytesOk (List.take (Prod.fst (Prod.fst (Prod.snd (Prod.snd (Prod.snd x))))) (List.drop (0 : Nat) (Prod.fst x)))) ∧ ifB (decide ((↑(List.length (Prod.fst (Prod.snd (Prod.snd (Prod.snd (Prod.snd (Prod.snd x))))))) : Int) > (0 : Int))) (((0 : Int) ≤ Prod.snd (Prod.fst (Prod.snd (Prod.snd (Prod.snd x)))) + (6 : Int) ∧ Prod.snd (Prod.fst (Prod.snd (Prod.snd (Prod.snd x)))) + (6 : Int) + (1 : Int) ≤ (1000000000000 : Int) ∧ BytesOk (List.take (Prod.fst (Prod.fst (Prod.snd (Prod.snd (Prod.snd x))))) (List.drop (0 : Nat) (Prod.fst x))) ∧ (1 : Int) ≤ (3 : Int)) ∧ ifB (decide (g_rdPick (List.take (Prod.fst (Prod.fst (Prod.snd (Prod.snd (Prod.snd x))))) (List.drop (0 : Nat) (Prod.fst x))) (Prod.snd (Prod.fst (Prod.snd (Prod.snd (Prod.snd x)))) + (6 : Int)) (3 : Int) % (3 : Int) > (0 : Int))) (((0 : Int) ≤ Prod.snd (Prod.fst (Prod.snd (Prod.snd (Prod.snd x)))) + (6 : Int) + (1 : Int) ∧ Prod.snd (Prod.fst (Prod.snd (Prod.snd (Prod.snd x)))) + (6 : Int) + (1 : Int) + (1 : Int) ≤ (1000000000000 : Int) ∧ BytesOk (List.take (Prod.fst (Prod.fst (Prod.snd (Prod.snd (Prod.snd x))))) (List.drop (0 : Nat) (Prod.fst x))) ∧ (1 : Int) ≤ (↑(List.length (Prod.fst (Prod.snd (Prod.snd (Prod.snd (Prod.snd (Prod.snd x))))))) : Int)) ∧ ((0 : Int) ≤ g_rdPick (List.take (Prod.fst (Prod.fst (Prod.snd (Prod.snd (Prod.snd x))))) (List.drop (0 : Nat) (Prod.fst x))) (Prod.snd (Prod.fst (Prod.snd (Prod.snd (Prod.snd x)))) + (6 : Int) + (1 : Int)) (↑(List.length (Prod.fst (Prod.snd (Prod.snd (Prod.snd (Prod.snd (Prod.snd x))))))) : Int) % (↑(List.length (Prod.fst (Prod.snd (Prod.snd (Prod.snd (Prod.snd (Prod.snd x))))))) : Int) ∧ g_rdPick (List.take (Prod.fst (Prod.fst (Prod.snd (Prod.snd (Prod.snd x))))) (List.drop (0 : Nat) (Prod.fst x))) (Prod.snd (Prod.fst (Prod.snd (Prod.snd (Prod.snd x)))) + (6 : Int) + (1 : Int)) (↑(List.length (Prod.fst (Prod.snd (Prod.snd (Prod.snd (Prod.snd (Prod.snd x))))))) : Int) % (↑(List.length (Prod.fst (Prod.snd (Prod.snd (Prod.snd (Prod.snd (Prod.snd x))))))) : Int) < (↑(List.length (Prod.fst (Prod.snd (Prod.snd (Prod.snd (Prod.snd (Prod.snd x))))))) : Int)) ∧ ((0 : Int) ≤ Prod.snd (Prod.fst (Prod.snd (Prod.snd (Prod.snd x)))) + (6 : Int) + (1 : Int) + (1 : Int) ∧ Prod.snd (Prod.fst (Prod.snd (Prod.snd (Prod.snd x)))) + (6 : Int) + (1 : Int) + (1 : Int) + (1 : Int) ≤ (1000000000000 : Int) ∧ BytesOk (List.take (Prod.fst (Prod.fst (Prod.snd (Prod.snd (Prod.snd x))))) (List.drop (0 : Nat) (Prod.fst x))) ∧ (1 : Int) ≤ (12 : Int)) ∧ List.length (Prod.fst (Prod.snd (Prod.snd (Prod.snd (Prod.snd (Prod.snd x)))))) ≤ (1048576 : Nat) ∧ ifB (Prod.snd (putF (Prod.fst (Prod.snd (Prod.snd (Prod.snd (Prod.snd (Prod.snd x)))))) (Item.mk (g_rdPick (List.take (Prod.fst (Prod.fst (Prod.snd (Prod.snd (Prod.snd x))))) (List.drop (0 : Nat) (Prod.fst x))) (Prod.snd (Prod.fst (Prod.snd (Prod.snd (Prod.snd x)))) + (6 : Int) + (1 : Int) + (1 : Int)) (12 : Int) % (12 : Int)) (Item.Box (Ty.ix Ty.item (Prod.fst (Prod.snd (Prod.snd (Prod.snd (Prod.snd (Prod.snd x)))))) (Int.toNat (g_rdPick (List.take (Prod.fst (Prod.fst (Prod.snd (Prod.snd (Prod.snd x))))) (List.drop (0 : Nat) (Prod.fst x))) (Prod.snd (Prod.fst (Prod.snd (Prod.snd (Prod.snd x)))) + (6 : Int) + (1 : Int)) (↑(List.length (Prod.fst (Prod.snd (Prod.snd (Prod.snd (Prod.snd (Prod.snd x))))))) : Int) % (↑(List.length (Prod.fst (Prod.snd (Prod.snd (Prod.snd (Prod.snd (Prod.snd x))))))) : Int)))))))) (Holds (Prod.fst x = b ∧ Prod.fst (Prod.fst (Prod.snd (Prod.snd (Prod.snd x)))) = min (List.length b) (2000 : Nat) ∧ Prod.fst (Prod.snd (Prod.snd (Prod.snd (Prod.snd x)))) = Subtype.val A4_ ∧ (0 : Int) ≤ IntKind.wrap IntKind.i64 (Prod.snd (Prod.snd (Prod.snd (Prod.snd (Prod.snd (Prod.snd x))))) - (1 : Int)) ∧ IntKind.wrap IntKind.i64 (Prod.snd (Prod.snd (Prod.snd (Prod.snd (Prod.snd (Prod.snd x))))) - (1 : Int)) ≤ IntKind.wrap IntKind.i64 A2_ ∧ (0 : Int) ≤ Prod.snd (Prod.fst (Prod.snd (Prod.snd (Prod.snd x)))) + (6 : Int) + (1 : Int) + (1 : Int) + (1 : Int) ∧ Prod.snd (Prod.fst (Prod.snd (Prod.snd (Prod.snd x)))) + (6 : Int) + (1 : Int) + (1 : Int) + (1 : Int) + (9 : Int) * IntKind.wrap IntKind.i64 (Prod.snd (Prod.snd (Prod.snd (Prod.snd (Prod.snd (Prod.snd x))))) - (1 : Int)) ≤ (0 : Int) + A3_ + (1 : Int) + (9 : Int) * IntKind.wrap IntKind.i64 A2_ ∧ List.length (Prod.fst (putF (Prod.fst (Prod.snd (Prod.snd (Prod.snd (Prod.snd (Prod.snd x)))))) (Item.mk (g_rdPick (List.take (Prod.fst (Prod.fst (Prod.snd (Prod.snd (Prod.snd x))))) (List.drop (0 : Nat) (Prod.fst x))) (Prod.snd (Prod.fst (Prod.snd (Prod.snd (Prod.snd x)))) + (6 : Int) + (1 : Int) + (1 : Int)) (12 : Int) % (12 : Int)) (Item.Box (Ty.ix Ty.item (Prod.fst (Prod.snd (Prod.snd (Prod.snd (Prod.snd (Prod.snd x)))))) (Int.toNat (g_rdPick (List.take (Prod.fst (Prod.fst (Prod.snd (Prod.snd (Prod.snd x))))) (List.drop (0 : Nat) (Prod.fst x))) (Prod.snd (Prod.fst (Prod.snd (Prod.snd (Prod.snd x)))) + (6 : Int) + (1 : Int)) (↑(List.length (Prod.fst (Prod.snd (Prod.snd (Prod.snd (Prod.snd (Prod.snd x))))))) : Int) % (↑(List.length (Prod.fst (Prod.snd (Prod.snd (Prod.snd (Prod.snd (Prod.snd x))))))) : Int)))))))) ≤ (25 : Nat) ∧ nGo A1_ (Int.toNat (IntKind.wrap IntKind.i64 (Prod.snd (Prod.snd (Prod.snd (Prod.snd (Prod.snd (Prod.snd x))))) - (1 : Int)))) (Prod.snd (Prod.fst (Prod.snd (Prod.snd (Prod.snd x)))) + (6 : Int) + (1 : Int) + (1 : Int) + (1 : Int)) (Prod.fst (putF (Prod.fst (Prod.snd (Prod.snd (Prod.snd (Prod.snd (Prod.snd x)))))) (Item.mk (g_rdPick (List.take (Prod.fst (Prod.fst (Prod.snd (Prod.snd (Prod.snd x))))) (List.drop (0 : Nat) (Prod.fst x))) (Prod.snd (Prod.fst (Prod.snd (Prod.snd (Prod.snd x)))) + (6 : Int) + (1 : Int) + (1 : Int)) (12 : Int) % (12 : Int)) (Item.Box (Ty.ix Ty.item (Prod.fst (Prod.snd (Prod.snd (Prod.snd (Prod.snd (Prod.snd x)))))) (Int.toNat (g_rdPick (List.take (Prod.fst (Prod.fst (Prod.snd (Prod.snd (Prod.snd x))))) (List.drop (0 : Nat) (Prod.fst x))) (Prod.snd (Prod.fst (Prod.snd (Prod.snd (Prod.snd x)))) + (6 : Int) + (1 : Int)) (↑(List.length (Prod.fst (Prod.snd (Prod.snd (Prod.snd (Prod.snd (Prod.snd x))))))) : Int) % (↑(List.length (Prod.fst (Prod.snd (Prod.snd (Prod.snd (Prod.snd (Prod.snd x))))))) : Int)))))))) = nGo A1_ A5_ A6_ (Subtype.val A4_)) ∧ Int.toNat (IntKind.wrap IntKind.i64 (Prod.snd (Prod.snd (Prod.snd (Prod.snd (Prod.snd (Prod.snd x))))) - (1 : Int))) < Int.toNat (Prod.snd (Prod.snd (Prod.snd (Prod.snd (Prod.snd (Prod.snd x))))))) (Holds (Prod.fst x = b ∧ Prod.fst (Prod.fst (Prod.snd (Prod.snd (Prod.snd x)))) = min (List.length b) (2000 : Nat) ∧ Prod.fst (Prod.snd (Prod.snd (Prod.snd (Prod.snd x)))) = Subtype.val A4_ ∧ (0 : Int) ≤ IntKind.wrap IntKind.i64 (Prod.snd (Prod.snd (Prod.snd (Prod.snd (Prod.snd (Prod.snd x))))) - (1 : Int)) ∧ IntKind.wrap IntKind.i64 (Prod.snd (Prod.snd (Prod.snd (Prod.snd (Prod.snd (Prod.snd x))))) - (1 : Int)) ≤ IntKind.wrap IntKind.i64 A2_ ∧ (0 : Int) ≤ Prod.snd (Prod.fst (Prod.snd (Prod.snd (Prod.snd x)))) + (6 : Int) + (1 : Int) + (1 : Int) + (1 : Int) ∧ Prod.snd (Prod.fst (Prod.snd (Prod.snd (Prod.snd x)))) + (6 : Int) + (1 : Int) + (1 : Int) + (1 : Int) + (9 : Int) * IntKind.wrap IntKind.i64 (Prod.snd (Prod.snd (Prod.snd (Prod.snd (Prod.snd (Prod.snd x))))) - (1 : Int)) ≤ (0 : Int) + A3_ + (1 : Int) + (9 : Int) * IntKind.wrap IntKind.i64 A2_ ∧ List.length (Prod.fst (Prod.snd (Prod.snd (Prod.snd (Prod.snd (Prod.snd x)))))) ≤ (25 : Nat) ∧ nGo A1_ (Int.toNat (IntKind.wrap IntKind.i64 (Prod.snd (Prod.snd (Prod.snd (Prod.snd (Prod.snd (Prod.snd x))))) - (1 : Int)))) (Prod.snd (Prod.fst (Prod.snd (Prod.snd (Prod.snd x)))) + (6 : Int) + (1 : Int) + (1 : Int) + (1 : Int)) (Prod.fst (Prod.snd (Prod.snd (Prod.snd (Prod.snd (Prod.snd x)))))) = nGo A1_ A5_ A6_ (Subtype.val A4_)) ∧ Int.toNat (IntKind.wrap IntKind.i64 (Prod.snd (Prod.snd (Prod.snd (Prod.snd (Prod.snd (Prod.snd x))))) - (1 : Int))) < Int.toNat (Prod.snd (Prod.snd (Prod.snd (Prod.snd (Prod.snd (Prod.snd x)))))))) (((0 : Int) ≤ Prod.snd (Prod.fst (Prod.snd (Prod.snd (Prod.snd x)))) + (6 : Int) + (1 : Int) ∧ Prod.snd (Prod.fst (Prod.snd (Prod.snd (Prod.snd x)))) + (6 : Int) + (1 : Int) + (1 : Int) ≤ (1000000000000 : Int) ∧ BytesOk (List.take (Prod.fst (Prod.fst (Prod.snd (Prod.snd (Prod.snd x))))) (List.drop (0 : Nat) (Prod.fst x))) ∧ (1 : Int) ≤ (12 : Int)) ∧ List.length (Prod.fst (Prod.snd (Prod.snd (Prod.snd (Prod.snd (Prod.snd x)))))) ≤ (1048576 : Nat) ∧ ifB (Prod.snd (putF (Prod.fst (Prod.snd (Prod.snd (Prod.snd (Prod.snd (Prod.snd x)))))) (Item.mk (g_rdPick (List.take (Prod.fst (Prod.fst (Prod.snd (Prod.snd (Prod.snd x))))) (List.drop (0 : Nat) (Prod.fst x))) (Prod.snd (Prod.fst (Prod.snd (Prod.snd (Prod.snd x)))) + (6 : Int) + (1 : Int)) (12 : Int) % (12 : Int)) (Subtype.val (Prod.fst (g_l11Box (List.take (Prod.fst (Prod.fst (Prod.snd (Prod.snd (Prod.snd x))))) (List.drop (0 : Nat) (Prod.fst x))) (Prod.snd (Prod.fst (Prod.snd (Prod.snd (Prod.snd x))))))))))) (Holds (Prod.fst x = b ∧ Prod.fst (Prod.fst (Prod.snd (Prod.snd (Prod.snd x)))) = min (List.length b) (2000 : Nat) ∧ Prod.fst (Prod.snd (Prod.snd (Prod.snd (Prod.snd x)))) = Subtype.val A4_ ∧ (0 : Int) ≤ IntKind.wrap IntKind.i64 (Prod.snd (Prod.snd (Prod.snd (Prod.snd (Prod.snd (Prod.snd x))))) - (1 : Int)) ∧ IntKind.wrap IntKind.i64 (Prod.snd (Prod.snd (Prod.snd (Prod.snd (Prod.snd (Prod.snd x))))) - (1 : Int)) ≤ IntKind.wrap IntKind.i64 A2_ ∧ (0 : Int) ≤ Prod.snd (Prod.fst (Prod.snd (Prod.snd (Prod.snd x)))) + (6 : Int) + (1 : Int) + (1 : Int) ∧ Prod.snd (Prod.fst (Prod.snd (Prod.snd (Prod.snd x)))) + (6 : Int) + (1 : Int) + (1 : Int) + (9 : Int) * IntKind.wrap IntKind.i64 (Prod.snd (Prod.snd (Prod.snd (Prod.snd (Prod.snd (Prod.snd x))))) - (1 : Int)) ≤ (0 : Int) + A3_ + (1 : Int) + (9 : Int) * IntKind.wrap IntKind.i64 A2_ ∧ List.length (Prod.fst (putF (Prod.fst (Prod.snd (Prod.snd (Prod.snd (Prod.snd (Prod.snd x)))))) (Item.mk (g_rdPick (List.take (Prod.fst (Prod.fst (Prod.snd (Prod.snd (Prod.snd x))))) (List.drop (0 : Nat) (Prod.fst x))) (Prod.snd (Prod.fst (Prod.snd (Prod.snd (Prod.snd x)))) + (6 : Int) + (1 : Int)) (12 : Int) % (12 : Int)) (Subtype.val (Prod.fst (g_l11Box (List.take (Prod.fst (Prod.fst (Prod.snd (Prod.snd (Prod.snd x))))) (List.drop (0 : Nat) (Prod.fst x))) (Prod.snd (Prod.fst (Prod.snd (Prod.snd (Prod.snd x))))))))))) ≤ (25 : Nat) ∧ nGo A1_ (Int.toNat (IntKind.wrap IntKind.i64 (Prod.snd (Prod.snd (Prod.snd (Prod.snd (Prod.snd (Prod.snd x))))) - (1 : Int)))) (Prod.snd (Prod.fst (Prod.snd (Prod.snd (Prod.snd x)))) + (6 : Int) + (1 : Int) + (1 : Int)) (Prod.fst (putF (Prod.fst (Prod.snd (Prod.snd (Prod.snd (Prod.snd (Prod.snd x)))))) (Item.mk (g_rdPick (List.take (Prod.fst (Prod.fst (Prod.snd (Prod.snd (Prod.snd x))))) (List.drop (0 : Nat) (Prod.fst x))) (Prod.snd (Prod.fst (Prod.snd (Prod.snd (Prod.snd x)))) + (6 : Int) + (1 : Int)) (12 : Int) % (12 : Int)) (Subtype.val (Prod.fst (g_l11Box (List.take (Prod.fst (Prod.fst (Prod.snd (Prod.snd (Prod.snd x))))) (List.drop (0 : Nat) (Prod.fst x))) (Prod.snd (Prod.fst (Prod.snd (Prod.snd (Prod.snd x))))))))))) = nGo A1_ A5_ A6_ (Subtype.val A4_)) ∧ Int.toNat (IntKind.wrap IntKind.i64 (Prod.snd (Prod.snd (Prod.snd (Prod.snd (Prod.snd (Prod.snd x))))) - (1 : Int))) < Int.toNat (Prod.snd (Prod.snd (Prod.snd (Prod.snd (Prod.snd (Prod.snd x))))))) (Holds (Prod.fst x = b ∧ Prod.fst (Prod.fst (Prod.snd (Prod.snd (Prod.snd x)))) = min (List.length b) (2000 : Nat) ∧ Prod.fst (Prod.snd (Prod.snd (Prod.snd (Prod.snd x)))) = Subtype.val A4_ ∧ (0 : Int) ≤ IntKind.wrap IntKind.i64 (Prod.snd (Prod.snd (Prod.snd (Prod.snd (Prod.snd (Prod.snd x))))) - (1 : Int)) ∧ IntKind.wrap IntKind.i64 (Prod.snd (Prod.snd (Prod.snd (Prod.snd (Prod.snd (Prod.snd x))))) - (1 : Int)) ≤ IntKind.wrap IntKind.i64 A2_ ∧ (0 : Int) ≤ Prod.snd (Prod.fst (Prod.snd (Prod.snd (Prod.snd x)))) + (6 : Int) + (1 : Int) + (1 : Int) ∧ Prod.snd (Prod.fst (Prod.snd (Prod.snd (Prod.snd x)))) + (6 : Int) + (1 : Int) + (1 : Int) + (9 : Int) * IntKind.wrap IntKind.i64 (Prod.snd (Prod.snd (Prod.snd (Prod.snd (Prod.snd (Prod.snd x))))) - (1 : Int)) ≤ (0 : Int) + A3_ + (1 : Int) + (9 : Int) * IntKind.wrap IntKind.i64 A2_ ∧ List.length (Prod.fst (Prod.snd (Prod.snd (Prod.snd (Prod.snd (Prod.snd x)))))) ≤ (25 : Nat) ∧ nGo A1_ (Int.toNat (IntKind.wrap IntKind.i64 (Prod.snd (Prod.snd (Prod.snd (Prod.snd (Prod.snd (Prod.snd x))))) - (1 : Int)))) (Prod.snd (Prod.fst (Prod.snd (Prod.snd (Prod.snd x)))) + (6 : Int) + (1 : Int) + (1 : Int)) (Prod.fst (Prod.snd (Prod.snd (Prod.snd (Prod.snd (Prod.snd x)))))) = nGo A1_ A5_ A6_ (Subtype.val A4_)) ∧ Int.toNat (IntKind.wrap IntKind.i64 (Prod.snd (Prod.snd (Prod.snd (Prod.snd (Prod.snd (Prod.snd x))))) - (1 : Int))) < Int.toNat (Prod.snd (Prod.snd (Prod.snd (Prod.snd (Prod.snd (Prod.snd x))))))))) (((0 : Int) ≤ Prod.snd (Prod.fst (Prod.snd (Prod.snd (Prod.snd x)))) + (6 : Int) ∧ Prod.snd (Prod.fst (Prod.snd (Prod.snd (Prod.snd x)))) + (6 : Int) + (1 : Int) ≤ (1000000000000 : Int) ∧ BytesOk (List.take (Prod.fst (Prod.fst (Prod.snd (Prod.snd (Prod.snd x))))) (List.drop (0 : Nat) (Prod.fst x))) ∧ (1 : Int) ≤ (12 : Int)) ∧ List.length (Prod.fst (Prod.snd (Prod.snd (Prod.snd (Prod.snd (Prod.snd x)))))) ≤ (1048576 : Nat) ∧ ifB (Prod.snd (putF (Prod.fst (Prod.snd (Prod.snd (Prod.snd (Prod.snd (Prod.snd x)))))) (Item.mk (g_rdPick (List.take (Prod.fst (Prod.fst (Prod.snd (Prod.snd (Prod.snd x))))) (List.drop (0 : Nat) (Prod.fst x))) (Prod.snd (Prod.fst (Prod.snd (Prod.snd (Prod.snd x)))) + (6 : Int)) (12 : Int) % (12 : Int)) (Subtype.val (Prod.fst (g_l11Box (List.take (Prod.fst (Prod.fst (Prod.snd (Prod.snd (Prod.snd x))))) (List.drop (0 : Nat) (Prod.fst x))) (Prod.snd (Prod.fst (Prod.snd (Prod.snd (Prod.snd x))))))))))) (Holds (Prod.fst x = b ∧ Prod.fst (Prod.fst (Prod.snd (Prod.snd (Prod.snd x)))) = min (List.length b) (2000 : Nat) ∧ Prod.fst (Prod.snd (Prod.snd (Prod.snd (Prod.snd x)))) = Subtype.val A4_ ∧ (0 : Int) ≤ IntKind.wrap IntKind.i64 (Prod.snd (Prod.snd (Prod.snd (Prod.snd (Prod.snd (Prod.snd x))))) - (1 : Int)) ∧ IntKind.wrap IntKind.i64 (Prod.snd (Prod.snd (Prod.snd (Prod.snd (Prod.snd (Prod.snd x))))) - (1 : Int)) ≤ IntKind.wrap IntKind.i64 A2_ ∧ (0 : Int) ≤ Prod.snd (Prod.fst (Prod.snd (Prod.snd (Prod.snd x)))) + (6 : Int) + (1 : Int) ∧ Prod.snd (Prod.fst (Prod.snd (Prod.snd (Prod.snd x)))) + (6 : Int) + (1 : Int) + (9 : Int) * IntKind.wrap IntKind.i64 (Prod.snd (Prod.snd (Prod.snd (Prod.snd (Prod.snd (Prod.snd x))))) - (1 : Int)) ≤ (0 : Int) + A3_ + (1 : Int) + (9 : Int) * IntKind.wrap IntKind.i64 A2_ ∧ List.length (Prod.fst (putF (Prod.fst (Prod.snd (Prod.snd (Prod.snd (Prod.snd (Prod.snd x)))))) (Item.mk (g_rdPick (List.take (Prod.fst (Prod.fst (Prod.snd (Prod.snd (Prod.snd x))))) (List.drop (0 : Nat) (Prod.fst x))) (Prod.snd (Prod.fst (Prod.snd (Prod.snd (Prod.snd x)))) + (6 : Int)) (12 : Int) % (12 : Int)) (Subtype.val (Prod.fst (g_l11Box (List.take (Prod.fst (Prod.fst (Prod.snd (Prod.snd (Prod.snd x))))) (List.drop (0 : Nat) (Prod.fst x))) (Prod.snd (Prod.fst (Prod.snd (Prod.snd (Prod.snd x))))))))))) ≤ (25 : Nat) ∧ nGo A1_ (Int.toNat (IntKind.wrap IntKind.i64 (Prod.snd (Prod.snd (Prod.snd (Prod.snd (Prod.snd (Prod.snd x))))) - (1 : Int)))) (Prod.snd (Prod.fst (Prod.snd (Prod.snd (Prod.snd x)))) + (6 : Int) + (1 : Int)) (Prod.fst (putF (Prod.fst (Prod.snd (Prod.snd (Prod.snd (Prod.snd (Prod.snd x)))))) (Item.mk (g_rdPick (List.take (Prod.fst (Prod.fst (Prod.snd (Prod.snd (Prod.snd x))))) (List.drop (0 : Nat) (Prod.fst x))) (Prod.snd (Prod.fst (Prod.snd (Prod.snd (Prod.snd x)))) + (6 : Int)) (12 : Int) % (12 : Int)) (Subtype.val (Prod.fst (g_l11Box (List.take (Prod.fst (Prod.fst (Prod.snd (Prod.snd (Prod.snd x))))) (List.drop (0 : Nat) (Prod.fst x))) (Prod.snd (Prod.fst (Prod.snd (Prod.snd (Prod.snd x))))))))))) = nGo A1_ A5_ A6_ (Subtype.val A4_)) ∧ Int.toNat (IntKind.wrap IntKind.i64 (Prod.snd (Prod.snd (Prod.snd (Prod.snd (Prod.snd (Prod.snd x))))) - (1 : Int))) < Int.toNat (Prod.snd (Prod.snd (Prod.snd (Prod.snd (Prod.snd (Prod.snd x))))))) (Holds (Prod.fst x = b ∧ Prod.fst (Prod.fst (Prod.snd (Prod.snd (Prod.snd x)))) = min (List.length b) (2000 : Nat) ∧ Prod.fst (Prod.snd (Prod.snd (Prod.snd (Prod.snd x)))) = Subtype.val A4_ ∧ (0 : Int) ≤ IntKind.wrap IntKind.i64 (Prod.snd (Prod.snd (Prod.snd (Prod.snd (Prod.snd (Prod.snd x))))) - (1 : Int)) ∧ IntKind.wrap IntKind.i64 (Prod.snd (Prod.snd (Prod.snd (Prod.snd (Prod.snd (Prod.snd x))))) - (1 : Int)) ≤ IntKind.wrap IntKind.i64 A2_ ∧ (0 : Int) ≤ Prod.snd (Prod.fst (Prod.snd (Prod.snd (Prod.snd x)))) + (6 : Int) + (1 : Int) ∧ Prod.snd (Prod.fst (Prod.snd (Prod.snd (Prod.snd x)))) + (6 : Int) + (1 : Int) + (9 : Int) * IntKind.wrap IntKind.i64 (Prod.snd (Prod.snd (Prod.snd (Prod.snd (Prod.snd (Prod.snd x))))) - (1 : Int)) ≤ (0 : Int) + A3_ + (1 : Int) + (9 : Int) * IntKind.wrap IntKind.i64 A2_ ∧ List.length (Prod.fst (Prod.snd (Prod.snd (Prod.snd (Prod.snd (Prod.snd x)))))) ≤ (25 : Nat) ∧ nGo A1_ (Int.toNat (IntKind.wrap IntKind.i64 (Prod.snd (Prod.snd (Prod.snd (Prod.snd (Prod.snd (Prod.snd x))))) - (1 : Int)))) (Prod.snd (Prod.fst (Prod.snd (Prod.snd (Prod.snd x)))) + (6 : Int) + (1 : Int)) (Prod.fst (Prod.snd (Prod.snd (Prod.snd (Prod.snd (Prod.snd x)))))) = nGo A1_ A5_ A6_ (Subtype.val A4_)) ∧ Int.toNat (IntKind.wrap IntKind.i64 (Prod.snd (Prod.snd (Prod.snd (Prod.snd (Prod.snd (Prod.snd x))))) - (1 : Int))) < Int.toNat (Prod.snd (Prod.snd (Prod.snd (Prod.snd (Prod.snd (Prod.snd x))))))))) (Q (SV.tup [SV.agg [SV.vec (1 : Nat)], SV.agg [SV.vec (2 : Nat)]]) [(false, Blk.vec Ty.byte (Prod.fst x)), (true, Blk.vec Ty.item (Prod.fst (Prod.snd (Prod.snd (Prod.snd (Prod.snd x)))))), (true, Blk.vec Ty.item (Prod.fst (Prod.snd (Prod.snd (Prod.snd (Prod.snd (Prod.snd x)))))))])) := by kernel_rfl

theorem ok_DrawBroadNew : FsOk Try.prog 15 fs_DrawBroadNew := fsOk_of tt_ok (tabFs_cons ok_l1Open (tabFs_cons ok_l11AnyBroad (tabFs_cons ok_l4Copy (tabFs_cons ok_rdPick (tabFs_cons ok_l11Box (tabFs_cons ok_specBroadPut tabFs_nil)))))) mixed Try.func15 (by kernel_rfl) (by kernel_rfl) (by
    intro args LL p r HH h hp
    unfold fs_DrawBroadNew at h
    dsimp only at h
    split at h
    case h_2 => cases h
    rename_i b
    simp only [Option.some.injEq, Prod.mk.injEq] at h
    obtain ⟨rfl, rfl, rfl⟩ := h
    refine ⟨by simp [Form, stays], (L_drawNew), ?_⟩
    rw [vc_DrawBroadNew]
    try dsimp only
    have hb := hp _ rfl
    have hq := hb.part 0 (min b.length 2000)
    unfold nDraw
    dsimp only
    have hw : ∀ p, W (1 + pk (List.take (min b.length 2000) (List.drop 0 b)) p 4) = 1 + g_rdPick (List.take (min b.length 2000) (List.drop 0 b)) p 4 % 4 := fun p => wrap_small (by unfold pk; omega) (by unfold pk; omega)
    have hw2 : ∀ p, IntKind.i64.wrap (1 + g_rdPick (List.take (min b.length 2000) (List.drop 0 b)) p 4 % 4) = 1 + g_rdPick (List.take (min b.length 2000) (List.drop 0 b)) p 4 % 4 := fun p => wrap_small (by omega) (by omega)
    simp only [hw, hw2]
    generalize g_l11AnyBroad (List.take (min b.length 2000) (List.drop 0 b)) 0 = a
    obtain ⟨⟨xs0, hx0⟩, m⟩ := a
    have hx0 : xs0.length ≤ 25 := hx0
    dsimp only
    refine ⟨⟨by omega, by omega, hq⟩, by omega, ⟨by omega, by omega, hq, by omega⟩, ⟨(by trivial), (by trivial), (by trivial), by omega, by omega, by omega, by omega, by omega, (by trivial)⟩, ?_⟩
    rintro ⟨b', z, y, ⟨rn, rp⟩, xs, ys, n⟩ ⟨h⟩
    dsimp only at h ⊢
    obtain ⟨e1, e2, e3, i0, i1, i2, i3, i4, i5⟩ := h
    subst e1 e2 e3
    refine ifB_of (fun c => ?_) (fun c => ?_)
    · have c := of_decide_eq_true c
      have nx := fun {q zs} (e : nStep (List.take (min b'.length 2000) (List.drop 0 b')) rp ys = (q, zs)) => nGo_next e c i1 i2 i3 (by omega) i4 i5
      refine ⟨⟨i2, by omega, hq⟩, ifB_of (fun c1 => ⟨⟨by omega, by omega, hq, by omega⟩, ifB_of (fun c2 => ?_) (fun c2 => ?_)⟩) (fun c1 => ?_)⟩
      · have hl : 0 < (ys.length : Int) := of_decide_eq_true c1
        have hx := pk_lt (List.take (min b'.length 2000) (List.drop 0 b')) (rp + 6 + 1) (n := ys.length) (by omega)
        refine ⟨⟨by omega, by omega, hq, by omega⟩, hx, ⟨by omega, by omega, hq, by omega⟩, by omega, ifB_of (fun c3 => ?_) (fun c3 => ?_)⟩
        · have e := nx (q := rp + 6 + 1 + 1 + 1) (zs := (putF ys ⟨g_rdPick (List.take (min b'.length 2000) (List.drop 0 b')) (rp + 6 + 1 + 1) 12 % 12, (Ty.ix .item ys (g_rdPick (List.take (min b'.length 2000) (List.drop 0 b')) (rp + 6 + 1) ys.length % ys.length).toNat).Box⟩).1) (by unfold nStep; rw [c1, show decide (pk (List.take (min b'.length 2000) (List.drop 0 b')) (rp + 6) 3 > 0) = true from c2]; simp only [cond_true, cond_false, nPut, pk]; rw [c3]; rfl)
          exact ⟨⟨(by trivial), (by trivial), (by trivial), e.1⟩, e.2⟩
        · have e := nx (q := rp + 6 + 1 + 1 + 1) (zs := ys) (by unfold nStep; rw [c1, show decide (pk (List.take (min b'.length 2000) (List.drop 0 b')) (rp + 6) 3 > 0) = true from c2]; simp only [cond_true, cond_false, nPut, pk]; rw [c3]; rfl)
          exact ⟨⟨(by trivial), (by trivial), (by trivial), e.1⟩, e.2⟩
      · refine ⟨⟨by omega, by omega, hq, by omega⟩, by omega, ifB_of (fun c3 => ?_) (fun c3 => ?_)⟩
        · have c3 : (putF ys ⟨g_rdPick (List.take (min b'.length 2000) (List.drop 0 b')) (rp + 6 + 1) 12 % 12, bx (List.take (min b'.length 2000) (List.drop 0 b')) rp⟩).2 = true := c3
          have e := nx (q := rp + 6 + 1 + 1) (zs := (putF ys ⟨g_rdPick (List.take (min b'.length 2000) (List.drop 0 b')) (rp + 6 + 1) 12 % 12, bx (List.take (min b'.length 2000) (List.drop 0 b')) rp⟩).1) (by unfold nStep; rw [c1, show decide (pk (List.take (min b'.length 2000) (List.drop 0 b')) (rp + 6) 3 > 0) = false from c2]; simp only [cond_true, cond_false, nPut, pk]; rw [c3]; rfl)
          exact ⟨⟨(by trivial), (by trivial), (by trivial), e.1⟩, e.2⟩
        · have c3 : (putF ys ⟨g_rdPick (List.take (min b'.length 2000) (List.drop 0 b')) (rp + 6 + 1) 12 % 12, bx (List.take (min b'.length 2000) (List.drop 0 b')) rp⟩).2 = false := c3
          have e := nx (q := rp + 6 + 1 + 1) (zs := ys) (by unfold nStep; rw [c1, show decide (pk (List.take (min b'.length 2000) (List.drop 0 b')) (rp + 6) 3 > 0) = false from c2]; simp only [cond_true, cond_false, nPut, pk]; rw [c3]; rfl)
          exact ⟨⟨(by trivial), (by trivial), (by trivial), e.1⟩, e.2⟩
      · refine ⟨⟨by omega, by omega, hq, by omega⟩, by omega, ifB_of (fun c3 => ?_) (fun c3 => ?_)⟩
        · have c3 : (putF ys ⟨g_rdPick (List.take (min b'.length 2000) (List.drop 0 b')) (rp + 6) 12 % 12, bx (List.take (min b'.length 2000) (List.drop 0 b')) rp⟩).2 = true := c3
          have e := nx (q := rp + 6 + 1) (zs := (putF ys ⟨g_rdPick (List.take (min b'.length 2000) (List.drop 0 b')) (rp + 6) 12 % 12, bx (List.take (min b'.length 2000) (List.drop 0 b')) rp⟩).1) (by unfold nStep; rw [c1]; simp only [cond_true, cond_false, nPut, pk]; rw [c3]; rfl)
          exact ⟨⟨(by trivial), (by trivial), (by trivial), e.1⟩, e.2⟩
        · have c3 : (putF ys ⟨g_rdPick (List.take (min b'.length 2000) (List.drop 0 b')) (rp + 6) 12 % 12, bx (List.take (min b'.length 2000) (List.drop 0 b')) rp⟩).2 = false := c3
          have e := nx (q := rp + 6 + 1) (zs := ys) (by unfold nStep; rw [c1]; simp only [cond_true, cond_false, nPut, pk]; rw [c3]; rfl)
          exact ⟨⟨(by trivial), (by trivial), (by trivial), e.1⟩, e.2⟩
    · have c := of_decide_eq_false c
      rw [show n.toNat = 0 by omega] at i5
      rw [← i5]
      simp only [nGo]
      exact ⟨(by trivial), (by trivial)⟩)


/-! ### How often a pair stands in a list -/
def cntP (ps : List Pair) (p : Pair) : Nat := (ps.filter fun q => eqP q p).length
theorem cntP_step {ps : List Pair} {p : Pair} {k : Nat} (hk : k < ps.length) : cntP (ps.take (k + 1)) p = cntP (ps.take k) p + (if eqP (Ty.ix .pair ps k) p = true then 1 else 0) := by
  have e : ps.take (k + 1) = ps.take k ++ [Ty.ix .pair ps k] := by
    rw [List.take_add_one, ix_get (T := .pair) hk]
    rfl
  unfold cntP
  rw [e, List.filter_append, List.length_append]
  congr 1
  split <;> rename_i q <;> simp [q]
theorem cntP_one : ∀ {ps : List Pair}, ps.Nodup → ∀ p, cntP ps p = if hasP ps p = true then 1 else 0
  | [], _, p => rfl
  | x :: r, h, p => by
    obtain ⟨h1, h2⟩ := List.nodup_cons.1 h
    have ih := cntP_one h2 p
    unfold cntP at ih ⊢
    by_cases q : eqP x p = true
    · have e := eqP_iff.1 q
      subst e
      have hr : hasP r x = false := by
        cases q2 : hasP r x with
        | false => rfl
        | true => exact absurd (hasP_true.1 q2) h1
      rw [hr] at ih
      simp only [List.filter_cons, q, if_true, List.length_cons, ih, hasP_true.2 (show x ∈ x :: r from List.mem_cons_self)]
      rfl
    · simp only [List.filter_cons, if_neg q, ih]
      have : hasP (x :: r) p = hasP r p := by
        simp only [hasP, List.any_cons]
        cases q2 : eqP x p with
        | true => exact absurd q2 q
        | false => simp
      rw [this]
theorem nodup_rowF {x : Item} {ys : List Item} (h : ys.Pairwise fun a b => a.Id < b.Id) : (rowF x ys).Nodup := by
  unfold rowF
  refine List.pairwise_map.2 ((h.filter _).imp fun {a b} hab e => ?_)
  have := congrArg Pair.B e
  dsimp only at this
  omega
theorem nodup_pairsF : ∀ {xs : List Item}, (xs.Pairwise fun a b => a.Id < b.Id) → (pairsF xs).Nodup ∧ ∀ p, p ∈ pairsF xs → ∃ y, y ∈ xs ∧ p.A = y.Id
  | [], _ => ⟨List.nodup_nil, fun p hp => by simp [pairsF] at hp⟩
  | x :: r, h => by
    obtain ⟨h1, h2⟩ := List.pairwise_cons.1 h
    obtain ⟨i1, i2⟩ := nodup_pairsF h2
    have hA : ∀ p, p ∈ rowF x r → p.A = x.Id := fun p hp => by
      simp only [rowF, List.mem_map] at hp
      obtain ⟨y, _, e⟩ := hp
      rw [← e]
    refine ⟨?_, fun p hp => ?_⟩
    · unfold pairsF
      refine List.nodup_append.2 ⟨nodup_rowF h2, i1, fun a ha b hb e => ?_⟩
      subst e
      obtain ⟨y, hy, e2⟩ := i2 a hb
      have := h1 y hy
      have := hA a ha
      omega
    · unfold pairsF at hp
      rcases List.mem_append.1 hp with q | q
      · exact ⟨x, List.mem_cons_self, hA p q⟩
      · obtain ⟨y, hy, e⟩ := i2 p q
        exact ⟨y, List.mem_cons_of_mem _ hy, e⟩
theorem items_pairwise {xs : List Item} (h : itemsOk xs = true) : xs.Pairwise fun a b => a.Id < b.Id := by
  refine List.pairwise_iff_getElem.2 fun i j hi hj hij => ?_
  have e := items_lt h hij hj
  rwa [ix_eq (T := .item) (List.getElem?_eq_getElem hi), ix_eq (T := .item) (List.getElem?_eq_getElem hj)] at e
def bothN (was now : List Pair) : Nat := (now.filter fun p => hasP was p).length
theorem bothN_step {was now : List Pair} {i : Nat} (hi : i < now.length) : bothN was (now.take (i + 1)) = bothN was (now.take i) + (if hasP was (Ty.ix .pair now i) = true then 1 else 0) := by
  have e : now.take (i + 1) = now.take i ++ [Ty.ix .pair now i] := by
    rw [List.take_add_one, ix_get (T := .pair) hi]
    rfl
  unfold bothN
  rw [e, List.filter_append, List.length_append]
  congr 1
  split <;> rename_i q <;> simp [q]
theorem bothN_all (was now : List Pair) : (newF was now).length + bothN was now = now.length := by
  unfold newF bothN
  induction now with
  | nil => rfl
  | cons x r ih =>
    cases q : hasP was x <;> simp [q] <;> omega
theorem newF_self (ps : List Pair) : newF ps ps = [] := by
  unfold newF
  refine List.filter_eq_nil_iff.2 fun p hp => ?_
  rw [hasP_true.2 hp]
  simp
def LSnl1  : LS where
  S := List Int × List Item × List Pair × List Pair × List Pair × Int × Int
  live := [(4, [some .item]), (5, [some .pair]), (6, [some .pair]), (7, [some .pair]), (8, [none]), (9, [none])]
  shape := fun s => ([.ptr 2 0 0, .vec 3, .vec 4, .vec 5, .int .i64 s.2.2.2.2.2.1, .int .i64 s.2.2.2.2.2.2], [(false, .vec .byte s.1), (true, .vec .item s.2.1), (true, .box [.vec 1]), (true, .vec .pair s.2.2.1), (true, .vec .pair s.2.2.2.1), (true, .vec .pair s.2.2.2.2.1)])
  get := fun v h => match v, h with
    | [.ptr 2 0 0, .vec 3, .vec 4, .vec 5, .int .i64 both, .int .i64 i], [(false, .vec .byte b), (true, .vec .item ys), (true, .box [.vec 1]), (true, .vec .pair list), (true, .vec .pair was), (true, .vec .pair now)] => some (b, ys, list, was, now, both, i)
    | _, _ => none
  inv := fun s0 s => Holds (s.1 = s0.1 ∧ s.2.1 = s0.2.1 ∧ s.2.2.1 = s0.2.2.1 ∧ s.2.2.2.1 = s0.2.2.2.1 ∧ s.2.2.2.2.1 = s0.2.2.2.2.1 ∧ 0 ≤ s.2.2.2.2.2.2 ∧ s.2.2.2.2.2.2 ≤ s0.2.2.2.2.1.length ∧ s.2.2.2.2.2.1 = (bothN s0.2.2.2.1 (s0.2.2.2.2.1.take s.2.2.2.2.2.2.toNat) : Int))
  mu := fun s => ((s.2.2.2.2.1.length : Int) - s.2.2.2.2.2.2).toNat
  ok := by
    intro v h s hg
    try dsimp only at hg
    split at hg <;> cases hg
    rfl

def LSnl2  : LS where
  S := List Int × List Item × List Pair × List Pair × List Pair × Int × Int × Int
  live := [(4, [some .item]), (5, [some .pair]), (6, [some .pair]), (7, [some .pair]), (8, [none]), (9, [none]), (10, [none])]
  shape := fun s => ([.ptr 2 0 0, .vec 3, .vec 4, .vec 5, .int .i64 s.2.2.2.2.2.1, .int .i64 s.2.2.2.2.2.2.1, .int .i64 s.2.2.2.2.2.2.2], [(false, .vec .byte s.1), (true, .vec .item s.2.1), (true, .box [.vec 1]), (true, .vec .pair s.2.2.1), (true, .vec .pair s.2.2.2.1), (true, .vec .pair s.2.2.2.2.1)])
  get := fun v h => match v, h with
    | [.ptr 2 0 0, .vec 3, .vec 4, .vec 5, .int .i64 both, .int .i64 i, .int .i64 k], [(false, .vec .byte b), (true, .vec .item ys), (true, .box [.vec 1]), (true, .vec .pair list), (true, .vec .pair was), (true, .vec .pair now)] => some (b, ys, list, was, now, both, i, k)
    | _, _ => none
  inv := fun s0 s => Holds (s.1 = s0.1 ∧ s.2.1 = s0.2.1 ∧ s.2.2.1 = s0.2.2.1 ∧ s.2.2.2.1 = s0.2.2.2.1 ∧ s.2.2.2.2.1 = s0.2.2.2.2.1 ∧ s.2.2.2.2.2.2.1 = s0.2.2.2.2.2.2.1 ∧ 0 ≤ s.2.2.2.2.2.2.2 ∧ s.2.2.2.2.2.2.2 ≤ s0.2.2.2.1.length ∧ s.2.2.2.2.2.1 = s0.2.2.2.2.2.1 + (cntP (s0.2.2.2.1.take s.2.2.2.2.2.2.2.toNat) (Ty.ix .pair s0.2.2.2.2.1 s0.2.2.2.2.2.2.1.toNat) : Int))
  mu := fun s => ((s.2.2.2.1.length : Int) - s.2.2.2.2.2.2.2).toNat
  ok := by
    intro v h s hg
    try dsimp only at hg
    split at hg <;> cases hg
    rfl

def L_lawBroadNew : Loops := fun n => match n with
  | 11 => some LSnl1
  | 14 => some LSnl2
  | _ => none
theorem nDraw_le (b : List Int) : (nDraw b).1.length ≤ 25 ∧ (nDraw b).2.length ≤ 25 := ⟨(g_l11AnyBroad _ _).1.2, nGo_spec (g_l11AnyBroad _ _).1.2⟩
noncomputable def fs_lawBroadNew : Fs := ⟨[], fun args H => match args, H with
  | [.vec 0], [(false, .vec .byte b)] => some ((some (LOk .byte b)), .bool (true), [(false, .vec .byte b)])
  | _, _ => none⟩

theorem vc_lawBroadNew (b : List Int) (Q : SV → List Ent → Prop) :
    fnVC tt (look [(15, fs_DrawBroadNew), (16, fs_implBroadNew), (18, fs_specBroadNew), (17, fs_lawsPqPairs), (19, fs_specBroadOk), (20, fs_implBroadPairs)]) (L_lawBroadNew) Try.f3 [.vec 0] [(false, .vec .byte b)] Q =
    (let A1_ := (broadNew (Prod.fst (nDraw b)) (Prod.snd (nDraw b))); ifB (decide ((↑(List.length b) : Int) > (1048576 : Int))) (Q (SV.bool true) [(false, Blk.vec Ty.byte b)]) (BytesOk b ∧ (List.length (Prod.fst (nDraw b)) ≤ (1048576 : Nat) ∧ List.length (Prod.snd (nDraw b)) ≤ (1048576 : Nat)) ∧ (List.length (Prod.fst (nDraw b)) ≤ (1048576 : Nat) ∧ List.length (Prod.snd (nDraw b)) ≤ (1048576 : Nat)) ∧ List.length A1_ ≤ (4611686018427387904 : Nat) ∧ ifB (!same A1_ A1_) ((List.length (Prod.fst (nDraw b)) ≤ (1048576 : Nat) ∧ List.length (Prod.snd (nDraw b)) ≤ (1048576 : Nat)) ∧ List.length A1_ ≤ (4611686018427387904 : Nat) ∧ Q (SV.bool (same A1_ A1_)) [(false, Blk.vec Ty.byte b)]) (List.length (Prod.fst (nDraw b)) ≤ (1048576 : Nat) ∧ ifB (!itemsOk (Prod.fst (nDraw b))) ((List.length (Prod.fst (nDraw b)) ≤ (1048576 : Nat) ∧ List.length (Prod.snd (nDraw b)) ≤ (1048576 : Nat)) ∧ List.length A1_ ≤ (4611686018427387904 : Nat) ∧ Q (SV.bool (same A1_ A1_)) [(false, Blk.vec Ty.byte b)]) (List.length (Prod.snd (nDraw b)) ≤ (1048576 : Nat) ∧ ifB (!itemsOk (Prod.snd (nDraw b))) ((List.length (Prod.fst (nDraw b)) ≤ (1048576 : Nat) ∧ List.length (Prod.snd (nDraw b)) ≤ (1048576 : Nat)) ∧ List.length A1_ ≤ (4611686018427387904 : Nat) ∧ Q (SV.bool (same A1_ A1_)) [(false, Blk.vec Ty.byte b)]) (List.length (Prod.fst (nDraw b)) ≤ (1048576 : Nat) ∧ List.length (Prod.snd (nDraw b)) ≤ (1048576 : Nat) ∧ Holds (b = b ∧ Prod.snd (nDraw b) = Prod.snd (nDraw b) ∧ broadNew (Prod.fst (nDraw b)) (Prod.snd (nDraw b)) = broadNew (Prod.fst (nDraw b)) (Prod.snd (nDraw b)) ∧ broadPairs (Prod.fst (nDraw b)) = broadPairs (Prod.fst (nDraw b)) ∧ broadPairs (Prod.snd (nDraw b)) = broadPairs (Prod.snd (nDraw b)) ∧ (0 : Int) ≤ (0 : Int) ∧ (0 : Int) ≤ (↑(List.length (broadPairs (Prod.snd (nDraw b)))) : Int) ∧ (0 : Int) = (↑(bothN (broadPairs (Prod.fst (nDraw b))) (List.take (Int.toNat (0 : Int)) (broadPairs (Prod.snd (nDraw b))))) : Int)) ∧ ∀ (x : List Int × List Item × List Pair × List Pair × List Pair × Int × Int), Holds (Prod.fst x = b ∧ Prod.fst (Prod.snd x) = Prod.snd (nDraw b) ∧ Prod.fst (Prod.snd (Prod.snd x)) = broadNew (Prod.fst (nDraw b)) (Prod.snd (nDraw b)) ∧ Prod.fst (Prod.snd (Prod.snd (Prod.snd x))) = broadPairs (Prod.fst (nDraw b)) ∧ Prod.fst (Prod.snd (Prod.snd (Prod.snd (Prod.snd x)))) = broadPairs (Prod.snd (nDraw b)) ∧ (0 : Int) ≤ Prod.snd (Prod.snd (Prod.snd (Prod.snd (Prod.snd (Prod.snd x))))) ∧ Prod.snd (Prod.snd (Prod.snd (Prod.snd (Prod.snd (Prod.snd x))))) ≤ (↑(List.length (broadPairs (Prod.snd (nDraw b)))) : Int) ∧ Prod.fst (Prod.snd (Prod.snd (Prod.snd (Prod.snd (Prod.snd x))))) = (↑(bothN (broadPairs (Prod.fst (nDraw b))) (List.take (Int.toNat (Prod.snd (Prod.snd (Prod.snd (Prod.snd (Prod.snd (Prod.snd x))))))) (broadPairs (Prod.snd (nDraw b))))) : Int)) → ifB (decide (Prod.snd (Prod.snd (Prod.snd (Prod.snd (Prod.snd (Prod.snd x))))) < (↑(List.length (Prod.fst (Prod.snd (Prod.snd (Prod.snd (Prod.snd x)))))) : Int))) (Holds (Prod.fst x = Prod.fst x ∧ Prod.fst (Prod.snd x) = Prod.fst (Prod.snd x) ∧ Prod.fst (Prod.snd (Prod.snd x)) = Prod.fst (Prod.snd (Prod.snd x)) ∧ Prod.fst (Prod.snd (Prod.snd (Prod.snd x))) = Prod.fst (Prod.snd (Prod.snd (Prod.snd x))) ∧ Prod.fst (Prod.snd (Prod.snd (Prod.snd (Prod.snd x)))) = Prod.fst (Prod.snd (Prod.snd (Prod.snd (Prod.snd x)))) ∧ Prod.snd (Prod.snd (Prod.snd (Prod.snd (Prod.snd (Prod.snd x))))) = Prod.snd (Prod.snd (Prod.snd (Prod.snd (Prod.snd (Prod.snd x))))) ∧ (0 : Int) ≤ (0 : Int) ∧ (0 : Int) ≤ (↑(List.length (Prod.fst (Prod.snd (Prod.snd (Prod.snd x))))) : Int) ∧ Prod.fst (Prod.snd (Prod.snd (Prod.snd (Prod.snd (Prod.snd x))))) = Prod.fst (Prod.snd (Prod.snd (Prod.snd (Prod.snd (Prod.snd x))))) + (↑(cntP (List.take (Int.toNat (0 : Int)) (Prod.fst (Prod.snd (Prod.snd (Prod.snd x))))) (Ty.ix Ty.pair (Prod.fst (Prod.snd (Prod.snd (Prod.snd (Prod.snd x))))) (Int.toNat (Prod.snd (Prod.snd (Prod.snd (Prod.snd (Prod.snd (Prod.snd x))))))))) : Int)) ∧ ∀ (x_1 : List Int × List Item × List Pair × List Pair × List Pair × Int × Int × Int), Holds (Prod.fst x_1 = Prod.fst x ∧ Prod.fst (Prod.snd x_1) = Prod.fst (Prod.snd x) ∧ Prod.fst (Prod.snd (Prod.snd x_1)) = Prod.fst (Prod.snd (Prod.snd x)) ∧ Prod.fst (Prod.snd (Prod.snd (Prod.snd x_1))) = Prod.fst (Prod.snd (Prod.snd (Prod.snd x))) ∧ Prod.fst (Prod.snd (Prod.snd (Prod.snd (Prod.snd x_1)))) = Prod.fst (Prod.snd (Prod.snd (Prod.snd (Prod.snd x)))) ∧ Prod.fst (Prod.snd (Prod.snd (Prod.snd (Prod.snd (Prod.snd (Prod.snd x_1)))))) = Prod.snd (Prod.snd (Prod.snd (Prod.snd (Prod.snd (Prod.snd x))))) ∧ (0 : Int) ≤ Prod.snd (Prod.snd (Prod.snd (Prod.snd (Prod.snd (Prod.snd (Prod.snd x_1)))))) ∧ Prod.snd (Prod.snd (Prod.snd (Prod.snd (Prod.snd (Prod.snd (Prod.snd x_1)))))) ≤ (↑(List.length (Prod.fst (Prod.snd (Prod.snd (Prod.snd x))))) : Int) ∧ Prod.fst (Prod.snd (Prod.snd (Prod.snd (Prod.snd (Prod.snd x_1))))) = Prod.fst (Prod.snd (Prod.snd (Prod.snd (Prod.snd (Prod.snd x))))) + (↑(cntP (List.take (Int.toNat (Prod.snd (Prod.snd (Prod.snd (Prod.snd (Prod.snd (Prod.snd (Prod.snd x_1)))))))) (Prod.fst (Prod.snd (Prod.snd (Prod.snd x))))) (Ty.ix Ty.pair (Prod.fst (Prod.snd (Prod.snd (Prod.snd (Prod.snd x))))) (Int.toNat (Prod.snd (Prod.snd (Prod.snd (Prod.snd (Prod.snd (Prod.snd x))))))))) : Int)) → ifB (decide (Prod.snd (Prod.snd (Prod.snd (Prod.snd (Prod.snd (Prod.snd (Prod.snd x_1)))))) < (↑(List.length (Prod.fst (Prod.snd (Prod.snd (Prod.snd x_1))))) : Int))) (((0 : Int) ≤ Prod.snd (Prod.snd (Prod.snd (Prod.snd (Prod.snd (Prod.snd (Prod.snd x_1)))))) ∧ Prod.snd (Prod.snd (Prod.snd (Prod.snd (Prod.snd (Prod.snd (Prod.snd x_1)))))) < (↑(List.length (Prod.fst (Prod.snd (Prod.snd (Prod.snd x_1))))) : Int)) ∧ ((0 : Int) ≤ Prod.fst (Prod.snd (Prod.snd (Prod.snd (Prod.snd (Prod.snd (Prod.snd x_1)))))) ∧ Prod.fst (Prod.snd (Prod.snd (Prod.snd (Prod.snd (Prod.snd (Prod.snd x_1)))))) < (↑(List.length (Prod.fst (Prod.snd (Prod.snd (Prod.snd (Prod.snd x_1)))))) : Int)) ∧ ifB (Pair.A (Ty.ix Ty.pair (Prod.fst (Prod.snd (Prod.snd (Prod.snd x_1)))) (Int.toNat (Prod.snd (Prod.snd (Prod.snd (Prod.snd (Prod.snd (Prod.snd (Prod.snd x_1))))))))) == Pair.A (Ty.ix Ty.pair (Prod.fst (Prod.snd (Prod.snd (Prod.snd (Prod.snd x_1))))) (Int.toNat (Prod.fst (Prod.snd (Prod.snd (Prod.snd (Prod.snd (Prod.snd (Prod.snd x_1))))))))) && Pair.B (Ty.ix Ty.pair (Prod.fst (Prod.snd (Prod.snd (Prod.snd x_1)))) (Int.toNat (Prod.snd (Prod.snd (Prod.snd (Prod.snd (Prod.snd (Prod.snd (Prod.snd x_1))))))))) == Pair.B (Ty.ix Ty.pair (Prod.fst (Prod.snd (Prod.snd (Prod.snd (Prod.snd x_1))))) (Int.toNat (Prod.fst (Prod.snd (Prod.snd (Prod.snd (Prod.snd (Prod.snd (Prod.snd x_1)))))))))) (Holds (Prod.fst x_1 = Prod.fst x ∧ Prod.fst (Prod.snd x_1) = Prod.fst (Prod.snd x) ∧ Prod.fst (Prod.snd (Prod.snd x_1)) = Prod.fst (Prod.snd (Prod.snd x)) ∧ Prod.fst (Prod.snd (Prod.snd (Prod.snd x_1))) = Prod.fst (Prod.snd (Prod.snd (Prod.snd x))) ∧ Prod.fst (Prod.snd (Prod.snd (Prod.snd (Prod.snd x_1)))) = Prod.fst (Prod.snd (Prod.snd (Prod.snd (Prod.snd x)))) ∧ Prod.fst (Prod.snd (Prod.snd (Prod.snd (Prod.snd (Prod.snd (Prod.snd x_1)))))) = Prod.snd (Prod.snd (Prod.snd (Prod.snd (Prod.snd (Prod.snd x))))) ∧ (0 : Int) ≤ IntKind.wrap IntKind.i64 (Prod.snd (Prod.snd (Prod.snd (Prod.snd (Prod.snd (Prod.snd (Prod.snd x_1)))))) + (1 : Int)) ∧ IntKind.wrap IntKind.i64 (Prod.snd (Prod.snd (Prod.snd (Prod.snd (Prod.snd (Prod.snd (Prod.snd x_1)))))) + (1 : Int)) ≤ (↑(List.length (Prod.fst (Prod.snd (Prod.snd (Prod.snd x))))) : Int) ∧ IntKind.wrap IntKind.i64 (Prod.fst (Prod.snd (Prod.snd (Prod.snd (Prod.snd (Prod.snd x_1))))) + (1 : Int)) = Prod.fst (Prod.snd (Prod.snd (Prod.snd (Prod.snd (Prod.snd x))))) + (↑(cntP (List.take (Int.toNat (IntKind.wrap IntKind.i64 (Prod.snd (Prod.snd (Prod.snd (Prod.snd (Prod.snd (Prod.snd (Prod.snd x_1)))))) + (1 : Int)))) (Prod.fst (Prod.snd (Prod.snd (Prod.snd x))))) (Ty.ix Ty.pair (Prod.fst (Prod.snd (Prod.snd (Prod.snd (Prod.snd x))))) (Int.toNat (Prod.snd (Prod.snd (Prod.snd (Prod.snd (Prod.snd (Prod.snd x))))))))) : Int)) ∧ Int.toNat ((↑(List.length (Prod.fst (Prod.snd (Prod.snd (Prod.snd x_1))))) : Int) - IntKind.wrap IntKind.i64 (Prod.snd (Prod.snd (Prod.snd (Prod.snd (Prod.snd (Prod.snd (Prod.snd x_1)))))) + (1 : Int))) < Int.toNat ((↑(List.length (Prod.fst (Prod.snd (Prod.snd (Prod.snd x_1))))) : Int) - Prod.snd (Prod.snd (Prod.snd (Prod.snd (Prod.snd (Prod.snd (Prod.snd x_1)))))))) (Holds (Prod.fst x_1 = Prod.fst x ∧ Prod.fst (Prod.snd x_1) = Prod.fst (Prod.snd x) ∧ Prod.fst (Prod.snd (Prod.snd x_1)) = Prod.fst (Prod.snd (Prod.snd x)) ∧ Prod.fst (Prod.snd (Prod.snd (Prod.snd x_1))) = Prod.fst (Prod.snd (Prod.snd (Prod.snd x))) ∧ Prod.fst (Prod.snd (Prod.snd (Prod.snd (Prod.snd x_1)))) = Prod.fst (Prod.snd (Prod.snd (Prod.snd (Prod.snd x)))) ∧ Prod.fst (Prod.snd (Prod.snd (Prod.snd (Prod.snd (Prod.snd (Prod.snd x_1)))))) = Prod.snd (Prod.snd (Prod.snd (Prod.snd (Prod.snd (Prod.snd x))))) ∧ (0 : Int) ≤ IntKind.wrap IntKind.i64 (Prod.snd (Prod.snd (Prod.snd (Prod.snd (Prod.snd (Prod.snd (Prod.snd x_1)))))) + (1 : Int)) ∧ IntKind.wrap IntKind.i64 (Prod.snd (Prod.snd (Prod.snd (Prod.snd (Prod.snd (Prod.snd (Prod.snd x_1)))))) + (1 : Int)) ≤ (↑(List.length (Prod.fst (Prod.snd (Prod.snd (Prod.snd x))))) : Int) ∧ Prod.fst (Prod.snd (Prod.snd (Prod.snd (Prod.snd (Prod.snd x_1))))) = Prod.fst (Prod.snd (Prod.snd (Prod.snd (Prod.snd (Prod.snd x))))) + (↑(cntP (List.take (Int.toNat (IntKind.wrap IntKind.i64 (Prod.snd (Prod.snd (Prod.snd (Prod.snd (Prod.snd (Prod.snd (Prod.snd x_1)))))) + (1 : Int)))) (Prod.fst (Prod.snd (Prod.snd (Prod.snd x))))) (Ty.ix Ty.pair (Prod.fst (Prod.snd (Prod.snd (Prod.snd (Prod.snd x))))) (Int.toNat (Prod.snd (Prod.snd (Prod.snd (Prod.snd (Prod.snd (Prod.snd x))))))))) : Int)) ∧ Int.toNat ((↑(List.length (Prod.fst (Prod.snd (Prod.snd (Prod.snd x_1))))) : Int) - IntKind.wrap IntKind.i64 (Prod.snd (Prod.snd (Prod.snd (Prod.snd (Prod.snd (Prod.snd (Prod.snd x_1)))))) + (1 : Int))) < Int.toNat ((↑(List.length (Prod.fst (Prod.snd (Prod.snd (Prod.snd x_1))))) : Int) - Prod.snd (Prod.snd (Prod.snd (Prod.snd (Prod.snd (Prod.snd (Prod.snd x_1))))))))) (Holds (Prod.fst x_1 = b ∧ Prod.fst (Prod.snd x_1) = Prod.snd (nDraw b) ∧ Prod.fst (Prod.snd (Prod.snd x_1)) = broadNew (Prod.fst (nDraw b)) (Prod.snd (nDraw b)) ∧ Prod.fst (Prod.snd (Prod.snd (Prod.snd x_1))) = broadPairs (Prod.fst (nDraw b)) ∧ Prod.fst (Prod.snd (Prod.snd (Prod.snd (Prod.snd x_1)))) = broadPairs (Prod.snd (nDraw b)) ∧ (0 : Int) ≤ IntKind.wrap IntKind.i64 (Prod.fst (Prod.snd (Prod.snd (Prod.snd (Prod.snd (Prod.snd (Prod.snd x_1)))))) + (1 : Int)) ∧ IntKind.wrap IntKind.i64 (Prod.fst (Prod.snd (Prod.snd (Prod.snd (Prod.snd (Prod.snd (Prod.snd x_1)))))) + (1 : Int)) ≤ (↑(List.length (broadPairs (Prod.snd (nDraw b)))) : Int) ∧ Prod.fst (Prod.snd (Prod.snd (Prod.snd (Prod.snd (Prod.snd x_1))))) = (↑(bothN (broadPairs (Prod.fst (nDraw b))) (List.take (Int.toNat (IntKind.wrap IntKind.i64 (Prod.fst (Prod.snd (Prod.snd (Prod.snd (Prod.snd (Prod.snd (Prod.snd x_1)))))) + (1 : Int)))) (broadPairs (Prod.snd (nDraw b))))) : Int)) ∧ Int.toNat ((↑(List.length (Prod.fst (Prod.snd (Prod.snd (Prod.snd (Prod.snd x_1)))))) : Int) - IntKind.wrap IntKind.i64 (Prod.fst (Prod.snd (Prod.snd (Prod.snd (Prod.snd (Prod.snd (Prod.snd x_1)))))) + (1 : Int))) < Int.toNat ((↑(List.length (Prod.fst (Prod.snd (Prod.snd (Prod.snd (Prod.snd x)))))) : Int) - Prod.snd (Prod.snd (Prod.snd (Prod.snd (Prod.snd (Prod.snd x)))))))) (ifB (IntKind.wrap IntKind.i64 ((↑(List.length (Prod.fst (Prod.snd (Prod.snd x)))) : Int) + Prod.fst (Prod.snd (Prod.snd (Prod.snd (Prod.snd (Prod.snd x)))))) == (↑(List.length (Prod.fst (Prod.snd (Prod.snd (Prod.snd (Prod.snd x)))))) : Int)) ((List.length (Prod.fst (Prod.snd x)) ≤ (1048576 : Nat) ∧ List.length (Prod.fst (Prod.snd x)) ≤ (1048576 : Nat)) ∧ Q (SV.bool ((↑(List.length (broadNew (Prod.fst (Prod.snd x)) (Prod.fst (Prod.snd x)))) : Int) == (0 : Int))) [(false, Blk.vec Ty.byte (Prod.fst x))]) (Q (SV.bool false) [(false, Blk.vec Ty.byte (Prod.fst x))]))))))) := by kernel_rfl

theorem ok_lawBroadNew : FsOk Try.prog 3 fs_lawBroadNew := fsOk_of tt_ok (tabFs_cons ok_DrawBroadNew (tabFs_cons ok_implBroadNew (tabFs_cons ok_specBroadNew (tabFs_cons ok_lawsPqPairs (tabFs_cons ok_specBroadOk (tabFs_cons ok_implBroadPairs tabFs_nil)))))) mixed Try.func3 (by kernel_rfl) (by kernel_rfl) (by
    intro args LL p r HH h hp
    unfold fs_lawBroadNew at h
    dsimp only at h
    split at h
    case h_2 => cases h
    rename_i b
    simp only [Option.some.injEq, Prod.mk.injEq] at h
    obtain ⟨rfl, rfl, rfl⟩ := h
    refine ⟨by simp [Form, stays], (L_lawBroadNew), ?_⟩
    rw [vc_lawBroadNew]
    try dsimp only
    have hb := bytesOk_of (hp _ rfl)
    refine ifB_of (fun c => ⟨rfl, rfl⟩) (fun c => ⟨hb, ?_⟩)
    have hd := nDraw_le b
    generalize nDraw b = z at *
    obtain ⟨xs, ys⟩ := z
    obtain ⟨hx, hy⟩ := hd
    dsimp only at hx hy ⊢
    simp only [same_self, Bool.not_true, ifBt, ifBf]
    have hg := length_broadNew xs ys
    refine ⟨⟨by omega, by omega⟩, ⟨by omega, by omega⟩, by omega, by omega, ifB_of (fun c1 => ⟨⟨by omega, by omega⟩, by omega, (by trivial), (by trivial)⟩) (fun c1 => ⟨by omega, ifB_of (fun c2 => ⟨⟨by omega, by omega⟩, by omega, (by trivial), (by trivial)⟩) (fun c2 => ?_)⟩)⟩
    have g1 := not_false c1
    have g2 := not_false c2
    have hp1 := length_broadPairs (xs := xs)
    have hp2 := length_broadPairs (xs := ys)
    have e1 : broadPairs xs = pairsF xs := by simp [broadPairs, g1]
    have e2 : broadPairs ys = pairsF ys := by simp [broadPairs, g2]
    have hnd : (broadPairs xs).Nodup := by rw [e1]; exact (nodup_pairsF (items_pairwise g1)).1
    have hnew : broadNew xs ys = newF (broadPairs xs) (broadPairs ys) := by rw [e1, e2]; simp [broadNew, g1, g2]
    have hself : broadNew ys ys = [] := by
      have : broadNew ys ys = newF (pairsF ys) (pairsF ys) := by simp [broadNew, g2]
      rw [this, newF_self]
    refine ⟨by omega, by omega, ⟨(by trivial), (by trivial), (by trivial), (by trivial), (by trivial), by omega, by omega, (by trivial)⟩, ?_⟩
    rintro ⟨b1, ys1, list, was, now, both, i⟩ ⟨h⟩
    dsimp only at h ⊢
    obtain ⟨q1, q2, q3, q4, q5, i0, i1, i2⟩ := h
    subst q1 q2 q3 q4 q5
    have w : IntKind.i64.wrap (i + 1) = i + 1 := wrap_small (by omega) (by omega)
    have ht : (i + 1).toNat = i.toNat + 1 := by omega
    refine ifB_of (fun c3 => ?_) (fun c3 => ?_)
    · have c3v := of_decide_eq_true c3
      have hb : ∀ k, bothN (broadPairs xs) ((broadPairs ys1).take k) ≤ 576 := fun k => by
        have h1 : bothN (broadPairs xs) ((broadPairs ys1).take k) ≤ ((broadPairs ys1).take k).length := List.length_filter_le _ _
        simp only [List.length_take] at h1
        omega
      refine ⟨⟨(by trivial), (by trivial), (by trivial), (by trivial), (by trivial), (by trivial), by omega, by omega, by simp [cntP]⟩, ?_⟩
      rintro ⟨b2, ys2, list2, was2, now2, both2, i', k⟩ ⟨h⟩
      dsimp only at h ⊢
      obtain ⟨q1, q2, q3, q4, q5, q6, k0, k1, k2⟩ := h
      subst q1 q2 q3 q4 q5 q6
      have wk : IntKind.i64.wrap (k + 1) = k + 1 := wrap_small (by omega) (by omega)
      have htk : (k + 1).toNat = k.toNat + 1 := by omega
      refine ifB_of (fun c4 => ?_) (fun c4 => ?_)
      · have c4 := of_decide_eq_true c4
        have st := cntP_step (ps := broadPairs xs) (p := Ty.ix .pair (broadPairs ys2) i'.toNat) (k := k.toNat) (by omega)
        have hc : cntP ((broadPairs xs).take k.toNat) (Ty.ix .pair (broadPairs ys2) i'.toNat) ≤ 576 := by
          have h1 : cntP ((broadPairs xs).take k.toNat) (Ty.ix .pair (broadPairs ys2) i'.toNat) ≤ ((broadPairs xs).take k.toNat).length := List.length_filter_le _ _
          simp only [List.length_take] at h1
          omega
        have hb2 := hb i'.toNat
        have w2 : IntKind.i64.wrap (both2 + 1) = both2 + 1 := wrap_small (by omega) (by omega)
        rw [wk, htk, w2]
        refine ⟨⟨k0, c4⟩, ⟨i0, c3v⟩, ifB_of (fun c5 => ?_) (fun c5 => ?_)⟩
        · have c5 : eqP (Ty.ix .pair (broadPairs xs) k.toNat) (Ty.ix .pair (broadPairs ys2) i'.toNat) = true := c5
          rw [if_pos c5] at st
          exact ⟨⟨(by trivial), (by trivial), (by trivial), (by trivial), (by trivial), (by trivial), by omega, by omega, by omega⟩, by omega⟩
        · have c5 : eqP (Ty.ix .pair (broadPairs xs) k.toNat) (Ty.ix .pair (broadPairs ys2) i'.toNat) = false := c5
          rw [if_neg (by rw [c5]; simp)] at st
          exact ⟨⟨(by trivial), (by trivial), (by trivial), (by trivial), (by trivial), (by trivial), by omega, by omega, by omega⟩, by omega⟩
      · have c4 := of_decide_eq_false c4
        have one := cntP_one hnd (Ty.ix .pair (broadPairs ys2) i'.toNat)
        have bs := bothN_step (was := broadPairs xs) (now := broadPairs ys2) (i := i'.toNat) (by omega)
        rw [List.take_of_length_le (by omega), one] at k2
        rw [w, ht]
        exact ⟨⟨(by trivial), (by trivial), (by trivial), (by trivial), (by trivial), by omega, by omega, by omega⟩, by omega⟩
    · have c3 := of_decide_eq_false c3
      rw [List.take_of_length_le (by omega)] at i2
      have all := bothN_all (broadPairs xs) (broadPairs ys1)
      rw [← hnew] at all
      have wb : IntKind.i64.wrap (((broadNew xs ys1).length : Int) + both) = ((broadPairs ys1).length : Int) := by rw [wrap_small (by omega) (by omega)]; omega
      rw [wb, hself]
      simp only [beq_self_eq_true, ifBt]
      exact ⟨⟨by omega, by omega⟩, (by trivial), (by trivial)⟩)

end Go.Proofs.Ytgdpaijphaeimaa.Sym
