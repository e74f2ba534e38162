/-
  Rays drawn, and the laws of rays.
  No condition.
-/
import Derived.Test.YteeelenokjahnaaD1
namespace Go.Proofs.Yteeelenokjahnaa.Sym
open Go
set_option linter.unusedVariables false
set_option linter.unusedSimpArgs false
set_option maxRecDepth 100000

theorem bytesOk_of {b : List Int} (h : LOk .byte b) : BytesOk b := ⟨fun x hx => by
  have := h.2 x hx (.int .u8 x) (by simp [Ty.enc])
  simp only [fits, Lit.wf, Bool.and_eq_true, decide_eq_true_eq] at this
  have h1 : IntKind.u8.min = 0 := rfl
  have h2 : IntKind.u8.max = 255 := rfl
  omega⟩

noncomputable def g_DrawRayRound (b : List Int) : Ray × Vec × Int := someAns tt (look [(73, fs_l1Open), (77, fs_rdPick), (76, fs_rdOne), (74, fs_l11AnyPlace), (75, fs_l11To)]) Try.f20 [.vec 0] [(false, .vec .byte b)] (fun x : Ray × Vec × Int => (.tup [.agg [.int .i64 ((x).1).From.X, .int .i64 ((x).1).From.Y, .int .i64 ((x).1).Way.X, .int .i64 ((x).1).Way.Y], .agg [.int .i64 ((x).2.1).X, .int .i64 ((x).2.1).Y], .int .i64 ((x).2.2)] : SV)) (fun x : Ray × Vec × Int => ([(false, .vec .byte b)] : List Ent))
noncomputable def fs_DrawRayRound : Fs := ⟨[], fun args H => match args, H with
  | [.vec 0], [(false, .vec .byte b)] => some ((some (BytesOk b)), .tup [.agg [.int .i64 (((g_DrawRayRound b)).1).From.X, .int .i64 (((g_DrawRayRound b)).1).From.Y, .int .i64 (((g_DrawRayRound b)).1).Way.X, .int .i64 (((g_DrawRayRound b)).1).Way.Y], .agg [.int .i64 (((g_DrawRayRound b)).2.1).X, .int .i64 (((g_DrawRayRound b)).2.1).Y], .int .i64 (((g_DrawRayRound b)).2.2)], [(false, .vec .byte b)])
  | _, _ => none⟩

theorem vc_DrawRayRound (b : List Int) (Q : SV → List Ent → Prop) :
    fnVC tt (look [(73, fs_l1Open), (77, fs_rdPick), (76, fs_rdOne), (74, fs_l11AnyPlace), (75, fs_l11To)]) L0 Try.f20 [.vec 0] [(false, .vec .byte b)] Q =
    (((0 : Int) ≤ (0 : Int) ∧ (0 : Int) + (4 : Int) ≤ (1000000000000 : Int) ∧ BytesOk (List.take (min (List.length b) (2000 : Nat)) (List.drop (0 : Nat) b))) ∧ ((0 : Int) ≤ (0 : Int) + (↑(Prod.snd (g_l11AnyPlace (List.take (min (List.length b) (2000 : Nat)) (List.drop (0 : Nat) b)) (0 : Int)) % (5 : Nat)) : Int) ∧ (0 : Int) + (↑(Prod.snd (g_l11AnyPlace (List.take (min (List.length b) (2000 : Nat)) (List.drop (0 : Nat) b)) (0 : Int)) % (5 : Nat)) : Int) + (24 : Int) ≤ (1000000000000 : Int) ∧ BytesOk (List.take (min (List.length b) (2000 : Nat)) (List.drop (0 : Nat) b))) ∧ ((0 : Int) ≤ (0 : Int) + (↑(Prod.snd (g_l11AnyPlace (List.take (min (List.length b) (2000 : Nat)) (List.drop (0 : Nat) b)) (0 : Int)) % (5 : Nat)) : Int) + (↑(Prod.snd (g_l11To (List.take (min (List.length b) (2000 : Nat)) (List.drop (0 : Nat) b)) ((0 : Int) + (↑(Prod.snd (g_l11AnyPlace (List.take (min (List.length b) (2000 : Nat)) (List.drop (0 : Nat) b)) (0 : Int)) % (5 : Nat)) : Int)) (Vec.X (Prod.fst (g_l11AnyPlace (List.take (min (List.length b) (2000 : Nat)) (List.drop (0 : Nat) b)) (0 : Int)))) (Vec.Y (Prod.fst (g_l11AnyPlace (List.take (min (List.length b) (2000 : Nat)) (List.drop (0 : Nat) b)) (0 : Int))))) % (25 : Nat)) : Int) ∧ (0 : Int) + (↑(Prod.snd (g_l11AnyPlace (List.take (min (List.length b) (2000 : Nat)) (List.drop (0 : Nat) b)) (0 : Int)) % (5 : Nat)) : Int) + (↑(Prod.snd (g_l11To (List.take (min (List.length b) (2000 : Nat)) (List.drop (0 : Nat) b)) ((0 : Int) + (↑(Prod.snd (g_l11AnyPlace (List.take (min (List.length b) (2000 : Nat)) (List.drop (0 : Nat) b)) (0 : Int)) % (5 : Nat)) : Int)) (Vec.X (Prod.fst (g_l11AnyPlace (List.take (min (List.length b) (2000 : Nat)) (List.drop (0 : Nat) b)) (0 : Int)))) (Vec.Y (Prod.fst (g_l11AnyPlace (List.take (min (List.length b) (2000 : Nat)) (List.drop (0 : Nat) b)) (0 : Int))))) % (25 : Nat)) : Int) + (1 : Int) ≤ (1000000000000 : Int) ∧ BytesOk (List.take (min (List.length b) (2000 : Nat)) (List.drop (0 : Nat) b)) ∧ (1 : Int) ≤ (256 : Int)) ∧ ((0 : Int) ≤ (0 : Int) + (↑(Prod.snd (g_l11AnyPlace (List.take (min (List.length b) (2000 : Nat)) (List.drop (0 : Nat) b)) (0 : Int)) % (5 : Nat)) : Int) + (↑(Prod.snd (g_l11To (List.take (min (List.length b) (2000 : Nat)) (List.drop (0 : Nat) b)) ((0 : Int) + (↑(Prod.snd (g_l11AnyPlace (List.take (min (List.length b) (2000 : Nat)) (List.drop (0 : Nat) b)) (0 : Int)) % (5 : Nat)) : Int)) (Vec.X (Prod.fst (g_l11AnyPlace (List.take (min (List.length b) (2000 : Nat)) (List.drop (0 : Nat) b)) (0 : Int)))) (Vec.Y (Prod.fst (g_l11AnyPlace (List.take (min (List.length b) (2000 : Nat)) (List.drop (0 : Nat) b)) (0 : Int))))) % (25 : Nat)) : Int) + (1 : Int) ∧ (0 : Int) + (↑(Prod.snd (g_l11AnyPlace (List.take (min (List.length b) (2000 : Nat)) (List.drop (0 : Nat) b)) (0 : Int)) % (5 : Nat)) : Int) + (↑(Prod.snd (g_l11To (List.take (min (List.length b) (2000 : Nat)) (List.drop (0 : Nat) b)) ((0 : Int) + (↑(Prod.snd (g_l11AnyPlace (List.take (min (List.length b) (2000 : Nat)) (List.drop (0 : Nat) b)) (0 : Int)) % (5 : Nat)) : Int)) (Vec.X (Prod.fst (g_l11AnyPlace (List.take (min (List.length b) (2000 : Nat)) (List.drop (0 : Nat) b)) (0 : Int)))) (Vec.Y (Prod.fst (g_l11AnyPlace (List.take (min (List.length b) (2000 : Nat)) (List.drop (0 : Nat) b)) (0 : Int))))) % (25 : Nat)) : Int) + (1 : Int) + (1 : Int) ≤ (1000000000000 : Int) ∧ BytesOk (List.take (min (List.length b) (2000 : Nat)) (List.drop (0 : Nat) b)) ∧ (1 : Int) ≤ (256 : Int)) ∧ ((0 : Int) ≤ (0 : Int) + (↑(Prod.snd (g_l11AnyPlace (List.take (min (List.length b) (2000 : Nat)) (List.drop (0 : Nat) b)) (0 : Int)) % (5 : Nat)) : Int) + (↑(Prod.snd (g_l11To (List.take (min (List.length b) (2000 : Nat)) (List.drop (0 : Nat) b)) ((0 : Int) + (↑(Prod.snd (g_l11AnyPlace (List.take (min (List.length b) (2000 : Nat)) (List.drop (0 : Nat) b)) (0 : Int)) % (5 : Nat)) : Int)) (Vec.X (Prod.fst (g_l11AnyPlace (List.take (min (List.length b) (2000 : Nat)) (List.drop (0 : Nat) b)) (0 : Int)))) (Vec.Y (Prod.fst (g_l11AnyPlace (List.take (min (List.length b) (2000 : Nat)) (List.drop (0 : Nat) b)) (0 : Int))))) % (25 : Nat)) : Int) + (1 : Int) + (1 : Int) ∧ (0 : Int) + (↑(Prod.snd (g_l11AnyPlace (List.take (min (List.length b) (2000 : Nat)) (List.drop (0 : Nat) b)) (0 : Int)) % (5 : Nat)) : Int) + (↑(Prod.snd (g_l11To (List.take (min (List.length b) (2000 : Nat)) (List.drop (0 : Nat) b)) ((0 : Int) + (↑(Prod.snd (g_l11AnyPlace (List.take (min (List.length b) (2000 : Nat)) (List.drop (0 : Nat) b)) (0 : Int)) % (5 : Nat)) : Int)) (Vec.X (Prod.fst (g_l11AnyPlace (List.take (min (List.length b) (2000 : Nat)) (List.drop (0 : Nat) b)) (0 : Int)))) (Vec.Y (Prod.fst (g_l11AnyPlace (List.take (min (List.length b) (2000 : Nat)) (List.drop (0 : Nat) b)) (0 : Int))))) % (25 : Nat)) : Int) + (1 : Int) + (1 : Int) + (1 : Int) ≤ (1000000000000 : Int) ∧ BytesOk (List.take (min (List.length b) (2000 : Nat)) (List.drop (0 : Nat) b)) ∧ (1 : Nat) ≤ List.length [(1 : Int), (256 : Int), (100 : Int), IntKind.wrap IntKind.i64 (g_rdPick (List.take (min (List.length b) (2000 : Nat)) (List.drop (0 : Nat) b)) ((0 : Int) + (↑(Prod.snd (g_l11AnyPlace (List.take (min (List.length b) (2000 : Nat)) (List.drop (0 : Nat) b)) (0 : Int)) % (5 : Nat)) : Int) + (↑(Prod.snd (g_l11To (List.take (min (List.length b) (2000 : Nat)) (List.drop (0 : Nat) b)) ((0 : Int) + (↑(Prod.snd (g_l11AnyPlace (List.take (min (List.length b) (2000 : Nat)) (List.drop (0 : Nat) b)) (0 : Int)) % (5 : Nat)) : Int)) (Vec.X (Prod.fst (g_l11AnyPlace (List.take (min (List.length b) (2000 : Nat)) (List.drop (0 : Nat) b)) (0 : Int)))) (Vec.Y (Prod.fst (g_l11AnyPlace (List.take (min (List.length b) (2000 : Nat)) (List.drop (0 : Nat) b)) (0 : Int))))) % (25 : Nat)) : Int)) (256 : Int) % (256 : Int) * (4 : Int)), g_rdPick (List.take (min (List.length b) (2000 : Nat)) (List.drop (0 : Nat) b)) ((0 : Int) + (↑(Prod.snd (g_l11AnyPlace (List.take (min (List.length b) (2000 : Nat)) (List.drop (0 : Nat) b)) (0 : Int)) % (5 : Nat)) : Int) + (↑(Prod.snd (g_l11To (List.take (min (List.length b) (2000 : Nat)) (List.drop (0 : Nat) b)) ((0 : Int) + (↑(Prod.snd (g_l11AnyPlace (List.take (min (List.length b) (2000 : Nat)) (List.drop (0 : Nat) b)) (0 : Int)) % (5 : Nat)) : Int)) (Vec.X (Prod.fst (g_l11AnyPlace (List.take (min (List.length b) (2000 : Nat)) (List.drop (0 : Nat) b)) (0 : Int)))) (Vec.Y (Prod.fst (g_l11AnyPlace (List.take (min (List.length b) (2000 : Nat)) (List.drop (0 : Nat) b)) (0 : Int))))) % (25 : Nat)) : Int) + (1 : Int)) (256 : Int) % (256 : Int), (0 : Int), (25600 : Int), (25601 : Int)]) ∧ Q (SV.tup [SV.agg [SV.int IntKind.i64 (Vec.X (Ray.From (Prod.fst (g_l11To (List.take (min (List.length b) (2000 : Nat)) (List.drop (0 : Nat) b)) ((0 : Int) + (↑(Prod.snd (g_l11AnyPlace (List.take (min (List.length b) (2000 : Nat)) (List.drop (0 : Nat) b)) (0 : Int)) % (5 : Nat)) : Int)) (Vec.X (Prod.fst (g_l11AnyPlace (List.take (min (List.length b) (2000 : Nat)) (List.drop (0 : Nat) b)) (0 : Int)))) (Vec.Y (Prod.fst (g_l11AnyPlace (List.take (min (List.length b) (2000 : Nat)) (List.drop (0 : Nat) b)) (0 : Int)))))))), SV.int IntKind.i64 (Vec.Y (Ray.From (Prod.fst (g_l11To (List.take (min (List.length b) (2000 : Nat)) (List.drop (0 : Nat) b)) ((0 : Int) + (↑(Prod.snd (g_l11AnyPlace (List.take (min (List.length b) (2000 : Nat)) (List.drop (0 : Nat) b)) (0 : Int)) % (5 : Nat)) : Int)) (Vec.X (Prod.fst (g_l11AnyPlace (List.take (min (List.length b) (2000 : Nat)) (List.drop (0 : Nat) b)) (0 : Int)))) (Vec.Y (Prod.fst (g_l11AnyPlace (List.take (min (List.length b) (2000 : Nat)) (List.drop (0 : Nat) b)) (0 : Int)))))))), SV.int IntKind.i64 (Vec.X (Ray.Way (Prod.fst (g_l11To (List.take (min (List.length b) (2000 : Nat)) (List.drop (0 : Nat) b)) ((0 : Int) + (↑(Prod.snd (g_l11AnyPlace (List.take (min (List.length b) (2000 : Nat)) (List.drop (0 : Nat) b)) (0 : Int)) % (5 : Nat)) : Int)) (Vec.X (Prod.fst (g_l11AnyPlace (List.take (min (List.length b) (2000 : Nat)) (List.drop (0 : Nat) b)) (0 : Int)))) (Vec.Y (Prod.fst (g_l11AnyPlace (List.take (min (List.length b) (2000 : Nat)) (List.drop (0 : Nat) b)) (0 : Int)))))))), SV.int IntKind.i64 (Vec.Y (Ray.Way (Prod.fst (g_l11To (List.take (min (List.length b) (2000 : Nat)) (List.drop (0 : Nat) b)) ((0 : Int) + (↑(Prod.snd (g_l11AnyPlace (List.take (min (List.length b) (2000 : Nat)) (List.drop (0 : Nat) b)) (0 : Int)) % (5 : Nat)) : Int)) (Vec.X (Prod.fst (g_l11AnyPlace (List.take (min (List.length b) (2000 : Nat)) (List.drop (0 : Nat) b)) (0 : Int)))) (Vec.Y (Prod.fst (g_l11AnyPlace (List.take (min (List.length b) (2000 : Nat)) (List.drop (0 : Nat) b)) (0 : Int))))))))], SV.agg [SV.int IntKind.i64 (Vec.X (Prod.fst (g_l11AnyPlace (List.take (min (List.length b) (2000 : Nat)) (List.drop (0 : Nat) b)) (0 : Int)))), SV.int IntKind.i64 (Vec.Y (Prod.fst (g_l11AnyPlace (List.take (min (List.length b) (2000 : Nat)) (List.drop (0 : Nat) b)) (0 : Int))))], SV.int IntKind.i64 (Ty.ix Ty.int [(1 : Int), (256 : Int), (100 : Int), IntKind.wrap IntKind.i64 (g_rdPick (List.take (min (List.length b) (2000 : Nat)) (List.drop (0 : Nat) b)) ((0 : Int) + (↑(Prod.snd (g_l11AnyPlace (List.take (min (List.length b) (2000 : Nat)) (List.drop (0 : Nat) b)) (0 : Int)) % (5 : Nat)) : Int) + (↑(Prod.snd (g_l11To (List.take (min (List.length b) (2000 : Nat)) (List.drop (0 : Nat) b)) ((0 : Int) + (↑(Prod.snd (g_l11AnyPlace (List.take (min (List.length b) (2000 : Nat)) (List.drop (0 : Nat) b)) (0 : Int)) % (5 : Nat)) : Int)) (Vec.X (Prod.fst (g_l11AnyPlace (List.take (min (List.length b) (2000 : Nat)) (List.drop (0 : Nat) b)) (0 : Int)))) (Vec.Y (Prod.fst (g_l11AnyPlace (List.take (min (List.length b) (2000 : Nat)) (List.drop (0 : Nat) b)) (0 : Int))))) % (25 : Nat)) : Int)) (256 : Int) % (256 : Int) * (4 : Int)), g_rdPick (List.take (min (List.length b) (2000 : Nat)) (List.drop (0 : Nat) b)) ((0 : Int) + (↑(Prod.snd (g_l11AnyPlace (List.take (min (List.length b) (2000 : Nat)) (List.drop (0 : Nat) b)) (0 : Int)) % (5 : Nat)) : Int) + (↑(Prod.snd (g_l11To (List.take (min (List.length b) (2000 : Nat)) (List.drop (0 : Nat) b)) ((0 : Int) + (↑(Prod.snd (g_l11AnyPlace (List.take (min (List.length b) (2000 : Nat)) (List.drop (0 : Nat) b)) (0 : Int)) % (5 : Nat)) : Int)) (Vec.X (Prod.fst (g_l11AnyPlace (List.take (min (List.length b) (2000 : Nat)) (List.drop (0 : Nat) b)) (0 : Int)))) (Vec.Y (Prod.fst (g_l11AnyPlace (List.take (min (List.length b) (2000 : Nat)) (List.drop (0 : Nat) b)) (0 : Int))))) % (25 : Nat)) : Int) + (1 : Int)) (256 : Int) % (256 : Int), (0 : Int), (25600 : Int), (25601 : Int)] (Int.toNat (g_rdPick (List.take (min (List.length b) (2000 : Nat)) (List.drop (0 : Nat) b)) ((0 : Int) + (↑(Prod.snd (g_l11AnyPlace (List.take (min (List.length b) (2000 : Nat)) (List.drop (0 : Nat) b)) (0 : Int)) % (5 : Nat)) : Int) + (↑(Prod.snd (g_l11To (List.take (min (List.length b) (2000 : Nat)) (List.drop (0 : Nat) b)) ((0 : Int) + (↑(Prod.snd (g_l11AnyPlace (List.take (min (List.length b) (2000 : Nat)) (List.drop (0 : Nat) b)) (0 : Int)) % (5 : Nat)) : Int)) (Vec.X (Prod.fst (g_l11AnyPlace (List.take (min (List.length b) (2000 : Nat)) (List.drop (0 : Nat) b)) (0 : Int)))) (Vec.Y (Prod.fst (g_l11AnyPlace (List.take (min (List.length b) (2000 : Nat)) (List.drop (0 : Nat) b)) (0 : Int))))) % (25 : Nat)) : Int) + (1 : Int) + (1 : Int)) (↑(List.length [(1 : Int), (256 : Int), (100 : Int), IntKind.wrap IntKind.i64 (g_rdPick (List.take (min (List.length b) (2000 : Nat)) (List.drop (0 : Nat) b)) ((0 : Int) + (↑(Prod.snd (g_l11AnyPlace (List.take (min (List.length b) (2000 : Nat)) (List.drop (0 : Nat) b)) (0 : Int)) % (5 : Nat)) : Int) + (↑(Prod.snd (g_l11To (List.take (min (List.length b) (2000 : Nat)) (List.drop (0 : Nat) b)) ((0 : Int) + (↑(Prod.snd (g_l11AnyPlace (List.take (min (List.length b) (2000 : Nat)) (List.drop (0 : Nat) b)) (0 : Int)) % (5 : Nat)) : Int)) (Vec.X (Prod.fst (g_l11AnyPlace (List.take (min (List.length b) (2000 : Nat)) (List.drop (0 : Nat) b)) (0 : Int)))) (Vec.Y (Prod.fst (g_l11AnyPlace (List.take (min (List.length b) (2000 : Nat)) (List.drop (0 : Nat) b)) (0 : Int))))) % (25 : Nat)) : Int)) (256 : Int) % (256 : Int) * (4 : Int)), g_rdPick (List.take (min (List.length b) (2000 : Nat)) (List.drop (0 : Nat) b)) ((0 : Int) + (↑(Prod.snd (g_l11AnyPlace (List.take (min (List.length b) (2000 : Nat)) (List.drop (0 : Nat) b)) (0 : Int)) % (5 : Nat)) : Int) + (↑(Prod.snd (g_l11To (List.take (min (List.length b) (2000 : Nat)) (List.drop (0 : Nat) b)) ((0 : Int) + (↑(Prod.snd (g_l11AnyPlace (List.take (min (List.length b) (2000 : Nat)) (List.drop (0 : Nat) b)) (0 : Int)) % (5 : Nat)) : Int)) (Vec.X (Prod.fst (g_l11AnyPlace (List.take (min (List.length b) (2000 : Nat)) (List.drop (0 : Nat) b)) (0 : Int)))) (Vec.Y (Prod.fst (g_l11AnyPlace (List.take (min (List.length b) (2000 : Nat)) (List.drop (0 : Nat) b)) (0 : Int))))) % (25 : Nat)) : Int) + (1 : Int)) (256 : Int) % (256 : Int), (0 : Int), (25600 : Int), (25601 : Int)]) : Int) % (↑(List.length [(1 : Int), (256 : Int), (100 : Int), IntKind.wrap IntKind.i64 (g_rdPick (List.take (min (List.length b) (2000 : Nat)) (List.drop (0 : Nat) b)) ((0 : Int) + (↑(Prod.snd (g_l11AnyPlace (List.take (min (List.length b) (2000 : Nat)) (List.drop (0 : Nat) b)) (0 : Int)) % (5 : Nat)) : Int) + (↑(Prod.snd (g_l11To (List.take (min (List.length b) (2000 : Nat)) (List.drop (0 : Nat) b)) ((0 : Int) + (↑(Prod.snd (g_l11AnyPlace (List.take (min (List.length b) (2000 : Nat)) (List.drop (0 : Nat) b)) (0 : Int)) % (5 : Nat)) : Int)) (Vec.X (Prod.fst (g_l11AnyPlace (List.take (min (List.length b) (2000 : Nat)) (List.drop (0 : Nat) b)) (0 : Int)))) (Vec.Y (Prod.fst (g_l11AnyPlace (List.take (min (List.length b) (2000 : Nat)) (List.drop (0 : Nat) b)) (0 : Int))))) % (25 : Nat)) : Int)) (256 : Int) % (256 : Int) * (4 : Int)), g_rdPick (List.take (min (List.length b) (2000 : Nat)) (List.drop (0 : Nat) b)) ((0 : Int) + (↑(Prod.snd (g_l11AnyPlace (List.take (min (List.length b) (2000 : Nat)) (List.drop (0 : Nat) b)) (0 : Int)) % (5 : Nat)) : Int) + (↑(Prod.snd (g_l11To (List.take (min (List.length b) (2000 : Nat)) (List.drop (0 : Nat) b)) ((0 : Int) + (↑(Prod.snd (g_l11AnyPlace (List.take (min (List.length b) (2000 : Nat)) (List.drop (0 : Nat) b)) (0 : Int)) % (5 : Nat)) : Int)) (Vec.X (Prod.fst (g_l11AnyPlace (List.take (min (List.length b) (2000 : Nat)) (List.drop (0 : Nat) b)) (0 : Int)))) (Vec.Y (Prod.fst (g_l11AnyPlace (List.take (min (List.length b) (2000 : Nat)) (List.drop (0 : Nat) b)) (0 : Int))))) % (25 : Nat)) : Int) + (1 : Int)) (256 : Int) % (256 : Int), (0 : Int), (25600 : Int), (25601 : Int)]) : Int))))]) [(false, Blk.vec Ty.byte b)]) := by kernel_rfl

theorem ok_DrawRayRound : FsOk Try.prog 20 fs_DrawRayRound := fsOk_of tt_ok (tabFs_cons ok_l1Open (tabFs_cons ok_rdPick (tabFs_cons ok_rdOne (tabFs_cons ok_l11AnyPlace (tabFs_cons ok_l11To tabFs_nil))))) mixed Try.func20 (by kernel_rfl) (by kernel_rfl) (by
    intro args LL p0 r HH h hp
    unfold fs_DrawRayRound at h
    dsimp only at h
    split at h
    case h_2 => cases h
    rename_i b
    simp only [Option.some.injEq, Prod.mk.injEq] at h
    obtain ⟨rfl, rfl, rfl⟩ := h
    refine ⟨by simp [Form, stays], L0, ?_⟩
    have hby := hp _ rfl
    refine someAns_ok (R := (fun x : Ray × Vec × Int => (.tup [.agg [.int .i64 ((x).1).From.X, .int .i64 ((x).1).From.Y, .int .i64 ((x).1).Way.X, .int .i64 ((x).1).Way.Y], .agg [.int .i64 ((x).2.1).X, .int .i64 ((x).2.1).Y], .int .i64 ((x).2.2)] : SV))) (HH := (fun x : Ray × Vec × Int => ([(false, .vec .byte b)] : List Ent))) (by kernel_rfl) ?_
    have fin : ∀ (z0FX : Int) (z0FY : Int) (z0WX : Int) (z0WY : Int) (z1X : Int) (z1Y : Int) (z2 : Int), ∃ x : Ray × Vec × Int, ((.tup [.agg [.int .i64 ((((Ray.mk (Vec.mk z0FX z0FY) (Vec.mk z0WX z0WY)), (Vec.mk z1X z1Y), z2)).1).From.X, .int .i64 ((((Ray.mk (Vec.mk z0FX z0FY) (Vec.mk z0WX z0WY)), (Vec.mk z1X z1Y), z2)).1).From.Y, .int .i64 ((((Ray.mk (Vec.mk z0FX z0FY) (Vec.mk z0WX z0WY)), (Vec.mk z1X z1Y), z2)).1).Way.X, .int .i64 ((((Ray.mk (Vec.mk z0FX z0FY) (Vec.mk z0WX z0WY)), (Vec.mk z1X z1Y), z2)).1).Way.Y], .agg [.int .i64 ((((Ray.mk (Vec.mk z0FX z0FY) (Vec.mk z0WX z0WY)), (Vec.mk z1X z1Y), z2)).2.1).X, .int .i64 ((((Ray.mk (Vec.mk z0FX z0FY) (Vec.mk z0WX z0WY)), (Vec.mk z1X z1Y), z2)).2.1).Y], .int .i64 ((((Ray.mk (Vec.mk z0FX z0FY) (Vec.mk z0WX z0WY)), (Vec.mk z1X z1Y), z2)).2.2)] : SV) : SV) = (fun x : Ray × Vec × Int => (.tup [.agg [.int .i64 ((x).1).From.X, .int .i64 ((x).1).From.Y, .int .i64 ((x).1).Way.X, .int .i64 ((x).1).Way.Y], .agg [.int .i64 ((x).2.1).X, .int .i64 ((x).2.1).Y], .int .i64 ((x).2.2)] : SV)) x ∧ (([(false, .vec .byte b)] : List Ent) : List Ent) = (fun x : Ray × Vec × Int => ([(false, .vec .byte b)] : List Ent)) x := fun z0FX z0FY z0WX z0WY z1X z1Y z2 => ⟨((Ray.mk (Vec.mk z0FX z0FY) (Vec.mk z0WX z0WY)), (Vec.mk z1X z1Y), z2), rfl, rfl⟩
    rw [vc_DrawRayRound]
    try dsimp only
    try dsimp only at fin
    repeat' (first | refine ifB_of (fun _ => ?_) (fun _ => ?_) | refine pre_of ?_ (fun _ => ?_))
    all_goals first
      | exact fin _ _ _ _ _ _ _
      | omega
      | exact hby
      | exact hby.part _ _
      | exact Nat.le_add_left _ _
      | exact ⟨by omega, by omega, hby.part _ _⟩
      | exact ⟨by omega, by omega, hby.part _ _, by omega⟩
      | exact ⟨by omega, by omega, hby.part _ _, Nat.le_add_left _ _⟩)

theorem roundFrom_spec {r : Ray} {p : Vec} {wide t : Int} : ∀ {n : Nat}, n ≤ 257 → roundFrom r p wide n = (t, true) → 257 - (n : Int) ≤ t ∧ t ≤ 256 ∧ roundAt r p wide t = true ∧ ∀ k : Int, 257 - (n : Int) ≤ k → k < t → roundAt r p wide k = false
  | 0, _, h => by simp [roundFrom] at h
  | n + 1, hn, h => by
    rw [roundFrom] at h
    cases c : roundAt r p wide (257 - ((n : Int) + 1)) with
    | true =>
      rw [c] at h
      simp only [cond_true, Prod.mk.injEq, and_true] at h
      subst h
      exact ⟨by omega, by omega, c, fun k h1 h2 => by omega⟩
    | false =>
      rw [c] at h
      simp only [cond_false] at h
      obtain ⟨h1, h2, h3, h4⟩ := roundFrom_spec (by omega) h
      refine ⟨by omega, h2, h3, fun k h5 h6 => ?_⟩
      by_cases e : k = 257 - ((n : Int) + 1)
      · rw [e]; exact c
      · exact h4 k (by omega) h6
theorem rayRound_spec {r : Ray} {p : Vec} {wide t : Int} (h : rayRound r p wide = (t, true)) : 0 ≤ t ∧ t ≤ 256 ∧ roundAt r p wide t = true ∧ ∀ k : Int, 0 ≤ k → k < t → roundAt r p wide k = false := by
  unfold rayRound at h
  cases c : (rayOk r && placeOk p && isIn wide 1 25600) with
  | false => rw [c] at h; simp at h
  | true =>
    rw [c] at h
    obtain ⟨h1, h2, h3, h4⟩ := roundFrom_spec (by omega) h
    exact ⟨by omega, h2, h3, fun k h5 h6 => h4 k (by omega) h6⟩
def LSlawRayRound (b0 : List Int) (r : Ray) (a : Vec) (w : Int) (t : Int) : LS where
  S := List Int × Ray × Vec × Int × Int × Int
  live := [(3, [none]), (4, [none]), (5, [none]), (6, [none]), (10, [none])]
  shape := fun s => ([.ptr 1 0 0, .ptr 2 0 0, .int .i64 s.2.2.2.1, .int .i64 s.2.2.2.2.1, .int .i64 s.2.2.2.2.2], [(false, .vec .byte s.1), (true, .box [.int .i64 s.2.1.From.X, .int .i64 s.2.1.From.Y, .int .i64 s.2.1.Way.X, .int .i64 s.2.1.Way.Y]), (true, .box [.int .i64 s.2.2.1.X, .int .i64 s.2.2.1.Y])])
  get := fun v h => match v, h with
    | [.ptr 1 0 0, .ptr 2 0 0, .int .i64 w', .int .i64 t', .int .i64 k], [(false, .vec .byte b), (true, .box [.int .i64 r'FX, .int .i64 r'FY, .int .i64 r'WX, .int .i64 r'WY]), (true, .box [.int .i64 a'X, .int .i64 a'Y])] => some (b, (Ray.mk (Vec.mk r'FX r'FY) (Vec.mk r'WX r'WY)), (Vec.mk a'X a'Y), w', t', k)
    | _, _ => none
  inv := fun s0 s => Holds (s.1 = b0 ∧ s.2.1 = r ∧ s.2.2.1 = a ∧ s.2.2.2.1 = w ∧ s.2.2.2.2.1 = t ∧ 0 ≤ s.2.2.2.2.2 ∧ s.2.2.2.2.2 ≤ t + 1)
  mu := fun s => (t + 1 - s.2.2.2.2.2).toNat
  ok := by
    intro v h s hg
    try dsimp only at hg
    split at hg <;> cases hg
    rfl

noncomputable def L_lawRayRound (b : List Int) (z : Ray × Vec × Int) : Loops := fun n => match n with
  | 9 => some (LSlawRayRound b z.1 z.2.1 z.2.2 (rayRound z.1 z.2.1 z.2.2).1)
  | _ => none
noncomputable def fs_lawRayRound : Fs := ⟨[], fun args H => match args, H with
  | [.vec 0], [(false, .vec .byte b)] => some ((some (LOk .byte b)), .bool (true), [(false, .vec .byte b)])
  | _, _ => none⟩

theorem vc_lawRayRound (b : List Int) (Q : SV → List Ent → Prop) :
    fnVC tt (look [(20, fs_DrawRayRound), (21, fs_implRayRound), (22, fs_specRayRound)]) (L_lawRayRound b (g_DrawRayRound b)) Try.f4 [.vec 0] [(false, .vec .byte b)] Q =
    (ifB (decide ((↑(List.length b) : Int) > (1048576 : Int))) (Q (SV.bool true) [(false, Blk.vec Ty.byte b)]) (BytesOk b ∧ ifB (!Prod.snd (rayRound (Prod.fst (g_DrawRayRound b)) (Prod.fst (Prod.snd (g_DrawRayRound b))) (Prod.snd (Prod.snd (g_DrawRayRound b)))) == Prod.snd (rayRound (Prod.fst (g_DrawRayRound b)) (Prod.fst (Prod.snd (g_DrawRayRound b))) (Prod.snd (Prod.snd (g_DrawRayRound b))))) (ifB (Prod.snd (rayRound (Prod.fst (g_DrawRayRound b)) (Prod.fst (Prod.snd (g_DrawRayRound b))) (Prod.snd (Prod.snd (g_DrawRayRound b)))) == Prod.snd (rayRound (Prod.fst (g_DrawRayRound b)) (Prod.fst (Prod.snd (g_DrawRayRound b))) (Prod.snd (Prod.snd (g_DrawRayRound b))))) (Q (SV.bool (Prod.fst (rayRound (Prod.fst (g_DrawRayRound b)) (Prod.fst (Prod.snd (g_DrawRayRound b))) (Prod.snd (Prod.snd (g_DrawRayRound b)))) == Prod.fst (rayRound (Prod.fst (g_DrawRayRound b)) (Prod.fst (Prod.snd (g_DrawRayRound b))) (Prod.snd (Prod.snd (g_DrawRayRound b)))))) [(false, Blk.vec Ty.byte b)]) (Q (SV.bool false) [(false, Blk.vec Ty.byte b)])) (ifB (Prod.fst (rayRound (Prod.fst (g_DrawRayRound b)) (Prod.fst (Prod.snd (g_DrawRayRound b))) (Prod.snd (Prod.snd (g_DrawRayRound b)))) != Prod.fst (rayRound (Prod.fst (g_DrawRayRound b)) (Prod.fst (Prod.snd (g_DrawRayRound b))) (Prod.snd (Prod.snd (g_DrawRayRound b))))) (ifB (Prod.snd (rayRound (Prod.fst (g_DrawRayRound b)) (Prod.fst (Prod.snd (g_DrawRayRound b))) (Prod.snd (Prod.snd (g_DrawRayRound b)))) == Prod.snd (rayRound (Prod.fst (g_DrawRayRound b)) (Prod.fst (Prod.snd (g_DrawRayRound b))) (Prod.snd (Prod.snd (g_DrawRayRound b))))) (Q (SV.bool (Prod.fst (rayRound (Prod.fst (g_DrawRayRound b)) (Prod.fst (Prod.snd (g_DrawRayRound b))) (Prod.snd (Prod.snd (g_DrawRayRound b)))) == Prod.fst (rayRound (Prod.fst (g_DrawRayRound b)) (Prod.fst (Prod.snd (g_DrawRayRound b))) (Prod.snd (Prod.snd (g_DrawRayRound b)))))) [(false, Blk.vec Ty.byte b)]) (Q (SV.bool false) [(false, Blk.vec Ty.byte b)])) (ifB (!Prod.snd (rayRound (Prod.fst (g_DrawRayRound b)) (Prod.fst (Prod.snd (g_DrawRayRound b))) (Prod.snd (Prod.snd (g_DrawRayRound b))))) (ifB (Prod.snd (rayRound (Prod.fst (g_DrawRayRound b)) (Prod.fst (Prod.snd (g_DrawRayRound b))) (Prod.snd (Prod.snd (g_DrawRayRound b)))) == Prod.snd (rayRound (Prod.fst (g_DrawRayRound b)) (Prod.fst (Prod.snd (g_DrawRayRound b))) (Prod.snd (Prod.snd (g_DrawRayRound b))))) (Q (SV.bool (Prod.fst (rayRound (Prod.fst (g_DrawRayRound b)) (Prod.fst (Prod.snd (g_DrawRayRound b))) (Prod.snd (Prod.snd (g_DrawRayRound b)))) == Prod.fst (rayRound (Prod.fst (g_DrawRayRound b)) (Prod.fst (Prod.snd (g_DrawRayRound b))) (Prod.snd (Prod.snd (g_DrawRayRound b)))))) [(false, Blk.vec Ty.byte b)]) (Q (SV.bool false) [(false, Blk.vec Ty.byte b)])) (Holds (b = b ∧ Prod.fst (g_DrawRayRound b) = Prod.fst (g_DrawRayRound b) ∧ Prod.fst (Prod.snd (g_DrawRayRound b)) = Prod.fst (Prod.snd (g_DrawRayRound b)) ∧ Prod.snd (Prod.snd (g_DrawRayRound b)) = Prod.snd (Prod.snd (g_DrawRayRound b)) ∧ Prod.fst (rayRound (Prod.fst (g_DrawRayRound b)) (Prod.fst (Prod.snd (g_DrawRayRound b))) (Prod.snd (Prod.snd (g_DrawRayRound b)))) = Prod.fst (rayRound (Prod.fst (g_DrawRayRound b)) (Prod.fst (Prod.snd (g_DrawRayRound b))) (Prod.snd (Prod.snd (g_DrawRayRound b)))) ∧ (0 : Int) ≤ (0 : Int) ∧ (0 : Int) ≤ Prod.fst (rayRound (Prod.fst (g_DrawRayRound b)) (Prod.fst (Prod.snd (g_DrawRayRound b))) (Prod.snd (Prod.snd (g_DrawRayRound b)))) + (1 : Int)) ∧ ∀ (x : List Int × Ray × Vec × Int × Int × Int), Holds (Prod.fst x = b ∧ Prod.fst (Prod.snd x) = Prod.fst (g_DrawRayRound b) ∧ Prod.fst (Prod.snd (Prod.snd x)) = Prod.fst (Prod.snd (g_DrawRayRound b)) ∧ Prod.fst (Prod.snd (Prod.snd (Prod.snd x))) = Prod.snd (Prod.snd (g_DrawRayRound b)) ∧ Prod.fst (Prod.snd (Prod.snd (Prod.snd (Prod.snd x)))) = Prod.fst (rayRound (Prod.fst (g_DrawRayRound b)) (Prod.fst (Prod.snd (g_DrawRayRound b))) (Prod.snd (Prod.snd (g_DrawRayRound b)))) ∧ (0 : Int) ≤ Prod.snd (Prod.snd (Prod.snd (Prod.snd (Prod.snd x)))) ∧ Prod.snd (Prod.snd (Prod.snd (Prod.snd (Prod.snd x)))) ≤ Prod.fst (rayRound (Prod.fst (g_DrawRayRound b)) (Prod.fst (Prod.snd (g_DrawRayRound b))) (Prod.snd (Prod.snd (g_DrawRayRound b)))) + (1 : Int)) → ifB (decide (Prod.snd (Prod.snd (Prod.snd (Prod.snd (Prod.snd x)))) ≤ Prod.fst (Prod.snd (Prod.snd (Prod.snd (Prod.snd x)))))) (ifB (!decide (IntKind.wrap IntKind.i64 (IntKind.wrap IntKind.i64 (IntKind.wrap IntKind.i64 (IntKind.wrap IntKind.i64 (Vec.X (Ray.From (Prod.fst (Prod.snd x))) + IntKind.wrap IntKind.i64 (Int.tdiv (IntKind.wrap IntKind.i64 (Vec.X (Ray.Way (Prod.fst (Prod.snd x))) * Prod.snd (Prod.snd (Prod.snd (Prod.snd (Prod.snd x)))))) (256 : Int))) - Vec.X (Prod.fst (Prod.snd (Prod.snd x)))) * IntKind.wrap IntKind.i64 (IntKind.wrap IntKind.i64 (Vec.X (Ray.From (Prod.fst (Prod.snd x))) + IntKind.wrap IntKind.i64 (Int.tdiv (IntKind.wrap IntKind.i64 (Vec.X (Ray.Way (Prod.fst (Prod.snd x))) * Prod.snd (Prod.snd (Prod.snd (Prod.snd (Prod.snd x)))))) (256 : Int))) - Vec.X (Prod.fst (Prod.snd (Prod.snd x))))) + IntKind.wrap IntKind.i64 (IntKind.wrap IntKind.i64 (IntKind.wrap IntKind.i64 (Vec.Y (Ray.From (Prod.fst (Prod.snd x))) + IntKind.wrap IntKind.i64 (Int.tdiv (IntKind.wrap IntKind.i64 (Vec.Y (Ray.Way (Prod.fst (Prod.snd x))) * Prod.snd (Prod.snd (Prod.snd (Prod.snd (Prod.snd x)))))) (256 : Int))) - Vec.Y (Prod.fst (Prod.snd (Prod.snd x)))) * IntKind.wrap IntKind.i64 (IntKind.wrap IntKind.i64 (Vec.Y (Ray.From (Prod.fst (Prod.snd x))) + IntKind.wrap IntKind.i64 (Int.tdiv (IntKind.wrap IntKind.i64 (Vec.Y (Ray.Way (Prod.fst (Prod.snd x))) * Prod.snd (Prod.snd (Prod.snd (Prod.snd (Prod.snd x)))))) (256 : Int))) - Vec.Y (Prod.fst (Prod.snd (Prod.snd x)))))) ≤ IntKind.wrap IntKind.i64 (Prod.fst (Prod.snd (Prod.snd (Prod.snd x))) * Prod.fst (Prod.snd (Prod.snd (Prod.snd x))))) == (Prod.snd (Prod.snd (Prod.snd (Prod.snd (Prod.snd x)))) == Prod.fst (Prod.snd (Prod.snd (Prod.snd (Prod.snd x)))))) (Q (SV.bool false) [(false, Blk.vec Ty.byte (Prod.fst x))]) (Holds (Prod.fst x = b ∧ Prod.fst (Prod.snd x) = Prod.fst (g_DrawRayRound b) ∧ Prod.fst (Prod.snd (Prod.snd x)) = Prod.fst (Prod.snd (g_DrawRayRound b)) ∧ Prod.fst (Prod.snd (Prod.snd (Prod.snd x))) = Prod.snd (Prod.snd (g_DrawRayRound b)) ∧ Prod.fst (Prod.snd (Prod.snd (Prod.snd (Prod.snd x)))) = Prod.fst (rayRound (Prod.fst (g_DrawRayRound b)) (Prod.fst (Prod.snd (g_DrawRayRound b))) (Prod.snd (Prod.snd (g_DrawRayRound b)))) ∧ (0 : Int) ≤ IntKind.wrap IntKind.i64 (Prod.snd (Prod.snd (Prod.snd (Prod.snd (Prod.snd x)))) + (1 : Int)) ∧ IntKind.wrap IntKind.i64 (Prod.snd (Prod.snd (Prod.snd (Prod.snd (Prod.snd x)))) + (1 : Int)) ≤ Prod.fst (rayRound (Prod.fst (g_DrawRayRound b)) (Prod.fst (Prod.snd (g_DrawRayRound b))) (Prod.snd (Prod.snd (g_DrawRayRound b)))) + (1 : Int)) ∧ Int.toNat (Prod.fst (rayRound (Prod.fst (g_DrawRayRound b)) (Prod.fst (Prod.snd (g_DrawRayRound b))) (Prod.snd (Prod.snd (g_DrawRayRound b)))) + (1 : Int) - IntKind.wrap IntKind.i64 (Prod.snd (Prod.snd (Prod.snd (Prod.snd (Prod.snd x)))) + (1 : Int))) < Int.toNat (Prod.fst (rayRound (Prod.fst (g_DrawRayRound b)) (Prod.fst (Prod.snd (g_DrawRayRound b))) (Prod.snd (Prod.snd (g_DrawRayRound b)))) + (1 : Int) - Prod.snd (Prod.snd (Prod.snd (Prod.snd (Prod.snd x))))))) (Q (SV.bool (decide (Prod.fst (Prod.snd (Prod.snd (Prod.snd (Prod.snd x)))) ≤ (256 : Int)))) [(false, Blk.vec Ty.byte (Prod.fst x))])))))) := by kernel_rfl

theorem ok_lawRayRound : FsOk Try.prog 4 fs_lawRayRound := fsOk_of tt_ok (tabFs_cons ok_DrawRayRound (tabFs_cons ok_implRayRound (tabFs_cons ok_specRayRound tabFs_nil))) mixed Try.func4 (by kernel_rfl) (by kernel_rfl) (by
    intro args LL p r HH h hp
    unfold fs_lawRayRound at h
    dsimp only at h
    split at h
    case h_2 => cases h
    rename_i b
    simp only [Option.some.injEq, Prod.mk.injEq] at h
    obtain ⟨rfl, rfl, rfl⟩ := h
    refine ⟨by simp [Form, stays], (L_lawRayRound b (g_DrawRayRound b)), ?_⟩
    rw [vc_lawRayRound]
    try dsimp only
    have hb := bytesOk_of (hp _ rfl)
    refine ifB_of (fun c => ⟨rfl, rfl⟩) (fun c => ⟨hb, ?_⟩)
    generalize g_DrawRayRound b = z
    obtain ⟨r, a, w⟩ := z
    dsimp only
    rcases h : rayRound r a w with ⟨t, ok⟩
    dsimp only
    cases ok with
    | false => simp [ifB]
    | true =>
      obtain ⟨h1, h2, h3, h4⟩ := rayRound_spec h
      simp only [Bool.not_true, beq_self_eq_true, bne_self_eq_false, ifB]
      refine ⟨⟨trivial, trivial, trivial, trivial, trivial, by omega, by omega⟩, ?_⟩
      rintro ⟨b', r', a', w', t', k⟩ ⟨h⟩
      obtain ⟨rfl, rfl, rfl, rfl, rfl, q1, q2⟩ := h
      dsimp only at q1 q2 h1 h2 h3 h4 ⊢
      refine ifB_of (fun c => ?_) (fun c => ?_)
      · have c := of_decide_eq_true c
        have hw : IntKind.i64.wrap (k + 1) = k + 1 := wrap_small (by omega) (by omega)
        rw [hw]
        refine ifB_of (fun c2 => ?_) (fun c2 => ⟨⟨rfl, rfl, rfl, rfl, rfl, by omega, by omega⟩, by omega⟩)
        exfalso
        change (!(roundAt r' a' w' k) == (k == t')) = true at c2
        by_cases e : k = t'
        · subst e
          rw [h3] at c2
          simp at c2
        · rw [h4 k q1 (by omega)] at c2
          simp [e] at c2
      · simp [h2])

noncomputable def g_DrawRayBox (b : List Int) : Ray × Box := someAns tt (look [(73, fs_l1Open), (77, fs_rdPick), (76, fs_rdOne), (93, fs_l11AnyBox), (75, fs_l11To)]) Try.f28 [.vec 0] [(false, .vec .byte b)] (fun x : Ray × Box => (.tup [.agg [.int .i64 ((x).1).From.X, .int .i64 ((x).1).From.Y, .int .i64 ((x).1).Way.X, .int .i64 ((x).1).Way.Y], .agg [.int .i64 ((x).2).Low.X, .int .i64 ((x).2).Low.Y, .int .i64 ((x).2).High.X, .int .i64 ((x).2).High.Y]] : SV)) (fun x : Ray × Box => ([(false, .vec .byte b)] : List Ent))
noncomputable def fs_DrawRayBox : Fs := ⟨[], fun args H => match args, H with
  | [.vec 0], [(false, .vec .byte b)] => some ((some (BytesOk b)), .tup [.agg [.int .i64 (((g_DrawRayBox b)).1).From.X, .int .i64 (((g_DrawRayBox b)).1).From.Y, .int .i64 (((g_DrawRayBox b)).1).Way.X, .int .i64 (((g_DrawRayBox b)).1).Way.Y], .agg [.int .i64 (((g_DrawRayBox b)).2).Low.X, .int .i64 (((g_DrawRayBox b)).2).Low.Y, .int .i64 (((g_DrawRayBox b)).2).High.X, .int .i64 (((g_DrawRayBox b)).2).High.Y]], [(false, .vec .byte b)])
  | _, _ => none⟩

theorem vc_DrawRayBox (b : List Int) (Q : SV → List Ent → Prop) :
    fnVC tt (look [(73, fs_l1Open), (77, fs_rdPick), (76, fs_rdOne), (93, fs_l11AnyBox), (75, fs_l11To)]) L0 Try.f28 [.vec 0] [(false, .vec .byte b)] Q =
    (((0 : Int) ≤ (0 : Int) ∧ (0 : Int) + (12 : Int) ≤ (1000000000000 : Int) ∧ BytesOk (List.take (min (List.length b) (2000 : Nat)) (List.drop (0 : Nat) b))) ∧ ((0 : Int) ≤ (0 : Int) + (↑(Prod.snd (g_l11AnyBox (List.take (min (List.length b) (2000 : Nat)) (List.drop (0 : Nat) b)) (0 : Int)) % (13 : Nat)) : Int) ∧ (0 : Int) + (↑(Prod.snd (g_l11AnyBox (List.take (min (List.length b) (2000 : Nat)) (List.drop (0 : Nat) b)) (0 : Int)) % (13 : Nat)) : Int) + (24 : Int) ≤ (1000000000000 : Int) ∧ BytesOk (List.take (min (List.length b) (2000 : Nat)) (List.drop (0 : Nat) b))) ∧ Q (SV.tup [SV.agg [SV.int IntKind.i64 (Vec.X (Ray.From (Prod.fst (g_l11To (List.take (min (List.length b) (2000 : Nat)) (List.drop (0 : Nat) b)) ((0 : Int) + (↑(Prod.snd (g_l11AnyBox (List.take (min (List.length b) (2000 : Nat)) (List.drop (0 : Nat) b)) (0 : Int)) % (13 : Nat)) : Int)) (Vec.X (Box.Low (Prod.fst (g_l11AnyBox (List.take (min (List.length b) (2000 : Nat)) (List.drop (0 : Nat) b)) (0 : Int))))) (Vec.Y (Box.Low (Prod.fst (g_l11AnyBox (List.take (min (List.length b) (2000 : Nat)) (List.drop (0 : Nat) b)) (0 : Int))))))))), SV.int IntKind.i64 (Vec.Y (Ray.From (Prod.fst (g_l11To (List.take (min (List.length b) (2000 : Nat)) (List.drop (0 : Nat) b)) ((0 : Int) + (↑(Prod.snd (g_l11AnyBox (List.take (min (List.length b) (2000 : Nat)) (List.drop (0 : Nat) b)) (0 : Int)) % (13 : Nat)) : Int)) (Vec.X (Box.Low (Prod.fst (g_l11AnyBox (List.take (min (List.length b) (2000 : Nat)) (List.drop (0 : Nat) b)) (0 : Int))))) (Vec.Y (Box.Low (Prod.fst (g_l11AnyBox (List.take (min (List.length b) (2000 : Nat)) (List.drop (0 : Nat) b)) (0 : Int))))))))), SV.int IntKind.i64 (Vec.X (Ray.Way (Prod.fst (g_l11To (List.take (min (List.length b) (2000 : Nat)) (List.drop (0 : Nat) b)) ((0 : Int) + (↑(Prod.snd (g_l11AnyBox (List.take (min (List.length b) (2000 : Nat)) (List.drop (0 : Nat) b)) (0 : Int)) % (13 : Nat)) : Int)) (Vec.X (Box.Low (Prod.fst (g_l11AnyBox (List.take (min (List.length b) (2000 : Nat)) (List.drop (0 : Nat) b)) (0 : Int))))) (Vec.Y (Box.Low (Prod.fst (g_l11AnyBox (List.take (min (List.length b) (2000 : Nat)) (List.drop (0 : Nat) b)) (0 : Int))))))))), SV.int IntKind.i64 (Vec.Y (Ray.Way (Prod.fst (g_l11To (List.take (min (List.length b) (2000 : Nat)) (List.drop (0 : Nat) b)) ((0 : Int) + (↑(Prod.snd (g_l11AnyBox (List.take (min (List.length b) (2000 : Nat)) (List.drop (0 : Nat) b)) (0 : Int)) % (13 : Nat)) : Int)) (Vec.X (Box.Low (Prod.fst (g_l11AnyBox (List.take (min (List.length b) (2000 : Nat)) (List.drop (0 : Nat) b)) (0 : Int))))) (Vec.Y (Box.Low (Prod.fst (g_l11AnyBox (List.take (min (List.length b) (2000 : Nat)) (List.drop (0 : Nat) b)) (0 : Int)))))))))], SV.agg [SV.int IntKind.i64 (Vec.X (Box.Low (Prod.fst (g_l11AnyBox (List.take (min (List.length b) (2000 : Nat)) (List.drop (0 : Nat) b)) (0 : Int))))), SV.int IntKind.i64 (Vec.Y (Box.Low (Prod.fst (g_l11AnyBox (List.take (min (List.length b) (2000 : Nat)) (List.drop (0 : Nat) b)) (0 : Int))))), SV.int IntKind.i64 (Vec.X (Box.High (Prod.fst (g_l11AnyBox (List.take (min (List.length b) (2000 : Nat)) (List.drop (0 : Nat) b)) (0 : Int))))), SV.int IntKind.i64 (Vec.Y (Box.High (Prod.fst (g_l11AnyBox (List.take (min (List.length b) (2000 : Nat)) (List.drop (0 : Nat) b)) (0 : Int)))))]]) [(false, Blk.vec Ty.byte b)]) := by kernel_rfl

theorem ok_DrawRayBox : FsOk Try.prog 28 fs_DrawRayBox := fsOk_of tt_ok (tabFs_cons ok_l1Open (tabFs_cons ok_rdPick (tabFs_cons ok_rdOne (tabFs_cons ok_l11AnyBox (tabFs_cons ok_l11To tabFs_nil))))) mixed Try.func28 (by kernel_rfl) (by kernel_rfl) (by
    intro args LL p0 r HH h hp
    unfold fs_DrawRayBox at h
    dsimp only at h
    split at h
    case h_2 => cases h
    rename_i b
    simp only [Option.some.injEq, Prod.mk.injEq] at h
    obtain ⟨rfl, rfl, rfl⟩ := h
    refine ⟨by simp [Form, stays], L0, ?_⟩
    have hby := hp _ rfl
    refine someAns_ok (R := (fun x : Ray × Box => (.tup [.agg [.int .i64 ((x).1).From.X, .int .i64 ((x).1).From.Y, .int .i64 ((x).1).Way.X, .int .i64 ((x).1).Way.Y], .agg [.int .i64 ((x).2).Low.X, .int .i64 ((x).2).Low.Y, .int .i64 ((x).2).High.X, .int .i64 ((x).2).High.Y]] : SV))) (HH := (fun x : Ray × Box => ([(false, .vec .byte b)] : List Ent))) (by kernel_rfl) ?_
    have fin : ∀ (z0FX : Int) (z0FY : Int) (z0WX : Int) (z0WY : Int) (z1LX : Int) (z1LY : Int) (z1HX : Int) (z1HY : Int), ∃ x : Ray × Box, ((.tup [.agg [.int .i64 ((((Ray.mk (Vec.mk z0FX z0FY) (Vec.mk z0WX z0WY)), (Box.mk (Vec.mk z1LX z1LY) (Vec.mk z1HX z1HY)))).1).From.X, .int .i64 ((((Ray.mk (Vec.mk z0FX z0FY) (Vec.mk z0WX z0WY)), (Box.mk (Vec.mk z1LX z1LY) (Vec.mk z1HX z1HY)))).1).From.Y, .int .i64 ((((Ray.mk (Vec.mk z0FX z0FY) (Vec.mk z0WX z0WY)), (Box.mk (Vec.mk z1LX z1LY) (Vec.mk z1HX z1HY)))).1).Way.X, .int .i64 ((((Ray.mk (Vec.mk z0FX z0FY) (Vec.mk z0WX z0WY)), (Box.mk (Vec.mk z1LX z1LY) (Vec.mk z1HX z1HY)))).1).Way.Y], .agg [.int .i64 ((((Ray.mk (Vec.mk z0FX z0FY) (Vec.mk z0WX z0WY)), (Box.mk (Vec.mk z1LX z1LY) (Vec.mk z1HX z1HY)))).2).Low.X, .int .i64 ((((Ray.mk (Vec.mk z0FX z0FY) (Vec.mk z0WX z0WY)), (Box.mk (Vec.mk z1LX z1LY) (Vec.mk z1HX z1HY)))).2).Low.Y, .int .i64 ((((Ray.mk (Vec.mk z0FX z0FY) (Vec.mk z0WX z0WY)), (Box.mk (Vec.mk z1LX z1LY) (Vec.mk z1HX z1HY)))).2).High.X, .int .i64 ((((Ray.mk (Vec.mk z0FX z0FY) (Vec.mk z0WX z0WY)), (Box.mk (Vec.mk z1LX z1LY) (Vec.mk z1HX z1HY)))).2).High.Y]] : SV) : SV) = (fun x : Ray × Box => (.tup [.agg [.int .i64 ((x).1).From.X, .int .i64 ((x).1).From.Y, .int .i64 ((x).1).Way.X, .int .i64 ((x).1).Way.Y], .agg [.int .i64 ((x).2).Low.X, .int .i64 ((x).2).Low.Y, .int .i64 ((x).2).High.X, .int .i64 ((x).2).High.Y]] : SV)) x ∧ (([(false, .vec .byte b)] : List Ent) : List Ent) = (fun x : Ray × Box => ([(false, .vec .byte b)] : List Ent)) x := fun z0FX z0FY z0WX z0WY z1LX z1LY z1HX z1HY => ⟨((Ray.mk (Vec.mk z0FX z0FY) (Vec.mk z0WX z0WY)), (Box.mk (Vec.mk z1LX z1LY) (Vec.mk z1HX z1HY))), rfl, rfl⟩
    rw [vc_DrawRayBox]
    try dsimp only
    try dsimp only at fin
    repeat' (first | refine ifB_of (fun _ => ?_) (fun _ => ?_) | refine pre_of ?_ (fun _ => ?_))
    all_goals first
      | exact fin _ _ _ _ _ _ _ _
      | omega
      | exact hby
      | exact hby.part _ _
      | exact Nat.le_add_left _ _
      | exact ⟨by omega, by omega, hby.part _ _⟩
      | exact ⟨by omega, by omega, hby.part _ _, by omega⟩
      | exact ⟨by omega, by omega, hby.part _ _, Nat.le_add_left _ _⟩)

noncomputable def fs_pqAbs : Fs := ⟨[], fun args H => match args, H with
  | [.int .i64 n], [] => some (none, .int .i64 ((bif decide (n < 0) then W (0 - n) else n)), [])
  | _, _ => none⟩

theorem vc_pqAbs (n : Int) (Q : SV → List Ent → Prop) :
    fnVC tt (look []) L0 Try.f32 [.int .i64 n] [] Q =
    (ifB (decide (n < (0 : Int))) (Q (SV.int IntKind.i64 (IntKind.wrap IntKind.i64 ((0 : Int) - n))) []) (Q (SV.int IntKind.i64 n) [])) := by kernel_rfl

theorem ok_pqAbs : FsOk Try.prog 32 fs_pqAbs := fsOk_of tt_ok tabFs_nil mixed Try.func32 (by kernel_rfl) (by kernel_rfl) (by
    intro args LL p r HH h hp
    unfold fs_pqAbs at h
    dsimp only at h
    split at h
    case h_2 => cases h
    rename_i n
    simp only [Option.some.injEq, Prod.mk.injEq] at h
    obtain ⟨rfl, rfl, rfl⟩ := h
    refine ⟨by simp [Form, stays], L0, ?_⟩
    rw [vc_pqAbs]
    try dsimp only

    repeat' (first | refine ifB_of (fun _ => ?_) (fun _ => ?_) | refine pre_of ?_ (fun _ => ?_))
    all_goals first
      | rfl
      | (simp only [W, W, *, cond_true, cond_false, Bool.true_and, Bool.false_and, Bool.and_true, Bool.and_false, Bool.not_true, Bool.not_false, and_self, true_and]; done)
      | (simp_all [W, W]; done)
      | (simp_all [W, W] <;> omega))

end Go.Proofs.Yteeelenokjahnaa.Sym
