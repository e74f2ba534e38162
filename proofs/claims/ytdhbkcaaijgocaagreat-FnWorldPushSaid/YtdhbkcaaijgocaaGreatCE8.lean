/-
  What the rows of this claim stand on, part 8: the machine, the walks, the plain laws, as far as they are used.
  No condition.
-/
import Derived.Test.YtdhbkcaaijgocaaGreatCE7
namespace Go.Proofs.YtdhbkcaaijgocaaGreat.Sym
open Go
set_option linter.unusedVariables false
set_option linter.unusedSimpArgs false
set_option maxRecDepth 100000
noncomputable section

theorem in_pull {pull : Int} : isIn pull 0 2560 = true ↔ 0 ≤ pull ∧ pull ≤ 2560 := by simp [isIn]
theorem stepOf_ok {xs : List Body} {pull : Int} (h : bodiesOk xs = true) (p0 : 0 ≤ pull) (p1 : pull ≤ 2560) : stepOf xs pull = stepF xs pull := by simp [stepOf, h, in_pull.2 ⟨p0, p1⟩]
def LSev1  : LS where
  S := List Pair × List Pair × Unit × Unit × List Event × Int
  live := [(0, [none]), (1, [none]), (5, [some .event]), (6, [none])]
  shape := fun s => ([.vec 0, .vec 1, .vec 2, .int .i64 s.2.2.2.2.2], [(false, .vec .pair s.1), (false, .vec .pair s.2.1), (true, .vec .event s.2.2.2.2.1)])
  get := fun v h => match v, h with
    | [.vec 0, .vec 1, .vec 2, .int .i64 i], [(false, .vec .pair ws), (false, .vec .pair ns), (true, .vec .event out)] => some (ws, ns, (), (), out, i)
    | _, _ => none
  inv := fun s0 s => Holds (s.1 = s0.1 ∧ s.2.1 = s0.2.1 ∧ 0 ≤ s.2.2.2.2.2 ∧ s.2.2.2.2.2 ≤ s0.1.length ∧ s.2.2.2.2.1 ++ evs false (newF s0.2.1 (s0.1.drop s.2.2.2.2.2.toNat)) = evs false (newF s0.2.1 s0.1))
  mu := fun s => ((s.1.length : Int) - s.2.2.2.2.2).toNat
  ok := by
    intro v h s hg
    try dsimp only at hg
    split at hg <;> cases hg
    rfl

def LSev2  : LS where
  S := List Pair × List Pair × Unit × Unit × List Event × Int
  live := [(0, [none]), (1, [none]), (5, [some .event]), (7, [none])]
  shape := fun s => ([.vec 0, .vec 1, .vec 2, .int .i64 s.2.2.2.2.2], [(false, .vec .pair s.1), (false, .vec .pair s.2.1), (true, .vec .event s.2.2.2.2.1)])
  get := fun v h => match v, h with
    | [.vec 0, .vec 1, .vec 2, .int .i64 i], [(false, .vec .pair ws), (false, .vec .pair ns), (true, .vec .event out)] => some (ws, ns, (), (), out, i)
    | _, _ => none
  inv := fun s0 s => Holds (s.1 = s0.1 ∧ s.2.1 = s0.2.1 ∧ 0 ≤ s.2.2.2.2.2 ∧ s.2.2.2.2.2 ≤ s0.2.1.length ∧ s.2.2.2.2.1 ++ evs true (newF s0.1 (s0.2.1.drop s.2.2.2.2.2.toNat)) = stepEvs s0.1 s0.2.1)
  mu := fun s => ((s.2.1.length : Int) - s.2.2.2.2.2).toNat
  ok := by
    intro v h s hg
    try dsimp only at hg
    split at hg <;> cases hg
    rfl

def L_ev : Loops := fun n => match n with
  | 3 => some LSev1
  | 8 => some LSev2
  | _ => none
theorem evs_new_drop {b : Bool} {was now : List Pair} {i : Nat} (h : i < now.length) : evs b (newF was (now.drop i)) = (bif !hasP was (Ty.ix .pair now i) then [⟨b, Ty.ix .pair now i⟩] else []) ++ evs b (newF was (now.drop (i + 1))) := by
  rw [newF_drop h]
  cases hasP was (Ty.ix .pair now i) <;> rfl
noncomputable def fs_l10Events : Fs := ⟨[], fun args H => match args, H with
  | [.vec 0, .vec 1], [(false, .vec .pair ws), (false, .vec .pair ns)] => some ((some (ws.length ≤ 1048576 ∧ ns.length ≤ 1048576)), .vec 2, [(false, .vec .pair ws), (false, .vec .pair ns), (true, .vec .event (stepEvs ws ns))])
  | _, _ => none⟩

theorem vc_l10Events (ws : List Pair) (ns : List Pair) (Q : SV → List Ent → Prop) :
    fnVC tt (look [(177, fs_l4In)]) (L_ev) Tryz.f94 [.vec 0, .vec 1] [(false, .vec .pair ws), (false, .vec .pair ns)] Q =
    (let w_ := IntKind.wrap IntKind.i64; let n_ := Int.toNat; let ip_ := Ty.ix Ty.pair; Holds (ws = ws ∧ ns = ns ∧ (0 : Int) ≤ (0 : Int) ∧ (0 : Int) ≤ (↑(List.length ws) : Int) ∧ [] ++ evs false (newF ns (List.drop (n_ (0 : Int)) ws)) = evs false (newF ns ws)) ∧ ∀ (y4 : List Pair × List Pair × Unit × Unit × List Event × Int), let y4f0_ := Prod.fst y4; let y4s1_ := Prod.snd y4; let y4f1_ := Prod.fst (Prod.snd y4); let y4s4_ := Prod.snd (Prod.snd (Prod.snd (Prod.snd y4))); let y4f4_ := Prod.fst (Prod.snd (Prod.snd (Prod.snd (Prod.snd y4)))); let y4s5_ := Prod.snd (Prod.snd (Prod.snd (Prod.snd (Prod.snd y4)))); let A6_ := (↑(List.length y4f0_) : Int); let A5_ := (Prod.snd y4s4_ + (1 : Int)); Holds (Prod.fst y4 = ws ∧ y4f1_ = ns ∧ (0 : Int) ≤ y4s5_ ∧ y4s5_ ≤ (↑(List.length ws) : Int) ∧ y4f4_ ++ evs false (newF ns (List.drop (n_ y4s5_) ws)) = evs false (newF ns ws)) → ifB (decide (Prod.snd y4s4_ < A6_)) (((0 : Int) ≤ y4s5_ ∧ y4s5_ < A6_) ∧ List.length y4f1_ ≤ (1048576 : Nat) ∧ ifB (!hasP y4f1_ (ip_ y4f0_ (n_ y4s5_))) (((0 : Int) ≤ y4s5_ ∧ y4s5_ < A6_) ∧ (List.length y4f4_ + List.length [Event.mk false (ip_ y4f0_ (n_ y4s5_))]) * (24 : Nat) ≤ room ∧ Holds (Prod.fst y4 = ws ∧ y4f1_ = ns ∧ (0 : Int) ≤ w_ A5_ ∧ w_ A5_ ≤ (↑(List.length ws) : Int) ∧ y4f4_ ++ [Event.mk false (ip_ y4f0_ (n_ y4s5_))] ++ evs false (newF ns (List.drop (n_ (w_ A5_)) ws)) = evs false (newF ns ws)) ∧ n_ (A6_ - w_ A5_) < n_ (A6_ - y4s5_)) (Holds (Prod.fst y4 = ws ∧ y4f1_ = ns ∧ (0 : Int) ≤ w_ A5_ ∧ w_ A5_ ≤ (↑(List.length ws) : Int) ∧ y4f4_ ++ evs false (newF ns (List.drop (n_ (w_ A5_)) ws)) = evs false (newF ns ws)) ∧ n_ (A6_ - w_ A5_) < n_ (A6_ - y4s5_))) (Holds (Prod.fst y4 = y4f0_ ∧ y4f1_ = y4f1_ ∧ (0 : Int) ≤ (0 : Int) ∧ (0 : Int) ≤ (↑(List.length y4f1_) : Int) ∧ y4f4_ ++ evs true (newF y4f0_ (List.drop (n_ (0 : Int)) y4f1_)) = stepEvs y4f0_ y4f1_) ∧ ∀ (y1 : List Pair × List Pair × Unit × Unit × List Event × Int), let y1f0_ := Prod.fst y1; let y1s1_ := Prod.snd y1; let y1f1_ := Prod.fst (Prod.snd y1); let y1s4_ := Prod.snd (Prod.snd (Prod.snd (Prod.snd y1))); let y1f4_ := Prod.fst (Prod.snd (Prod.snd (Prod.snd (Prod.snd y1)))); let y1s5_ := Prod.snd (Prod.snd (Prod.snd (Prod.snd (Prod.snd y1)))); let A3_ := (↑(List.length y1f1_) : Int); let A2_ := (Prod.snd y1s4_ + (1 : Int)); Holds (Prod.fst y1 = y4f0_ ∧ y1f1_ = y4f1_ ∧ (0 : Int) ≤ y1s5_ ∧ y1s5_ ≤ (↑(List.length y4f1_) : Int) ∧ y1f4_ ++ evs true (newF y4f0_ (List.drop (n_ y1s5_) y4f1_)) = stepEvs y4f0_ y4f1_) → ifB (decide (Prod.snd y1s4_ < A3_)) (((0 : Int) ≤ y1s5_ ∧ y1s5_ < A3_) ∧ List.length y1f0_ ≤ (1048576 : Nat) ∧ ifB (!hasP y1f0_ (ip_ y1f1_ (n_ y1s5_))) (((0 : Int) ≤ y1s5_ ∧ y1s5_ < A3_) ∧ (List.length y1f4_ + List.length [Event.mk true (ip_ y1f1_ (n_ y1s5_))]) * (24 : Nat) ≤ room ∧ Holds (Prod.fst y1 = y4f0_ ∧ y1f1_ = y4f1_ ∧ (0 : Int) ≤ w_ A2_ ∧ w_ A2_ ≤ (↑(List.length y4f1_) : Int) ∧ y1f4_ ++ [Event.mk true (ip_ y1f1_ (n_ y1s5_))] ++ evs true (newF y4f0_ (List.drop (n_ (w_ A2_)) y4f1_)) = stepEvs y4f0_ y4f1_) ∧ n_ (A3_ - w_ A2_) < n_ (A3_ - y1s5_)) (Holds (Prod.fst y1 = y4f0_ ∧ y1f1_ = y4f1_ ∧ (0 : Int) ≤ w_ A2_ ∧ w_ A2_ ≤ (↑(List.length y4f1_) : Int) ∧ y1f4_ ++ evs true (newF y4f0_ (List.drop (n_ (w_ A2_)) y4f1_)) = stepEvs y4f0_ y4f1_) ∧ n_ (A3_ - w_ A2_) < n_ (A3_ - y1s5_))) (Q (SV.vec (2 : Nat)) [(false, Blk.vec Ty.pair y1f0_), (false, Blk.vec Ty.pair y1f1_), (true, Blk.vec Ty.event y1f4_)]))) := by kernel_rfl

theorem ok_l10Events : FsOk Tryz.prog 94 fs_l10Events := fsOk_of tt_ok (tabFs_cons ok_l4In tabFs_nil) mixed Tryz.func94 (by kernel_rfl) (by kernel_rfl) (by
    intro args LL p r HH h hp
    unfold fs_l10Events at h
    dsimp only at h
    split at h
    case h_2 => cases h
    rename_i ws ns
    simp only [Option.some.injEq, Prod.mk.injEq] at h
    obtain ⟨rfl, rfl, rfl⟩ := h
    refine ⟨by simp [Form, stays], (L_ev), ?_⟩
    rw [vc_l10Events]
    try dsimp only
    obtain ⟨hb, hb2⟩ := hp _ rfl
    refine ⟨⟨(by trivial), (by trivial), by omega, by omega, (by trivial)⟩, ?_⟩
    rintro ⟨ws', ns', u, v, out, i⟩ ⟨h⟩
    dsimp only at h ⊢
    obtain ⟨rfl, rfl, i0, i1, h5⟩ := h
    have n1 := length_newF ns' ws'
    have n2 := length_newF ws' ns'
    have hs := congrArg List.length h5
    rw [List.length_append, length_evs, length_evs] at hs
    refine ifB_of (fun c => ?_) (fun c => ?_)
    · have c := of_decide_eq_true c
      have e1 : (i + 1).toNat = i.toNat + 1 := by omega
      have w : IntKind.i64.wrap (i + 1) = i + 1 := wrap_small (by omega) (by omega)
      rw [evs_new_drop (show i.toNat < ws'.length by omega)] at h5
      rw [w, e1]
      refine ⟨⟨i0, c⟩, by omega, ifB_of (fun d => ⟨⟨i0, c⟩, by simp only [room, List.length_singleton]; omega, ⟨(by trivial), (by trivial), by omega, by omega, ?_⟩, by omega⟩) (fun d => ⟨⟨(by trivial), (by trivial), by omega, by omega, ?_⟩, by omega⟩)⟩
      · have d : (!hasP ns' (Ty.ix .pair ws' i.toNat)) = true := d
        rw [d] at h5
        rw [← h5, List.append_assoc]
        rfl
      · have d : (!hasP ns' (Ty.ix .pair ws' i.toNat)) = false := d
        rw [d] at h5
        exact h5
    · have c := of_decide_eq_false c
      rw [drop_end (by omega)] at h5
      have h5 : out = evs false (newF ns' ws') := by simpa [evs, newF] using h5
      refine ⟨⟨(by trivial), (by trivial), by omega, by omega, ?_⟩, ?_⟩
      · rw [h5]
        rfl
      clear c h5 hs i0 i1
      rintro ⟨ws2, ns2, u2, v2, out2, i⟩ ⟨h⟩
      dsimp only at h ⊢
      obtain ⟨rfl, rfl, i0, i1, h5⟩ := h
      have hs := congrArg List.length h5
      unfold stepEvs at hs
      rw [List.length_append, List.length_append, length_evs, length_evs, length_evs] at hs
      refine ifB_of (fun c => ?_) (fun c => ?_)
      · have c := of_decide_eq_true c
        have e1 : (i + 1).toNat = i.toNat + 1 := by omega
        have w : IntKind.i64.wrap (i + 1) = i + 1 := wrap_small (by omega) (by omega)
        rw [evs_new_drop (show i.toNat < ns2.length by omega)] at h5
        rw [w, e1]
        refine ⟨⟨i0, c⟩, by omega, ifB_of (fun d => ⟨⟨i0, c⟩, by simp only [room, List.length_singleton]; omega, ⟨(by trivial), (by trivial), by omega, by omega, ?_⟩, by omega⟩) (fun d => ⟨⟨(by trivial), (by trivial), by omega, by omega, ?_⟩, by omega⟩)⟩
        · have d : (!hasP ws2 (Ty.ix .pair ns2 i.toNat)) = true := d
          rw [d] at h5
          rw [← h5, List.append_assoc]
          rfl
        · have d : (!hasP ws2 (Ty.ix .pair ns2 i.toNat)) = false := d
          rw [d] at h5
          exact h5
      · have c := of_decide_eq_false c
        rw [drop_end (by omega)] at h5
        have h5 : out2 = stepEvs ws2 ns2 := by simpa [evs, newF] using h5
        rw [h5]
        exact ⟨(by trivial), (by trivial)⟩)

theorem worldOk_t {t p : Int} {xs : List Body} {ps : List Pair} (h : worldOk t p xs ps = true) : 0 ≤ t ∧ t ≤ 100000 ∧ 0 ≤ p ∧ p ≤ 2560 := by
  unfold worldOk at h
  simp only [Bool.and_eq_true, isIn, decide_eq_true_eq] at h
  omega
noncomputable def fs_specWorldStep : Fs := ⟨[], fun args H => match args, H with
  | [.agg [.int .i64 t, .int .i64 p, .vec 0, .vec 1]], [(false, .vec .body xs), (false, .vec .pair ps)] => some ((some (xs.length ≤ 1048576 ∧ ps.length ≤ 1048576)), .tup [.agg [.int .i64 (stepTick (worldOk t p xs ps) t), .int .i64 (orI (worldOk t p xs ps) p), .vec 2, .vec 3], .vec 4], [(false, .vec .body xs), (false, .vec .pair ps), (true, .vec .body (stepBodies (worldOk t p xs ps) t p xs)), (true, .vec .pair (stepPs (worldOk t p xs ps) t p xs ps)), (true, .vec .event (stepEs (worldOk t p xs ps) t p xs ps))])
  | _, _ => none⟩

theorem vc_specWorldStep (t : Int) (p : Int) (xs : List Body) (ps : List Pair) (Q : SV → List Ent → Prop) :
    fnVC tt (look [(46, fs_specWorldOk), (92, fs_specCopyW), (75, fs_l9Step), (93, fs_l9Pairs), (94, fs_l10Events)]) L0 Tryz.f24 [.agg [.int .i64 t, .int .i64 p, .vec 0, .vec 1]] [(false, .vec .body xs), (false, .vec .pair ps)] Q =
    ((List.length xs ≤ (1048576 : Nat) ∧ List.length ps ≤ (1048576 : Nat)) ∧ ifB (!worldOk t p xs ps) (Q (SV.tup [SV.agg [SV.int IntKind.i64 (0 : Int), SV.int IntKind.i64 (0 : Int), SV.vec (2 : Nat), SV.vec (3 : Nat)], SV.vec (4 : Nat)]) [(false, Blk.vec Ty.body xs), (false, Blk.vec Ty.pair ps), (true, Blk.vec Ty.body []), (true, Blk.vec Ty.pair []), (true, Blk.vec Ty.event [])]) (ifB (decide (t ≥ (100000 : Int))) ((List.length xs ≤ (1048576 : Nat) ∧ List.length ps ≤ (1048576 : Nat)) ∧ Q (SV.tup [SV.agg [SV.int IntKind.i64 t, SV.int IntKind.i64 p, SV.vec (2 : Nat), SV.vec (3 : Nat)], SV.vec (4 : Nat)]) [(false, Blk.vec Ty.body xs), (false, Blk.vec Ty.pair ps), (true, Blk.vec Ty.body xs), (true, Blk.vec Ty.pair ps), (true, Blk.vec Ty.event [])]) ((bodiesOk xs = true ∧ (0 : Int) ≤ p ∧ p ≤ (2560 : Int)) ∧ bodiesOk (stepF xs p) = true ∧ (List.length ps ≤ (1048576 : Nat) ∧ List.length (pairsC (stepF xs p) (contactsF (stepF xs p))) ≤ (1048576 : Nat)) ∧ Q (SV.tup [SV.agg [SV.int IntKind.i64 (IntKind.wrap IntKind.i64 (t + (1 : Int))), SV.int IntKind.i64 p, SV.vec (2 : Nat), SV.vec (3 : Nat)], SV.vec (4 : Nat)]) [(false, Blk.vec Ty.body xs), (false, Blk.vec Ty.pair ps), (true, Blk.vec Ty.body (stepF xs p)), (true, Blk.vec Ty.pair (pairsC (stepF xs p) (contactsF (stepF xs p)))), (true, Blk.vec Ty.event (stepEvs ps (pairsC (stepF xs p) (contactsF (stepF xs p)))))]))) := by kernel_rfl

theorem ok_specWorldStep : FsOk Tryz.prog 24 fs_specWorldStep := fsOk_of tt_ok (tabFs_cons ok_specWorldOk (tabFs_cons ok_specCopyW (tabFs_cons ok_l9Step (tabFs_cons ok_l9Pairs (tabFs_cons ok_l10Events tabFs_nil))))) mixed Tryz.func24 (by kernel_rfl) (by kernel_rfl) (by
    intro args LL p r HH h hp
    unfold fs_specWorldStep at h
    dsimp only at h
    split at h
    case h_2 => cases h
    rename_i t p xs ps
    simp only [Option.some.injEq, Prod.mk.injEq] at h
    obtain ⟨rfl, rfl, rfl⟩ := h
    refine ⟨by simp [Form, stays], L0, ?_⟩
    rw [vc_specWorldStep]
    try dsimp only
    obtain ⟨hb, hb2⟩ := hp _ rfl
    refine ⟨⟨hb, hb2⟩, ifB_of (fun c => ?_) (fun c => ifB_of (fun c2 => ⟨⟨hb, hb2⟩, ?_⟩) (fun c2 => ?_))⟩
    · simp [stepTick, stepBodies, stepPs, stepEs, orI, not_true c]
    · have ht := worldOk_t (not_false c)
      have c2 := of_decide_eq_true c2
      have e : t = 100000 := by omega
      subst e
      simp [stepTick, stepBodies, stepPs, stepEs, orI, not_false c]
    · have hok := not_false c
      have ht := worldOk_t hok
      have hB := worldOk_bodies hok
      have c2 := of_decide_eq_false c2
      have e : (t == 100000) = false := beq_eq_false_iff_ne.2 (by omega)
      have hS := stepOf_ok hB ht.2.2.1 ht.2.2.2
      have hO := ok_stepF hB ht.2.2.1 ht.2.2.2
      have hP : pairsC (stepF xs p) (contactsF (stepF xs p)) = stepPairs (stepF xs p) := by simp [stepPairs, contactsOf, hO]
      have hsp := length_stepPairs (stepF xs p)
      rw [hP]
      simp only [stepTick, stepBodies, stepPs, stepEs, orI, hok, e, cond_true, cond_false, hS, W]
      exact ⟨⟨hB, ht.2.2.1, ht.2.2.2⟩, hO, ⟨hb2, by omega⟩, (by trivial), (by trivial)⟩)

theorem hasB_id {xs : List Body} {id : Int} (h : hasB xs id = true) : atB xs id < xs.length ∧ (Ty.ix .body xs (atB xs id)).Id = id := by
  simp only [hasB, Bool.and_eq_true, decide_eq_true_eq, beq_iff_eq] at h
  exact h
end
end Go.Proofs.YtdhbkcaaijgocaaGreat.Sym

namespace Go.Proofs.YtdhbkcaaijgocaaGreat.Sym
open Go
set_option linter.unusedVariables false
set_option linter.unusedSimpArgs false
set_option maxRecDepth 100000

theorem shapeD_ok {s : Shape} (h : shapeD s) : shapeOk s = true := by
  obtain ⟨h1, h2, h3⟩ := h
  unfold shapeOk
  rcases h3 with ⟨k, e⟩ | ⟨k, e1, e2⟩
  · rw [if_pos k]
    simp only [isIn, Bool.and_eq_true, decide_eq_true_eq, beq_iff_eq]
    omega
  · rw [if_neg (by omega), if_pos k]
    simp only [isIn, Bool.and_eq_true, decide_eq_true_eq]
    omega
theorem bodyD_ok {id : Int} {b : Body} (h0 : 0 ≤ id) (h1 : id ≤ 999999999) (h : bodyD id b) : bodyOk b = true := by
  obtain ⟨q1, q2, q3, ⟨q4, q5⟩, q6, q7, q8, q9, q10, q11, q12, q13, q14, q15⟩ := h
  simp only [placeP] at q3
  refine bok_iff.2 ⟨by omega, shapeD_ok q2, by omega, by omega, by omega, by omega, by omega, by omega, fun e => ⟨(q5 e).1, (q5 e).2, q14 e⟩, fun e => ?_⟩
  by_cases c : b.Quiet = 8
  · exact .inr (q15 c)
  · exact .inl (by omega)
theorem bok_at {b : Body} {p : Vec} (h : bodyOk b = true) (hp : -2560000 ≤ p.X ∧ p.X ≤ 2560000 ∧ -2560000 ≤ p.Y ∧ p.Y ≤ 2560000) : bodyOk { b with At := p } = true := by
  rw [bok_iff] at h ⊢
  obtain ⟨h1, h2, h3, h4, h5, h6, h7, h8, h9, h10⟩ := h
  exact ⟨h1, h2, hp, h4, h5, h6, h7, h8, h9, h10⟩
theorem ix_snoc {xs : List Body} {x : Body} {e : Nat} (h : e < xs.length) : Ty.ix .body (xs ++ [x]) e = Ty.ix .body xs e := by
  simp only [Ty.ix, List.getD_eq_getElem?_getD]
  rw [List.getElem?_append_left h]
theorem ix_last {xs : List Body} {x : Body} : Ty.ix .body (xs ++ [x]) xs.length = x := by
  simp [Ty.ix, List.getD]
def idsLtB (m : Int) (xs : List Body) : Prop := ∀ e, e < xs.length → (Ty.ix .body xs e).Id < m
theorem ok_snoc {xs : List Body} {x : Body} (h : bodiesOk xs = true) (hi : idsLtB x.Id xs) (hx : bodyOk x = true) (hl : xs.length < 12) : bodiesOk (xs ++ [x]) = true := by
  obtain ⟨h1, h2, h3⟩ := bodiesOk_iff.1 h
  have len : (xs ++ [x]).length = xs.length + 1 := by simp
  refine bodiesOk_iff.2 ⟨by omega, fun k hk => ?_, fun k hk => ?_⟩
  · by_cases e : k < xs.length
    · rw [ix_snoc e]
      exact h2 k e
    · rw [show k = xs.length by omega, ix_last]
      exact hx
  · by_cases e : k + 1 < xs.length
    · rw [ix_snoc e, ix_snoc (show k < xs.length by omega)]
      exact h3 k e
    · have e2 : k + 1 = xs.length := by omega
      rw [e2, ix_last, ix_snoc (by omega)]
      exact hi k (by omega)
theorem ids_snoc {xs : List Body} {x : Body} {m n : Int} (hi : idsLtB m xs) (hm : m ≤ n) (hx : x.Id < n) : idsLtB n (xs ++ [x]) := by
  intro e he
  have len : (xs ++ [x]).length = xs.length + 1 := by simp
  by_cases c : e < xs.length
  · rw [ix_snoc c]
    have := hi e c
    omega
  · rw [show e = xs.length by omega, ix_last]
    exact hx
noncomputable section
def bd (b : List Int) (p id : Int) : Body := (g_l11Body b p id).1.1
def cn (b : List Int) (p id : Int) : Int := (((g_l11Body b p id).2 % 16 : Nat) : Int)
theorem cn_le (b : List Int) (p id : Int) : 0 ≤ cn b p id ∧ cn b p id ≤ 15 := by
  unfold cn
  omega
def nearP (b : List Int) (p : Int) (v : Vec) : Vec := ⟨withinS (W (W (v.X + W (pk b p 256 * 4)) - 512)) 2560000, withinS (W (W (v.Y + W (pk b (p + 1) 256 * 4)) - 512)) 2560000⟩
theorem nearP_le (b : List Int) (p : Int) (v : Vec) : -2560000 ≤ (nearP b p v).X ∧ (nearP b p v).X ≤ 2560000 ∧ -2560000 ≤ (nearP b p v).Y ∧ (nearP b p v).Y ≤ 2560000 := ⟨(withinS_to _).1, (withinS_to _).2, (withinS_to _).1, (withinS_to _).2⟩
def dStep (b : List Int) (p id : Int) (xs : List Body) : Int × Int × List Body :=
  let q := p + cn b p id
  bif decide ((xs.length : Int) > 0) then
    bif decide (pk b q 3 > 0) then
      (q + 1 + 1 + 1 + 1 + 1, W (W (id + 1) + pk b (q + 1 + 1 + 1 + 1) 3), xs ++ [{ bd b p id with At := nearP b (q + 1 + 1) (Ty.ix .body xs (pk b (q + 1) xs.length).toNat).At }])
    else (q + 1 + 1, W (W (id + 1) + pk b (q + 1) 3), xs ++ [bd b p id])
  else (q + 1, W (W (id + 1) + pk b q 3), xs ++ [bd b p id])
def dGo (b : List Int) : Nat → Int → Int → List Body → Int × List Body
  | 0, p, _, xs => (p, xs)
  | k + 1, p, id, xs => dGo b k (dStep b p id xs).1 (dStep b p id xs).2.1 (dStep b p id xs).2.2
def dEnd (b : List Int) (s : Int × List Body) : Int × List Body :=
  bif pk b s.1 4 == 0 then (s.1 + 1 + 1, stepF s.2 (Ty.ix .int ([0, 32] : List Int) (pk b (s.1 + 1) 2).toNat)) else (s.1 + 1, s.2)
def dDraw (b : List Int) (p : Int) : Int × List Body :=
  dEnd b (dGo b (bif pk b (p + 1 + 1) 20 == 0 then 12 else (pk b (p + 1) 7).toNat) (p + 1 + 1 + 1) (pk b p 3) [])
theorem dStep_spec {b : List Int} {p id : Int} {xs : List Body} (i0 : 0 ≤ id) (i1 : id ≤ 40) (h : bodiesOk xs = true) (hi : idsLtB id xs) (hl : xs.length < 12) :
    p ≤ (dStep b p id xs).1 ∧ (dStep b p id xs).1 ≤ p + 20 ∧ id < (dStep b p id xs).2.1 ∧ (dStep b p id xs).2.1 ≤ id + 3 ∧ bodiesOk (dStep b p id xs).2.2 = true ∧ idsLtB (dStep b p id xs).2.1 (dStep b p id xs).2.2 ∧ (dStep b p id xs).2.2.length = xs.length + 1 := by
  have hc := cn_le b p id
  have hid : (bd b p id).Id = id := (g_l11Body b p id).1.2.1
  have hbd : bodyOk (bd b p id) = true := bodyD_ok i0 (by omega) (g_l11Body b p id).1.2
  have w1 : W (id + 1) = id + 1 := W_small (by omega) (by omega)
  have hpk : ∀ q, W (W (id + 1) + pk b q 3) = id + 1 + pk b q 3 := fun q => by
    have := pk_lt b q (n := 3) (by omega)
    rw [w1]
    exact W_small (by omega) (by omega)
  have fin : ∀ {x : Body} (q : Int), x.Id = id → bodyOk x = true → bodiesOk (xs ++ [x]) = true ∧ idsLtB (W (W (id + 1) + pk b q 3)) (xs ++ [x]) ∧ (xs ++ [x]).length = xs.length + 1 := fun {x} q h1 h2 => by
    have := pk_lt b q (n := 3) (by omega)
    refine ⟨ok_snoc h (by rw [h1]; exact hi) h2 hl, ?_, by simp⟩
    rw [hpk q]
    exact ids_snoc hi (by omega) (by omega)
  unfold dStep
  dsimp only
  cases decide ((xs.length : Int) > 0) with
  | false =>
    simp only [cond_false]
    have hk := pk_lt b (p + cn b p id) (n := 3) (by omega)
    have := fin (p + cn b p id) hid hbd
    exact ⟨by omega, by omega, by rw [hpk]; omega, by rw [hpk]; omega, this.1, this.2.1, this.2.2⟩
  | true =>
    simp only [cond_true]
    cases decide (pk b (p + cn b p id) 3 > 0) with
    | false =>
      simp only [cond_false]
      have hk := pk_lt b (p + cn b p id + 1) (n := 3) (by omega)
      have := fin (p + cn b p id + 1) hid hbd
      exact ⟨by omega, by omega, by rw [hpk]; omega, by rw [hpk]; omega, this.1, this.2.1, this.2.2⟩
    | true =>
      simp only [cond_true]
      have hk := pk_lt b (p + cn b p id + 1 + 1 + 1 + 1) (n := 3) (by omega)
      have := fin (x := { bd b p id with At := nearP b (p + cn b p id + 1 + 1) (Ty.ix .body xs (pk b (p + cn b p id + 1) xs.length).toNat).At }) (p + cn b p id + 1 + 1 + 1 + 1) hid (bok_at hbd (nearP_le _ _ _))
      exact ⟨by omega, by omega, by rw [hpk]; omega, by rw [hpk]; omega, this.1, this.2.1, this.2.2⟩
theorem dGo_next {b : List Int} {p id n n0 topP topI q id' : Int} {xs ys : List Body} {R : Int × List Body} (e : dStep b p id xs = (q, id', ys)) (h1 : 0 < n) (h2 : n ≤ n0) (h12 : n0 ≤ 12) (p0 : 0 ≤ p) (hp : p + 20 * n ≤ topP) (i0 : 0 ≤ id) (hi : id + 3 * n ≤ topI) (ti : topI ≤ 40)
    (ok : bodiesOk xs = true) (ids : idsLtB id xs) (hl : (xs.length : Int) + n = n0) (h7 : dGo b n.toNat p id xs = R) :
    (b = b ∧ 0 ≤ IntKind.i64.wrap (n - 1) ∧ IntKind.i64.wrap (n - 1) ≤ n0 ∧ 0 ≤ q ∧ q + 20 * IntKind.i64.wrap (n - 1) ≤ topP ∧ 0 ≤ id' ∧ id' + 3 * IntKind.i64.wrap (n - 1) ≤ topI ∧ bodiesOk ys = true ∧ idsLtB id' ys ∧ (ys.length : Int) + IntKind.i64.wrap (n - 1) = n0 ∧ dGo b (IntKind.i64.wrap (n - 1)).toNat q id' ys = R) ∧
    (IntKind.i64.wrap (n - 1)).toNat < n.toNat := by
  obtain ⟨s1, s2, s3, s4, s5, s6, s7⟩ := dStep_spec (b := b) (p := p) i0 (by omega) ok ids (by omega)
  rw [e] at s1 s2 s3 s4 s5 s6 s7
  dsimp only at s1 s2 s3 s4 s5 s6 s7
  have w : IntKind.i64.wrap (n - 1) = n - 1 := wrap_small (by omega) (by omega)
  rw [w]
  refine ⟨⟨rfl, by omega, by omega, by omega, by omega, by omega, by omega, s5, s6, by omega, ?_⟩, by omega⟩
  rw [← h7, show n.toNat = (n - 1).toNat + 1 by omega]
  simp only [dGo, e]
theorem dGo_spec {b : List Int} : ∀ {k : Nat} {p id : Int} {xs : List Body}, 0 ≤ id → id + 3 * k ≤ 40 → bodiesOk xs = true → idsLtB id xs → xs.length + k ≤ 12 → p ≤ (dGo b k p id xs).1 ∧ (dGo b k p id xs).1 ≤ p + 20 * k ∧ bodiesOk (dGo b k p id xs).2 = true
  | 0, p, id, xs, _, _, h, _, _ => ⟨by simp only [dGo]; omega, by simp only [dGo]; omega, h⟩
  | k + 1, p, id, xs, i0, i1, h, hi, hl => by
    obtain ⟨s1, s2, s3, s4, s5, s6, s7⟩ := dStep_spec (b := b) (p := p) i0 (by omega) h hi (by omega)
    obtain ⟨r1, r2, r3⟩ := dGo_spec (b := b) (k := k) (p := (dStep b p id xs).1) (id := (dStep b p id xs).2.1) (xs := (dStep b p id xs).2.2) (by omega) (by omega) s5 s6 (by omega)
    simp only [dGo]
    exact ⟨by omega, by omega, r3⟩
theorem ids_nil (m : Int) : idsLtB m [] := fun e h => by simp at h
def pullI (i : Nat) : Int := if i = 0 then 0 else if i = 1 then 32 else 0
theorem ixPull (i : Nat) : @Eq Int (Ty.ix .int ([0, 32] : List Int) i) (pullI i) := ix2 ..
theorem pullI_le (i : Nat) : 0 ≤ pullI i ∧ pullI i ≤ 2560 := by
  unfold pullI
  (repeat' split) <;> omega
theorem ix032 (i : Nat) : @LE.le Int _ 0 (Ty.ix .int ([0, 32] : List Int) i) ∧ @LE.le Int _ (Ty.ix .int ([0, 32] : List Int) i) 2560 := by
  rw [ixPull]
  exact pullI_le i
theorem dEnd_spec {b : List Int} {s : Int × List Body} (h : bodiesOk s.2 = true) : s.1 < (dEnd b s).1 ∧ (dEnd b s).1 ≤ s.1 + 2 ∧ bodiesOk (dEnd b s).2 = true := by
  unfold dEnd
  cases pk b s.1 4 == 0 with
  | false => exact ⟨by simp only [cond_false]; omega, by simp only [cond_false]; omega, h⟩
  | true => exact ⟨by simp only [cond_true]; omega, by simp only [cond_true]; omega, ok_stepF h (ix032 _).1 (ix032 _).2⟩
theorem bodiesOk_nil : bodiesOk [] = true := rfl
theorem dDraw_spec {b : List Int} {p : Int} : p ≤ (dDraw b p).1 ∧ (dDraw b p).1 ≤ p + 400 ∧ bodiesOk (dDraw b p).2 = true := by
  have k1 := pk_lt b (p + 1) (n := 7) (by omega)
  have k2 := pk_lt b p (n := 3) (by omega)
  have hk : (bif pk b (p + 1 + 1) 20 == 0 then 12 else (pk b (p + 1) 7).toNat) ≤ 12 := by
    cases pk b (p + 1 + 1) 20 == 0 <;> simp only [cond_true, cond_false] <;> omega
  unfold dDraw
  generalize (bif pk b (p + 1 + 1) 20 == 0 then 12 else (pk b (p + 1) 7).toNat) = k at *
  obtain ⟨r1, r2, r3⟩ := dGo_spec (b := b) (k := k) (p := p + 1 + 1 + 1) (id := pk b p 3) (xs := []) (by omega) (by omega) bodiesOk_nil (ids_nil _) (by simpa using hk)
  obtain ⟨e1, e2, e3⟩ := dEnd_spec (b := b) r3
  exact ⟨by omega, by omega, e3⟩
def LSdGo  : LS where
  S := List Int × Int × Unit × List Body × Int × Int
  live := [(0, [none]), (3, [some .body]), (4, [none]), (5, [none])]
  shape := fun s => ([.ptr 1 0 0, .vec 2, .int .i64 s.2.2.2.2.1, .int .i64 s.2.2.2.2.2], [(false, .vec .byte s.1), (true, .box [.vec 0, .int .i64 s.2.1]), (true, .vec .body s.2.2.2.1)])
  get := fun v h => match v, h with
    | [.ptr 1 0 0, .vec 2, .int .i64 id, .int .i64 n], [(false, .vec .byte b), (true, .box [.vec 0, .int .i64 p]), (true, .vec .body xs)] => some (b, p, (), xs, id, n)
    | _, _ => none
  inv := fun s0 s => Holds (s.1 = s0.1 ∧ 0 ≤ s.2.2.2.2.2 ∧ s.2.2.2.2.2 ≤ s0.2.2.2.2.2 ∧ 0 ≤ s.2.1 ∧ s.2.1 + 20 * s.2.2.2.2.2 ≤ s0.2.1 + 20 * s0.2.2.2.2.2 ∧ 0 ≤ s.2.2.2.2.1 ∧ s.2.2.2.2.1 + 3 * s.2.2.2.2.2 ≤ s0.2.2.2.2.1 + 3 * s0.2.2.2.2.2 ∧ bodiesOk s.2.2.2.1 = true ∧ idsLtB s.2.2.2.2.1 s.2.2.2.1 ∧ s.2.2.2.1.length + s.2.2.2.2.2 = s0.2.2.2.2.2 ∧ dGo s.1 s.2.2.2.2.2.toNat s.2.1 s.2.2.2.2.1 s.2.2.2.1 = dGo s0.1 s0.2.2.2.2.2.toNat s0.2.1 s0.2.2.2.2.1 s0.2.2.2.1)
  mu := fun s => s.2.2.2.2.2.toNat
  ok := by
    intro v h s hg
    try dsimp only at hg
    split at hg <;> cases hg
    rfl

def L_l11Bodies : Loops := fun n => match n with
  | 6 => some LSdGo
  | _ => none
noncomputable def fs_l11Bodies : Fs := ⟨[], fun args H => match args, H with
  | [.ptr 1 0 0], [(false, .vec .byte b), (true, .box [.vec 0, .int .i64 p])] => some ((some (0 ≤ p ∧ p + 400 ≤ 1000000000000 ∧ BytesOk b)), .vec 2, [(false, .vec .byte b), (true, .box [.vec 0, .int .i64 (dDraw b p).1]), (true, .vec .body (dDraw b p).2)])
  | _, _ => none⟩

theorem vc_l11Bodies (b : List Int) (p : Int) (Q : SV → List Ent → Prop) :
    fnVC tt (look [(105, fs_rdPick), (153, fs_rdOne), (222, fs_l11Body), (211, fs_specWithin), (75, fs_l9Step)]) (L_l11Bodies) Tryz.f182 [.ptr 1 0 0] [(false, .vec .byte b), (true, .box [.vec 0, .int .i64 p])] Q =
    (let w_ := IntKind.wrap IntKind.i64; let s_ := SV.int IntKind.i64; let n_ := Int.toNat; let ii_ := Ty.ix Ty.int; let A36_ := (p + (1 : Int) + (1 : Int) + (1 : Int)); let A35_ := (g_rdPick b p (3 : Int) % (3 : Int)); let A34_ := (g_rdPick b (p + (1 : Int)) (7 : Int) % (7 : Int)); ((0 : Int) ≤ p ∧ p + (1 : Int) ≤ (1000000000000 : Int) ∧ BytesOk b ∧ (1 : Int) ≤ (3 : Int)) ∧ ((0 : Int) ≤ p + (1 : Int) ∧ p + (1 : Int) + (1 : Int) ≤ (1000000000000 : Int) ∧ BytesOk b ∧ (1 : Int) ≤ (7 : Int)) ∧ ((0 : Int) ≤ p + (1 : Int) + (1 : Int) ∧ p + (1 : Int) + (1 : Int) + (1 : Int) ≤ (1000000000000 : Int) ∧ BytesOk b ∧ (1 : Int) ≤ (20 : Int)) ∧ ifB (g_rdPick b (p + (1 : Int) + (1 : Int)) (20 : Int) % (20 : Int) == (0 : Int)) (Holds (b = b ∧ (0 : Int) ≤ (12 : Int) ∧ (12 : Int) ≤ (12 : Int) ∧ (0 : Int) ≤ p + (1 : Int) + (1 : Int) + (1 : Int) ∧ p + (1 : Int) + (1 : Int) + (1 : Int) + (20 : Int) * (12 : Int) ≤ p + (1 : Int) + (1 : Int) + (1 : Int) + (20 : Int) * (12 : Int) ∧ (0 : Int) ≤ g_rdPick b p (3 : Int) % (3 : Int) ∧ g_rdPick b p (3 : Int) % (3 : Int) + (3 : Int) * (12 : Int) ≤ g_rdPick b p (3 : Int) % (3 : Int) + (3 : Int) * (12 : Int) ∧ bodiesOk [] = true ∧ idsLtB A35_ [] ∧ (0 : Int) + (12 : Int) = (12 : Int) ∧ dGo b (n_ (12 : Int)) A36_ A35_ [] = dGo b (n_ (12 : Int)) A36_ A35_ []) ∧ ∀ (y18 : List Int × Int × Unit × List Body × Int × Int), let y18f0_ := Prod.fst y18; let y18s1_ := Prod.snd y18; let y18f1_ := Prod.fst (Prod.snd y18); let y18s3_ := Prod.snd (Prod.snd (Prod.snd y18)); let y18f3_ := Prod.fst (Prod.snd (Prod.snd (Prod.snd y18))); let y18s4_ := Prod.snd (Prod.snd (Prod.snd (Prod.snd y18))); let y18f4_ := Prod.fst (Prod.snd (Prod.snd (Prod.snd (Prod.snd y18)))); let y18s5_ := Prod.snd (Prod.snd (Prod.snd (Prod.snd (Prod.snd y18)))); let A33_ := A35_; let A32_ := A36_; let A28_ := (↑(List.length y18f3_) : Int); let A25_ := (n_ (g_rdPick y18f0_ (Prod.fst y18s1_ + (1 : Int)) (↑(List.length [(0 : Int), (32 : Int)]) : Int) % (↑(List.length [(0 : Int), (32 : Int)]) : Int))); let A23_ := (Prod.snd y18s4_ - (1 : Int)); let A31_ := (w_ A23_); let A21_ := (Prod.fst (g_l11Body y18f0_ y18f1_ y18f4_)); let A29_ := (Prod.fst y18s3_ ++ [Subtype.val A21_]); let A20_ := (↑(Prod.snd (g_l11Body y18f0_ y18f1_ y18f4_) % (16 : Nat)) : Int); let A30_ := (Prod.fst y18s1_ + A20_ + (1 : Int)); let A27_ := (w_ (Prod.fst y18s4_ + (1 : Int)) + g_rdPick y18f0_ (Prod.fst y18s1_ + A20_) (3 : Int) % (3 : Int)); let A26_ := (w_ (Prod.fst y18s4_ + (1 : Int)) + g_rdPick y18f0_ A30_ (3 : Int) % (3 : Int)); let A24_ := (w_ (Prod.fst y18s4_ + (1 : Int)) + g_rdPick y18f0_ (Prod.fst y18s1_ + A20_ + (1 : Int) + (1 : Int) + (1 : Int) + (1 : Int)) (3 : Int) % (3 : Int)); let A22_ := (Vec.mk (withinS (w_ (w_ (Vec.X (Body.At (Ty.ix Ty.body y18f3_ (n_ (g_rdPick y18f0_ A30_ A28_ % A28_)))) + w_ (g_rdPick y18f0_ (Prod.fst y18s1_ + A20_ + (1 : Int) + (1 : Int)) (256 : Int) % (256 : Int) * (4 : Int))) - (512 : Int))) (2560000 : Int)) (withinS (w_ (w_ (Vec.Y (Body.At (Ty.ix Ty.body y18f3_ (n_ (g_rdPick y18f0_ A30_ A28_ % A28_)))) + w_ (g_rdPick y18f0_ (Prod.fst y18s1_ + A20_ + (1 : Int) + (1 : Int) + (1 : Int)) (256 : Int) % (256 : Int) * (4 : Int))) - (512 : Int))) (2560000 : Int))); let A19_ := (Prod.fst y18s3_ ++ [Body.mk (Body.Id (Subtype.val A21_)) (Body.Shape (Subtype.val A21_)) A22_ (Body.Drive (Subtype.val A21_)) (Body.Mass (Subtype.val A21_)) (Body.Bounce (Subtype.val A21_)) (Body.Rub (Subtype.val A21_)) (Body.Quiet (Subtype.val A21_))]); Holds (Prod.fst y18 = b ∧ (0 : Int) ≤ y18s5_ ∧ y18s5_ ≤ (12 : Int) ∧ (0 : Int) ≤ y18f1_ ∧ y18f1_ + (20 : Int) * y18s5_ ≤ p + (1 : Int) + (1 : Int) + (1 : Int) + (20 : Int) * (12 : Int) ∧ (0 : Int) ≤ y18f4_ ∧ y18f4_ + (3 : Int) * y18s5_ ≤ g_rdPick b p (3 : Int) % (3 : Int) + (3 : Int) * (12 : Int) ∧ bodiesOk y18f3_ = true ∧ idsLtB y18f4_ y18f3_ ∧ A28_ + y18s5_ = (12 : Int) ∧ dGo y18f0_ (n_ y18s5_) y18f1_ y18f4_ y18f3_ = dGo b (n_ (12 : Int)) A32_ A33_ []) → ifB (decide (Prod.snd y18s4_ > (0 : Int))) (((0 : Int) ≤ y18f1_ ∧ y18f1_ + (15 : Int) ≤ (1000000000000 : Int) ∧ BytesOk y18f0_) ∧ ifB (decide (A28_ > (0 : Int))) (((0 : Int) ≤ y18f1_ + A20_ ∧ y18f1_ + A20_ + (1 : Int) ≤ (1000000000000 : Int) ∧ BytesOk y18f0_ ∧ (1 : Int) ≤ (3 : Int)) ∧ ifB (decide (g_rdPick y18f0_ (Prod.fst y18s1_ + A20_) (3 : Int) % (3 : Int) > (0 : Int))) (((0 : Int) ≤ y18f1_ + A20_ + (1 : Int) ∧ y18f1_ + A20_ + (1 : Int) + (1 : Int) ≤ (1000000000000 : Int) ∧ BytesOk y18f0_ ∧ (1 : Int) ≤ A28_) ∧ ((0 : Int) ≤ g_rdPick y18f0_ A30_ A28_ % A28_ ∧ g_rdPick y18f0_ A30_ A28_ % A28_ < A28_) ∧ ((0 : Int) ≤ y18f1_ + A20_ + (1 : Int) + (1 : Int) ∧ y18f1_ + A20_ + (1 : Int) + (1 : Int) + (1 : Int) ≤ (1000000000000 : Int) ∧ BytesOk y18f0_ ∧ (1 : Int) ≤ (256 : Int)) ∧ ((0 : Int) ≤ y18f1_ + A20_ + (1 : Int) + (1 : Int) + (1 : Int) ∧ y18f1_ + A20_ + (1 : Int) + (1 : Int) + (1 : Int) + (1 : Int) ≤ (1000000000000 : Int) ∧ BytesOk y18f0_ ∧ (1 : Int) ≤ (256 : Int)) ∧ (List.length y18f3_ + List.length [Body.mk (Body.Id (Subtype.val A21_)) (Body.Shape (Subtype.val A21_)) A22_ (Body.Drive (Subtype.val A21_)) (Body.Mass (Subtype.val A21_)) (Body.Bounce (Subtype.val A21_)) (Body.Rub (Subtype.val A21_)) (Body.Quiet (Subtype.val A21_))]) * (96 : Nat) ≤ room ∧ ((0 : Int) ≤ y18f1_ + A20_ + (1 : Int) + (1 : Int) + (1 : Int) + (1 : Int) ∧ y18f1_ + A20_ + (1 : Int) + (1 : Int) + (1 : Int) + (1 : Int) + (1 : Int) ≤ (1000000000000 : Int) ∧ BytesOk y18f0_ ∧ (1 : Int) ≤ (3 : Int)) ∧ Holds (Prod.fst y18 = b ∧ (0 : Int) ≤ w_ A23_ ∧ w_ A23_ ≤ (12 : Int) ∧ (0 : Int) ≤ y18f1_ + A20_ + (1 : Int) + (1 : Int) + (1 : Int) + (1 : Int) + (1 : Int) ∧ y18f1_ + A20_ + (1 : Int) + (1 : Int) + (1 : Int) + (1 : Int) + (1 : Int) + (20 : Int) * w_ A23_ ≤ p + (1 : Int) + (1 : Int) + (1 : Int) + (20 : Int) * (12 : Int) ∧ (0 : Int) ≤ w_ A24_ ∧ w_ A24_ + (3 : Int) * w_ A23_ ≤ g_rdPick b p (3 : Int) % (3 : Int) + (3 : Int) * (12 : Int) ∧ bodiesOk A19_ = true ∧ idsLtB (w_ A24_) A19_ ∧ (↑(List.length A19_) : Int) + w_ A23_ = (12 : Int) ∧ dGo y18f0_ (n_ A31_) (Prod.fst y18s1_ + A20_ + (1 : Int) + (1 : Int) + (1 : Int) + (1 : Int) + (1 : Int)) (w_ A24_) A19_ = dGo b (n_ (12 : Int)) A32_ A33_ []) ∧ n_ A31_ < n_ y18s5_) ((List.length y18f3_ + List.length [Subtype.val A21_]) * (96 : Nat) ≤ room ∧ ((0 : Int) ≤ y18f1_ + A20_ + (1 : Int) ∧ y18f1_ + A20_ + (1 : Int) + (1 : Int) ≤ (1000000000000 : Int) ∧ BytesOk y18f0_ ∧ (1 : Int) ≤ (3 : Int)) ∧ Holds (Prod.fst y18 = b ∧ (0 : Int) ≤ w_ A23_ ∧ w_ A23_ ≤ (12 : Int) ∧ (0 : Int) ≤ y18f1_ + A20_ + (1 : Int) + (1 : Int) ∧ y18f1_ + A20_ + (1 : Int) + (1 : Int) + (20 : Int) * w_ A23_ ≤ p + (1 : Int) + (1 : Int) + (1 : Int) + (20 : Int) * (12 : Int) ∧ (0 : Int) ≤ w_ A26_ ∧ w_ A26_ + (3 : Int) * w_ A23_ ≤ g_rdPick b p (3 : Int) % (3 : Int) + (3 : Int) * (12 : Int) ∧ bodiesOk A29_ = true ∧ idsLtB (w_ A26_) A29_ ∧ (↑(List.length A29_) : Int) + w_ A23_ = (12 : Int) ∧ dGo y18f0_ (n_ A31_) (Prod.fst y18s1_ + A20_ + (1 : Int) + (1 : Int)) (w_ A26_) A29_ = dGo b (n_ (12 : Int)) A32_ A33_ []) ∧ n_ A31_ < n_ y18s5_)) ((List.length y18f3_ + List.length [Subtype.val A21_]) * (96 : Nat) ≤ room ∧ ((0 : Int) ≤ y18f1_ + A20_ ∧ y18f1_ + A20_ + (1 : Int) ≤ (1000000000000 : Int) ∧ BytesOk y18f0_ ∧ (1 : Int) ≤ (3 : Int)) ∧ Holds (Prod.fst y18 = b ∧ (0 : Int) ≤ w_ A23_ ∧ w_ A23_ ≤ (12 : Int) ∧ (0 : Int) ≤ y18f1_ + A20_ + (1 : Int) ∧ y18f1_ + A20_ + (1 : Int) + (20 : Int) * w_ A23_ ≤ p + (1 : Int) + (1 : Int) + (1 : Int) + (20 : Int) * (12 : Int) ∧ (0 : Int) ≤ w_ A27_ ∧ w_ A27_ + (3 : Int) * w_ A23_ ≤ g_rdPick b p (3 : Int) % (3 : Int) + (3 : Int) * (12 : Int) ∧ bodiesOk A29_ = true ∧ idsLtB (w_ A27_) A29_ ∧ (↑(List.length A29_) : Int) + w_ A23_ = (12 : Int) ∧ dGo y18f0_ (n_ A31_) A30_ (w_ A27_) A29_ = dGo b (n_ (12 : Int)) A32_ A33_ []) ∧ n_ A31_ < n_ y18s5_)) (((0 : Int) ≤ y18f1_ ∧ y18f1_ + (1 : Int) ≤ (1000000000000 : Int) ∧ BytesOk y18f0_ ∧ (1 : Int) ≤ (4 : Int)) ∧ ifB (g_rdPick y18f0_ y18f1_ (4 : Int) % (4 : Int) == (0 : Int)) (((0 : Int) ≤ y18f1_ + (1 : Int) ∧ y18f1_ + (1 : Int) + (1 : Int) ≤ (1000000000000 : Int) ∧ BytesOk y18f0_ ∧ (1 : Nat) ≤ List.length [(0 : Int), (32 : Int)]) ∧ (bodiesOk y18f3_ = true ∧ (0 : Int) ≤ ii_ [(0 : Int), (32 : Int)] A25_ ∧ ii_ [(0 : Int), (32 : Int)] A25_ ≤ (2560 : Int)) ∧ ((0 : Nat) + List.length (stepF y18f3_ (ii_ [(0 : Int), (32 : Int)] A25_))) * (96 : Nat) ≤ room ∧ Q (SV.vec (2 : Nat)) [(false, Blk.vec Ty.byte y18f0_), (true, Blk.box [SV.vec (0 : Nat), s_ (Prod.fst y18s1_ + (1 : Int) + (1 : Int))]), (true, Blk.vec Ty.body ([] ++ stepF y18f3_ (ii_ [(0 : Int), (32 : Int)] A25_)))]) (Q (SV.vec (2 : Nat)) [(false, Blk.vec Ty.byte y18f0_), (true, Blk.box [SV.vec (0 : Nat), s_ (Prod.fst y18s1_ + (1 : Int))]), (true, Blk.vec Ty.body y18f3_)]))) (Holds (b = b ∧ (0 : Int) ≤ g_rdPick b (p + (1 : Int)) (7 : Int) % (7 : Int) ∧ g_rdPick b (p + (1 : Int)) (7 : Int) % (7 : Int) ≤ g_rdPick b (p + (1 : Int)) (7 : Int) % (7 : Int) ∧ (0 : Int) ≤ p + (1 : Int) + (1 : Int) + (1 : Int) ∧ p + (1 : Int) + (1 : Int) + (1 : Int) + (20 : Int) * A34_ ≤ p + (1 : Int) + (1 : Int) + (1 : Int) + (20 : Int) * A34_ ∧ (0 : Int) ≤ g_rdPick b p (3 : Int) % (3 : Int) ∧ g_rdPick b p (3 : Int) % (3 : Int) + (3 : Int) * A34_ ≤ g_rdPick b p (3 : Int) % (3 : Int) + (3 : Int) * A34_ ∧ bodiesOk [] = true ∧ idsLtB A35_ [] ∧ (0 : Int) + g_rdPick b (p + (1 : Int)) (7 : Int) % (7 : Int) = g_rdPick b (p + (1 : Int)) (7 : Int) % (7 : Int) ∧ dGo b (n_ A34_) A36_ A35_ [] = dGo b (n_ A34_) A36_ A35_ []) ∧ ∀ (y1 : List Int × Int × Unit × List Body × Int × Int), let y1f0_ := Prod.fst y1; let y1s1_ := Prod.snd y1; let y1f1_ := Prod.fst (Prod.snd y1); let y1s3_ := Prod.snd (Prod.snd (Prod.snd y1)); let y1f3_ := Prod.fst (Prod.snd (Prod.snd (Prod.snd y1))); let y1s4_ := Prod.snd (Prod.snd (Prod.snd (Prod.snd y1))); let y1f4_ := Prod.fst (Prod.snd (Prod.snd (Prod.snd (Prod.snd y1)))); let y1s5_ := Prod.snd (Prod.snd (Prod.snd (Prod.snd (Prod.snd y1)))); let A17_ := A35_; let A16_ := A36_; let A12_ := (↑(List.length y1f3_) : Int); let A9_ := (n_ (g_rdPick y1f0_ (Prod.fst y1s1_ + (1 : Int)) (↑(List.length [(0 : Int), (32 : Int)]) : Int) % (↑(List.length [(0 : Int), (32 : Int)]) : Int))); let A8_ := (Prod.snd y1s4_ - (1 : Int)); let A15_ := (w_ A8_); let A6_ := A34_; let A4_ := (Prod.fst (g_l11Body y1f0_ y1f1_ y1f4_)); let A13_ := (Prod.fst y1s3_ ++ [Subtype.val A4_]); let A3_ := (↑(Prod.snd (g_l11Body y1f0_ y1f1_ y1f4_) % (16 : Nat)) : Int); let A14_ := (Prod.fst y1s1_ + A3_ + (1 : Int)); let A11_ := (w_ (Prod.fst y1s4_ + (1 : Int)) + g_rdPick y1f0_ (Prod.fst y1s1_ + A3_) (3 : Int) % (3 : Int)); let A10_ := (w_ (Prod.fst y1s4_ + (1 : Int)) + g_rdPick y1f0_ A14_ (3 : Int) % (3 : Int)); let A7_ := (w_ (Prod.fst y1s4_ + (1 : Int)) + g_rdPick y1f0_ (Prod.fst y1s1_ + A3_ + (1 : Int) + (1 : Int) + (1 : Int) + (1 : Int)) (3 : Int) % (3 : Int)); let A5_ := (Vec.mk (withinS (w_ (w_ (Vec.X (Body.At (Ty.ix Ty.body y1f3_ (n_ (g_rdPick y1f0_ A14_ A12_ % A12_)))) + w_ (g_rdPick y1f0_ (Prod.fst y1s1_ + A3_ + (1 : Int) + (1 : Int)) (256 : Int) % (256 : Int) * (4 : Int))) - (512 : Int))) (2560000 : Int)) (withinS (w_ (w_ (Vec.Y (Body.At (Ty.ix Ty.body y1f3_ (n_ (g_rdPick y1f0_ A14_ A12_ % A12_)))) + w_ (g_rdPick y1f0_ (Prod.fst y1s1_ + A3_ + (1 : Int) + (1 : Int) + (1 : Int)) (256 : Int) % (256 : Int) * (4 : Int))) - (512 : Int))) (2560000 : Int))); let A2_ := (Prod.fst y1s3_ ++ [Body.mk (Body.Id (Subtype.val A4_)) (Body.Shape (Subtype.val A4_)) A5_ (Body.Drive (Subtype.val A4_)) (Body.Mass (Subtype.val A4_)) (Body.Bounce (Subtype.val A4_)) (Body.Rub (Subtype.val A4_)) (Body.Quiet (Subtype.val A4_))]); Holds (Prod.fst y1 = b ∧ (0 : Int) ≤ y1s5_ ∧ y1s5_ ≤ g_rdPick b (p + (1 : Int)) (7 : Int) % (7 : Int) ∧ (0 : Int) ≤ y1f1_ ∧ y1f1_ + (20 : Int) * y1s5_ ≤ p + (1 : Int) + (1 : Int) + (1 : Int) + (20 : Int) * A6_ ∧ (0 : Int) ≤ y1f4_ ∧ y1f4_ + (3 : Int) * y1s5_ ≤ g_rdPick b p (3 : Int) % (3 : Int) + (3 : Int) * A6_ ∧ bodiesOk y1f3_ = true ∧ idsLtB y1f4_ y1f3_ ∧ A12_ + y1s5_ = g_rdPick b (p + (1 : Int)) (7 : Int) % (7 : Int) ∧ dGo y1f0_ (n_ y1s5_) y1f1_ y1f4_ y1f3_ = dGo b (n_ A6_) A16_ A17_ []) → ifB (decide (Prod.snd y1s4_ > (0 : Int))) (((0 : Int) ≤ y1f1_ ∧ y1f1_ + (15 : Int) ≤ (1000000000000 : Int) ∧ BytesOk y1f0_) ∧ ifB (decide (A12_ > (0 : Int))) (((0 : Int) ≤ y1f1_ + A3_ ∧ y1f1_ + A3_ + (1 : Int) ≤ (1000000000000 : Int) ∧ BytesOk y1f0_ ∧ (1 : Int) ≤ (3 : Int)) ∧ ifB (decide (g_rdPick y1f0_ (Prod.fst y1s1_ + A3_) (3 : Int) % (3 : Int) > (0 : Int))) (((0 : Int) ≤ y1f1_ + A3_ + (1 : Int) ∧ y1f1_ + A3_ + (1 : Int) + (1 : Int) ≤ (1000000000000 : Int) ∧ BytesOk y1f0_ ∧ (1 : Int) ≤ A12_) ∧ ((0 : Int) ≤ g_rdPick y1f0_ A14_ A12_ % A12_ ∧ g_rdPick y1f0_ A14_ A12_ % A12_ < A12_) ∧ ((0 : Int) ≤ y1f1_ + A3_ + (1 : Int) + (1 : Int) ∧ y1f1_ + A3_ + (1 : Int) + (1 : Int) + (1 : Int) ≤ (1000000000000 : Int) ∧ BytesOk y1f0_ ∧ (1 : Int) ≤ (256 : Int)) ∧ ((0 : Int) ≤ y1f1_ + A3_ + (1 : Int) + (1 : Int) + (1 : Int) ∧ y1f1_ + A3_ + (1 : Int) + (1 : Int) + (1 : Int) + (1 : Int) ≤ (1000000000000 : Int) ∧ BytesOk y1f0_ ∧ (1 : Int) ≤ (256 : Int)) ∧ (List.length y1f3_ + List.length [Body.mk (Body.Id (Subtype.val A4_)) (Body.Shape (Subtype.val A4_)) A5_ (Body.Drive (Subtype.val A4_)) (Body.Mass (Subtype.val A4_)) (Body.Bounce (Subtype.val A4_)) (Body.Rub (Subtype.val A4_)) (Body.Quiet (Subtype.val A4_))]) * (96 : Nat) ≤ room ∧ ((0 : Int) ≤ y1f1_ + A3_ + (1 : Int) + (1 : Int) + (1 : Int) + (1 : Int) ∧ y1f1_ + A3_ + (1 : Int) + (1 : Int) + (1 : Int) + (1 : Int) + (1 : Int) ≤ (1000000000000 : Int) ∧ BytesOk y1f0_ ∧ (1 : Int) ≤ (3 : Int)) ∧ Holds (Prod.fst y1 = b ∧ (0 : Int) ≤ w_ A8_ ∧ w_ A8_ ≤ g_rdPick b (p + (1 : Int)) (7 : Int) % (7 : Int) ∧ (0 : Int) ≤ y1f1_ + A3_ + (1 : Int) + (1 : Int) + (1 : Int) + (1 : Int) + (1 : Int) ∧ y1f1_ + A3_ + (1 : Int) + (1 : Int) + (1 : Int) + (1 : Int) + (1 : Int) + (20 : Int) * w_ A8_ ≤ p + (1 : Int) + (1 : Int) + (1 : Int) + (20 : Int) * A6_ ∧ (0 : Int) ≤ w_ A7_ ∧ w_ A7_ + (3 : Int) * w_ A8_ ≤ g_rdPick b p (3 : Int) % (3 : Int) + (3 : Int) * A6_ ∧ bodiesOk A2_ = true ∧ idsLtB (w_ A7_) A2_ ∧ (↑(List.length A2_) : Int) + w_ A8_ = g_rdPick b (p + (1 : Int)) (7 : Int) % (7 : Int) ∧ dGo y1f0_ (n_ A15_) (Prod.fst y1s1_ + A3_ + (1 : Int) + (1 : Int) + (1 : Int) + (1 : Int) + (1 : Int)) (w_ A7_) A2_ = dGo b (n_ A6_) A16_ A17_ []) ∧ n_ A15_ < n_ y1s5_) ((List.length y1f3_ + List.length [Subtype.val A4_]) * (96 : Nat) ≤ room ∧ ((0 : Int) ≤ y1f1_ + A3_ + (1 : Int) ∧ y1f1_ + A3_ + (1 : Int) + (1 : Int) ≤ (1000000000000 : Int) ∧ BytesOk y1f0_ ∧ (1 : Int) ≤ (3 : Int)) ∧ Holds (Prod.fst y1 = b ∧ (0 : Int) ≤ w_ A8_ ∧ w_ A8_ ≤ g_rdPick b (p + (1 : Int)) (7 : Int) % (7 : Int) ∧ (0 : Int) ≤ y1f1_ + A3_ + (1 : Int) + (1 : Int) ∧ y1f1_ + A3_ + (1 : Int) + (1 : Int) + (20 : Int) * w_ A8_ ≤ p + (1 : Int) + (1 : Int) + (1 : Int) + (20 : Int) * A6_ ∧ (0 : Int) ≤ w_ A10_ ∧ w_ A10_ + (3 : Int) * w_ A8_ ≤ g_rdPick b p (3 : Int) % (3 : Int) + (3 : Int) * A6_ ∧ bodiesOk A13_ = true ∧ idsLtB (w_ A10_) A13_ ∧ (↑(List.length A13_) : Int) + w_ A8_ = g_rdPick b (p + (1 : Int)) (7 : Int) % (7 : Int) ∧ dGo y1f0_ (n_ A15_) (Prod.fst y1s1_ + A3_ + (1 : Int) + (1 : Int)) (w_ A10_) A13_ = dGo b (n_ A6_) A16_ A17_ []) ∧ n_ A15_ < n_ y1s5_)) ((List.length y1f3_ + List.length [Subtype.val A4_]) * (96 : Nat) ≤ room ∧ ((0 : Int) ≤ y1f1_ + A3_ ∧ y1f1_ + A3_ + (1 : Int) ≤ (1000000000000 : Int) ∧ BytesOk y1f0_ ∧ (1 : Int) ≤ (3 : Int)) ∧ Holds (Prod.fst y1 = b ∧ (0 : Int) ≤ w_ A8_ ∧ w_ A8_ ≤ g_rdPick b (p + (1 : Int)) (7 : Int) % (7 : Int) ∧ (0 : Int) ≤ y1f1_ + A3_ + (1 : Int) ∧ y1f1_ + A3_ + (1 : Int) + (20 : Int) * w_ A8_ ≤ p + (1 : Int) + (1 : Int) + (1 : Int) + (20 : Int) * A6_ ∧ (0 : Int) ≤ w_ A11_ ∧ w_ A11_ + (3 : Int) * w_ A8_ ≤ g_rdPick b p (3 : Int) % (3 : Int) + (3 : Int) * A6_ ∧ bodiesOk A13_ = true ∧ idsLtB (w_ A11_) A13_ ∧ (↑(List.length A13_) : Int) + w_ A8_ = g_rdPick b (p + (1 : Int)) (7 : Int) % (7 : Int) ∧ dGo y1f0_ (n_ A15_) A14_ (w_ A11_) A13_ = dGo b (n_ A6_) A16_ A17_ []) ∧ n_ A15_ < n_ y1s5_)) (((0 : Int) ≤ y1f1_ ∧ y1f1_ + (1 : Int) ≤ (1000000000000 : Int) ∧ BytesOk y1f0_ ∧ (1 : Int) ≤ (4 : Int)) ∧ ifB (g_rdPick y1f0_ y1f1_ (4 : Int) % (4 : Int) == (0 : Int)) (((0 : Int) ≤ y1f1_ + (1 : Int) ∧ y1f1_ + (1 : Int) + (1 : Int) ≤ (1000000000000 : Int) ∧ BytesOk y1f0_ ∧ (1 : Nat) ≤ List.length [(0 : Int), (32 : Int)]) ∧ (bodiesOk y1f3_ = true ∧ (0 : Int) ≤ ii_ [(0 : Int), (32 : Int)] A9_ ∧ ii_ [(0 : Int), (32 : Int)] A9_ ≤ (2560 : Int)) ∧ ((0 : Nat) + List.length (stepF y1f3_ (ii_ [(0 : Int), (32 : Int)] A9_))) * (96 : Nat) ≤ room ∧ Q (SV.vec (2 : Nat)) [(false, Blk.vec Ty.byte y1f0_), (true, Blk.box [SV.vec (0 : Nat), s_ (Prod.fst y1s1_ + (1 : Int) + (1 : Int))]), (true, Blk.vec Ty.body ([] ++ stepF y1f3_ (ii_ [(0 : Int), (32 : Int)] A9_)))]) (Q (SV.vec (2 : Nat)) [(false, Blk.vec Ty.byte y1f0_), (true, Blk.box [SV.vec (0 : Nat), s_ (Prod.fst y1s1_ + (1 : Int))]), (true, Blk.vec Ty.body y1f3_)])))) := by kernel_rfl

theorem ok_l11Bodies : FsOk Tryz.prog 182 fs_l11Bodies := fsOk_of tt_ok (tabFs_cons ok_rdPick (tabFs_cons ok_rdOne (tabFs_cons ok_l11Body (tabFs_cons ok_specWithin (tabFs_cons ok_l9Step tabFs_nil))))) mixed Tryz.func182 (by kernel_rfl) (by kernel_rfl) (by
    intro args LL p r HH h hp
    unfold fs_l11Bodies at h
    dsimp only at h
    split at h
    case h_2 => cases h
    rename_i b p
    simp only [Option.some.injEq, Prod.mk.injEq] at h
    obtain ⟨rfl, rfl, rfl⟩ := h
    refine ⟨by simp [Form, stays], (L_l11Bodies), ?_⟩
    rw [vc_l11Bodies]
    try dsimp only
    obtain ⟨hp0, hp1, hby⟩ := hp _ rfl
    have k1 := pk_lt b (p + 1) (n := 7) (by omega)
    have k2 := pk_lt b p (n := 3) (by omega)
    simp only [pk] at k1 k2
    refine ⟨⟨hp0, by omega, hby, by omega⟩, ⟨by omega, by omega, hby, by omega⟩, ⟨by omega, by omega, hby, by omega⟩, ifB_of (fun c => ⟨⟨(by trivial), by omega, by omega, by omega, by omega, k2.1, by omega, (by trivial), ids_nil _, by omega, (by trivial)⟩, ?_⟩) (fun c => ⟨⟨(by trivial), k1.1, by omega, by omega, by omega, k2.1, by omega, (by trivial), ids_nil _, by omega, (by trivial)⟩, ?_⟩)⟩
    case' refine_1 =>
      have hd : dDraw b p = dEnd b (dGo b (12 : Int).toNat (p + 1 + 1 + 1) (g_rdPick b p 3 % 3) []) := by
        unfold dDraw
        rw [show (pk b (p + 1 + 1) 20 == 0) = true from c]
        rfl
      obtain ⟨n0, e0, n12⟩ : ∃ n0 : Int, n0 = 12 ∧ n0 ≤ 12 := ⟨12, rfl, by omega⟩
      rw [hd, ← e0]
      clear e0
    case' refine_2 =>
      have hd : dDraw b p = dEnd b (dGo b (g_rdPick b (p + 1) 7 % 7).toNat (p + 1 + 1 + 1) (g_rdPick b p 3 % 3) []) := by
        unfold dDraw
        rw [show (pk b (p + 1 + 1) 20 == 0) = false from c]
        rfl
      have n12 : g_rdPick b (p + 1) 7 % 7 ≤ 12 := by omega
      rw [hd]
      generalize g_rdPick b (p + 1) 7 % 7 = n0 at *
    all_goals
      clear hd c
      generalize g_rdPick b p 3 % 3 = id0 at *
      rintro ⟨b', p', u, xs, id, n⟩ ⟨h⟩
      dsimp only at h ⊢
      obtain ⟨rfl, i1, i2, i3, i4, i5, i6, i7, i8, i9, i10⟩ := h
      refine ifB_of (fun c => ?_) (fun c => ?_)
      · have c := of_decide_eq_true c
        refine ⟨⟨i3, by omega, hby⟩, ifB_of (fun c1 => ⟨⟨by omega, by omega, hby, by omega⟩, ifB_of (fun c2 => ?_) (fun c2 => ?_)⟩) (fun c1 => ?_)⟩
        · have hl : 0 < (xs.length : Int) := of_decide_eq_true c1
          have hx := pk_lt b' (p' + cn b' p' id + 1) (n := xs.length) (by omega)
          have e := dGo_next (b := b') (p := p') (id := id) (topP := p + 1 + 1 + 1 + 20 * n0) (topI := id0 + 3 * n0) (show dStep b' p' id xs = (p' + cn b' p' id + 1 + 1 + 1 + 1 + 1, W (W (id + 1) + pk b' (p' + cn b' p' id + 1 + 1 + 1 + 1) 3), xs ++ [{ bd b' p' id with At := nearP b' (p' + cn b' p' id + 1 + 1) (Ty.ix .body xs (pk b' (p' + cn b' p' id + 1) xs.length).toNat).At }]) by unfold dStep; dsimp only; rw [c1, show decide (pk b' (p' + cn b' p' id) 3 > 0) = true from c2]; rfl) c i2 n12 i3 i4 i5 i6 (by omega) i7 i8 i9 i10
          exact ⟨⟨by omega, by omega, hby, by omega⟩, hx, ⟨by omega, by omega, hby, by omega⟩, ⟨by omega, by omega, hby, by omega⟩, by simp only [room, List.length_singleton]; omega, ⟨by omega, by omega, hby, by omega⟩, ⟨e.1⟩, e.2⟩
        · have e := dGo_next (b := b') (p := p') (id := id) (topP := p + 1 + 1 + 1 + 20 * n0) (topI := id0 + 3 * n0) (show dStep b' p' id xs = (p' + cn b' p' id + 1 + 1, W (W (id + 1) + pk b' (p' + cn b' p' id + 1) 3), xs ++ [bd b' p' id]) by unfold dStep; dsimp only; rw [c1, show decide (pk b' (p' + cn b' p' id) 3 > 0) = false from c2]; rfl) c i2 n12 i3 i4 i5 i6 (by omega) i7 i8 i9 i10
          exact ⟨by simp only [room, List.length_singleton]; omega, ⟨by omega, by omega, hby, by omega⟩, ⟨e.1⟩, e.2⟩
        · have e := dGo_next (b := b') (p := p') (id := id) (topP := p + 1 + 1 + 1 + 20 * n0) (topI := id0 + 3 * n0) (show dStep b' p' id xs = (p' + cn b' p' id + 1, W (W (id + 1) + pk b' (p' + cn b' p' id) 3), xs ++ [bd b' p' id]) by unfold dStep; dsimp only; rw [c1]; rfl) c i2 n12 i3 i4 i5 i6 (by omega) i7 i8 i9 i10
          exact ⟨by simp only [room, List.length_singleton]; omega, ⟨by omega, by omega, hby, by omega⟩, ⟨e.1⟩, e.2⟩
      · have c := of_decide_eq_false c
        have hn : n.toNat = 0 := by omega
        rw [hn] at i10
        have i10 : (p', xs) = _ := i10
        rw [← i10]
        have hle := bodiesOk_len i7
        refine ⟨⟨i3, by omega, hby, by omega⟩, ifB_of (fun c1 => ?_) (fun c1 => ?_)⟩
        · have hlf := length_stepF xs (Ty.ix .int ([0, 32] : List Int) (g_rdPick b' (p' + 1) 2 % 2).toNat)
          refine ⟨⟨by omega, by omega, hby, by simp⟩, ⟨i7, (ix032 _).1, (ix032 _).2⟩, by simp only [room, length_stepF]; omega, ?_⟩
          have hd : dEnd b' (p', xs) = (p' + 1 + 1, stepF xs (Ty.ix .int ([0, 32] : List Int) (g_rdPick b' (p' + 1) 2 % 2).toNat)) := by
            unfold dEnd
            rw [show (pk b' (p', xs).1 4 == 0) = true from c1]
            rfl
          rw [hd]
          exact ⟨(by trivial), (by trivial)⟩
        · have hd : dEnd b' (p', xs) = (p' + 1, xs) := by
            unfold dEnd
            rw [show (pk b' (p', xs).1 4 == 0) = false from c1]
            rfl
          rw [hd]
          exact ⟨(by trivial), (by trivial)⟩)

def bodiesP (xs : List Body) : Prop := xs.length ≤ 13
instance : Nonempty {x : List Body // bodiesP x} := ⟨⟨[], by simp [bodiesP]⟩⟩
noncomputable def g_l11AnyBodies (b : List Int) (p : Int) : ({x : List Body // bodiesP x}) × Nat := someAns tt (look [(105, fs_rdPick), (182, fs_l11Bodies), (183, fs_l11AnyBody)]) Tryz.f103 [.ptr 1 0 0] [(false, .vec .byte b), (true, .box [.vec 0, .int .i64 p])] (fun x : ({x : List Body // bodiesP x}) × Nat => (.vec 2 : SV)) (fun x : ({x : List Body // bodiesP x}) × Nat => ([(false, .vec .byte b), (true, .box [.vec 0, .int .i64 (p + ((x.2 % 451 : Nat) : Int))]), (true, .vec .body (x.1.1))] : List Ent))
noncomputable def fs_l11AnyBodies : Fs := ⟨[], fun args H => match args, H with
  | [.ptr 1 0 0], [(false, .vec .byte b), (true, .box [.vec 0, .int .i64 p])] => some ((some (0 ≤ p ∧ p + 450 ≤ 1000000000000 ∧ BytesOk b)), .vec 2, [(false, .vec .byte b), (true, .box [.vec 0, .int .i64 (p + (((g_l11AnyBodies b p).2 % 451 : Nat) : Int))]), (true, .vec .body ((g_l11AnyBodies b p).1.1))])
  | _, _ => none⟩

theorem vc_l11AnyBodies (b : List Int) (p : Int) (Q : SV → List Ent → Prop) :
    fnVC tt (look [(105, fs_rdPick), (182, fs_l11Bodies), (183, fs_l11AnyBody)]) L0 Tryz.f103 [.ptr 1 0 0] [(false, .vec .byte b), (true, .box [.vec 0, .int .i64 p])] Q =
    (((0 : Int) ≤ p ∧ p + (400 : Int) ≤ (1000000000000 : Int) ∧ BytesOk b) ∧ ifB ((↑(List.length (Prod.snd (dDraw b p))) : Int) == (0 : Int)) (Q (SV.vec (2 : Nat)) [(false, Blk.vec Ty.byte b), (true, Blk.box [SV.vec (0 : Nat), SV.int IntKind.i64 (Prod.fst (dDraw b p))]), (true, Blk.vec Ty.body (Prod.snd (dDraw b p)))]) (((0 : Int) ≤ Prod.fst (dDraw b p) ∧ Prod.fst (dDraw b p) + (1 : Int) ≤ (1000000000000 : Int) ∧ BytesOk b ∧ (1 : Int) ≤ (↑(List.length (Prod.snd (dDraw b p))) : Int)) ∧ ((0 : Int) ≤ Prod.fst (dDraw b p) + (1 : Int) ∧ Prod.fst (dDraw b p) + (1 : Int) + (1 : Int) ≤ (1000000000000 : Int) ∧ BytesOk b ∧ (1 : Int) ≤ (20 : Int)) ∧ ifB (g_rdPick b (Prod.fst (dDraw b p) + (1 : Int)) (20 : Int) % (20 : Int) == (0 : Int)) (((0 : Int) ≤ Prod.fst (dDraw b p) + (1 : Int) + (1 : Int) ∧ Prod.fst (dDraw b p) + (1 : Int) + (1 : Int) + (24 : Int) ≤ (1000000000000 : Int) ∧ BytesOk b) ∧ ((0 : Int) ≤ g_rdPick b (Prod.fst (dDraw b p)) (↑(List.length (Prod.snd (dDraw b p))) : Int) % (↑(List.length (Prod.snd (dDraw b p))) : Int) ∧ g_rdPick b (Prod.fst (dDraw b p)) (↑(List.length (Prod.snd (dDraw b p))) : Int) % (↑(List.length (Prod.snd (dDraw b p))) : Int) < (↑(List.length (Prod.snd (dDraw b p))) : Int)) ∧ Q (SV.vec (2 : Nat)) [(false, Blk.vec Ty.byte b), (true, Blk.box [SV.vec (0 : Nat), SV.int IntKind.i64 (Prod.fst (dDraw b p) + (1 : Int) + (1 : Int) + (↑(Prod.snd (g_l11AnyBody b (Prod.fst (dDraw b p) + (1 : Int) + (1 : Int))) % (25 : Nat)) : Int))]), (true, Blk.vec Ty.body (List.set (Prod.snd (dDraw b p)) (Int.toNat (g_rdPick b (Prod.fst (dDraw b p)) (↑(List.length (Prod.snd (dDraw b p))) : Int) % (↑(List.length (Prod.snd (dDraw b p))) : Int))) (Prod.fst (g_l11AnyBody b (Prod.fst (dDraw b p) + (1 : Int) + (1 : Int))))))]) (ifB (g_rdPick b (Prod.fst (dDraw b p) + (1 : Int)) (20 : Int) % (20 : Int) == (1 : Int)) (((0 : Int) ≤ (0 : Int) ∧ (0 : Int) < (↑(List.length (Prod.snd (dDraw b p))) : Int)) ∧ (List.length (Prod.snd (dDraw b p)) + List.length [Ty.ix Ty.body (Prod.snd (dDraw b p)) (Int.toNat (0 : Int))]) * (96 : Nat) ≤ room ∧ Q (SV.vec (2 : Nat)) [(false, Blk.vec Ty.byte b), (true, Blk.box [SV.vec (0 : Nat), SV.int IntKind.i64 (Prod.fst (dDraw b p) + (1 : Int) + (1 : Int))]), (true, Blk.vec Ty.body (Prod.snd (dDraw b p) ++ [Ty.ix Ty.body (Prod.snd (dDraw b p)) (Int.toNat (0 : Int))]))]) (Q (SV.vec (2 : Nat)) [(false, Blk.vec Ty.byte b), (true, Blk.box [SV.vec (0 : Nat), SV.int IntKind.i64 (Prod.fst (dDraw b p) + (1 : Int) + (1 : Int))]), (true, Blk.vec Ty.body (Prod.snd (dDraw b p)))])))) := by kernel_rfl

theorem ok_l11AnyBodies : FsOk Tryz.prog 103 fs_l11AnyBodies := fsOk_of tt_ok (tabFs_cons ok_rdPick (tabFs_cons ok_l11Bodies (tabFs_cons ok_l11AnyBody tabFs_nil))) mixed Tryz.func103 (by kernel_rfl) (by kernel_rfl) (by
    intro args LL p0 r HH h hp
    unfold fs_l11AnyBodies at h
    dsimp only at h
    split at h
    case h_2 => cases h
    rename_i b p
    simp only [Option.some.injEq, Prod.mk.injEq] at h
    obtain ⟨rfl, rfl, rfl⟩ := h
    refine ⟨by simp [Form, stays], L0, ?_⟩
    obtain ⟨hp0, hp1, hby⟩ := hp _ rfl
    refine someAns_ok (R := (fun x : ({x : List Body // bodiesP x}) × Nat => (.vec 2 : SV))) (HH := (fun x : ({x : List Body // bodiesP x}) × Nat => ([(false, .vec .byte b), (true, .box [.vec 0, .int .i64 (p + ((x.2 % 451 : Nat) : Int))]), (true, .vec .body (x.1.1))] : List Ent))) (by kernel_rfl) ?_
    have fin : ∀ (z : List Body) (p' : Int), bodiesP z → p ≤ p' → p' ≤ p + 450 → ∃ x : ({x : List Body // bodiesP x}) × Nat, ((.vec 2 : SV) : SV) = (fun x : ({x : List Body // bodiesP x}) × Nat => (.vec 2 : SV)) x ∧ (([(false, .vec .byte b), (true, .box [.vec 0, .int .i64 p']), (true, .vec .body (z))] : List Ent) : List Ent) = (fun x : ({x : List Body // bodiesP x}) × Nat => ([(false, .vec .byte b), (true, .box [.vec 0, .int .i64 (p + ((x.2 % 451 : Nat) : Int))]), (true, .vec .body (x.1.1))] : List Ent)) x := fun z p' hpred h1 h2 => ⟨(⟨z, hpred⟩, (p' - p).toNat), rfl, by
      have : p + (((p' - p).toNat % 451 : Nat) : Int) = p' := by omega
      dsimp only
      rw [this]⟩
    rw [vc_l11AnyBodies]
    try dsimp only
    try dsimp only at fin
    obtain ⟨d1, d2, d3⟩ := dDraw_spec (b := b) (p := p)
    have dl := bodiesOk_len d3
    generalize dDraw b p = d at *
    obtain ⟨q, xs⟩ := d
    dsimp only at d1 d2 d3 dl ⊢
    refine ⟨⟨hp0, by omega, hby⟩, ifB_of (fun c => ?_) (fun c => ?_)⟩
    · exact fin _ _ (by simp only [bodiesP]; omega) (by omega) (by omega)
    · have hl : 0 < (xs.length : Int) := by
        have : ¬ (xs.length : Int) = 0 := by simpa using c
        omega
      have hk := pk_lt b q (n := xs.length) (by omega)
      simp only [pk] at hk
      refine ⟨⟨by omega, by omega, hby, by omega⟩, ⟨by omega, by omega, hby, by omega⟩, ifB_of (fun _ => ⟨⟨by omega, by omega, hby⟩, hk, fin _ _ (by simp only [bodiesP, List.length_set]; omega) (by omega) (by omega)⟩) (fun _ => ifB_of (fun _ => ?_) (fun _ => ?_))⟩
      · exact ⟨⟨by omega, hl⟩, by simp only [room, List.length_cons, List.length_nil]; omega, fin _ _ (by simp only [bodiesP, List.length_append, List.length_cons, List.length_nil]; omega) (by omega) (by omega)⟩
      · exact fin _ _ (by simp only [bodiesP]; omega) (by omega) (by omega))

def pushD (z : List Body × List Contact) : Prop := z.1.length ≤ 13 ∧ z.2.length ≤ 145
instance : Nonempty {x : List Body × List Contact // pushD x} := ⟨⟨([], []), by simp [pushD]⟩⟩
noncomputable def g_DrawStepPairs (b : List Int) : {x : List Body // bodiesP x} := someAns tt (look [(102, fs_l1Open), (103, fs_l11AnyBodies)]) Tryz.f55 [.vec 0] [(false, .vec .byte b)] (fun x : {x : List Body // bodiesP x} => (.vec 1 : SV)) (fun x : {x : List Body // bodiesP x} => ([(false, .vec .byte b), (true, .vec .body (x.1))] : List Ent))
noncomputable def fs_DrawStepPairs : Fs := ⟨[], fun args H => match args, H with
  | [.vec 0], [(false, .vec .byte b)] => some ((some (BytesOk b)), .vec 1, [(false, .vec .byte b), (true, .vec .body ((g_DrawStepPairs b).1))])
  | _, _ => none⟩

theorem vc_DrawStepPairs (b : List Int) (Q : SV → List Ent → Prop) :
    fnVC tt (look [(102, fs_l1Open), (103, fs_l11AnyBodies)]) L0 Tryz.f55 [.vec 0] [(false, .vec .byte b)] Q =
    (((0 : Int) ≤ (0 : Int) ∧ (0 : Int) + (450 : Int) ≤ (1000000000000 : Int) ∧ BytesOk (List.take (min (List.length b) (2000 : Nat)) (List.drop (0 : Nat) b))) ∧ Q (SV.vec (1 : Nat)) [(false, Blk.vec Ty.byte b), (true, Blk.vec Ty.body (Subtype.val (Prod.fst (g_l11AnyBodies (List.take (min (List.length b) (2000 : Nat)) (List.drop (0 : Nat) b)) (0 : Int)))))]) := by kernel_rfl

theorem ok_DrawStepPairs : FsOk Tryz.prog 55 fs_DrawStepPairs := fsOk_of tt_ok (tabFs_cons ok_l1Open (tabFs_cons ok_l11AnyBodies tabFs_nil)) mixed Tryz.func55 (by kernel_rfl) (by kernel_rfl) (by
    intro args LL p0 r HH h hp
    unfold fs_DrawStepPairs at h
    dsimp only at h
    split at h
    case h_2 => cases h
    rename_i b
    simp only [Option.some.injEq, Prod.mk.injEq] at h
    obtain ⟨rfl, rfl, rfl⟩ := h
    refine ⟨by simp [Form, stays], L0, ?_⟩
    have hby := hp _ rfl
    refine someAns_ok (R := (fun x : {x : List Body // bodiesP x} => (.vec 1 : SV))) (HH := (fun x : {x : List Body // bodiesP x} => ([(false, .vec .byte b), (true, .vec .body (x.1))] : List Ent))) (by kernel_rfl) ?_
    have fin : ∀ (z : List Body), bodiesP z → ∃ x : {x : List Body // bodiesP x}, ((.vec 1 : SV) : SV) = (fun x : {x : List Body // bodiesP x} => (.vec 1 : SV)) x ∧ (([(false, .vec .byte b), (true, .vec .body (z))] : List Ent) : List Ent) = (fun x : {x : List Body // bodiesP x} => ([(false, .vec .byte b), (true, .vec .body (x.1))] : List Ent)) x := fun z hpred => ⟨⟨z, hpred⟩, rfl, rfl⟩
    rw [vc_DrawStepPairs]
    try dsimp only
    try dsimp only at fin
    repeat' (first | refine ifB_of (fun _ => ?_) (fun _ => ?_) | refine pre_of ?_ (fun _ => ?_))
    all_goals first
      | (refine fin _ ?_; exact (g_l11AnyBodies _ _).1.2)
      | omega
      | exact hby
      | exact hby.part _ _
      | exact Nat.le_add_left _ _
      | exact ⟨by omega, by omega, hby.part _ _⟩
      | exact ⟨by omega, by omega, hby.part _ _, by omega⟩
      | exact ⟨by omega, by omega, hby.part _ _, Nat.le_add_left _ _⟩)

/-- So many steps of a world. -/
def wGo : Nat → Int × Int × List Body × List Pair → Int × Int × List Body × List Pair
  | 0, w => w
  | n + 1, w => wGo n (stepTick (worldOk w.1 w.2.1 w.2.2.1 w.2.2.2) w.1, orI (worldOk w.1 w.2.1 w.2.2.1 w.2.2.2) w.2.1, stepBodies (worldOk w.1 w.2.1 w.2.2.1 w.2.2.2) w.1 w.2.1 w.2.2.1, stepPs (worldOk w.1 w.2.1 w.2.2.1 w.2.2.2) w.1 w.2.1 w.2.2.1 w.2.2.2)
def wDraw (b : List Int) (p : Int) : Int × (Int × Int × List Body × List Pair) :=
  ((dDraw b (p + 1)).1 + 1, wGo (pk b (dDraw b (p + 1)).1 4).toNat (0, pullOf (Ty.ix .int ([0, 32, 32, 8, 2560] : List Int) (pk b p 5).toNat), (dDraw b (p + 1)).2, []))
def worldD (z : Int × Int × List Body × List Pair) : Prop := z.2.2.1.length ≤ 13 ∧ z.2.2.2.length ≤ 145
instance : Nonempty {x : Int × Int × List Body × List Pair // worldD x} := ⟨⟨(0, 0, [], []), by simp [worldD]⟩⟩
theorem stepBodies12 (ok : Bool) (t p : Int) {xs : List Body} (h : xs.length ≤ 12) : (stepBodies ok t p xs).length ≤ 12 := by
  unfold stepBodies
  have := length_stepOf xs p
  cases ok <;> cases t == 100000 <;> simp only [cond_true, cond_false, List.length_nil] <;> omega
theorem stepPs144 (ok : Bool) (t p : Int) (xs : List Body) {ps : List Pair} (h : ps.length ≤ 144) : (stepPs ok t p xs ps).length ≤ 144 := by
  unfold stepPs
  have := length_stepPairs (stepOf xs p)
  cases ok <;> cases t == 100000 <;> simp only [cond_true, cond_false, List.length_nil] <;> omega
theorem wGo_len : ∀ (n : Nat) {w : Int × Int × List Body × List Pair}, w.2.2.1.length ≤ 12 → w.2.2.2.length ≤ 144 → (wGo n w).2.2.1.length ≤ 12 ∧ (wGo n w).2.2.2.length ≤ 144
  | 0, _, h1, h2 => ⟨h1, h2⟩
  | n + 1, w, h1, h2 => wGo_len n (stepBodies12 _ _ _ h1) (stepPs144 _ _ _ _ h2)
theorem wDraw_spec {b : List Int} {p : Int} : p < (wDraw b p).1 ∧ (wDraw b p).1 ≤ p + 402 ∧ (wDraw b p).2.2.2.1.length ≤ 12 ∧ (wDraw b p).2.2.2.2.length ≤ 144 := by
  obtain ⟨d1, d2, d3⟩ := dDraw_spec (b := b) (p := p + 1)
  have := wGo_len (pk b (dDraw b (p + 1)).1 4).toNat (w := (0, pullOf (Ty.ix .int ([0, 32, 32, 8, 2560] : List Int) (pk b p 5).toNat), (dDraw b (p + 1)).2, [])) (bodiesOk_len d3) (by simp)
  unfold wDraw
  exact ⟨by dsimp only; omega, by dsimp only; omega, this.1, this.2⟩
def LSwGo  : LS where
  S := List Int × Int × (Int × Int) × (Int × Int × List Body × List Pair) × Int
  live := [(2, [none]), (3, [none]), (4, [none])]
  shape := fun s => ([.ptr 2 0 0, .ptr 5 0 0, .int .i64 s.2.2.2.2], [(false, .vec .byte s.1), (true, .box [.vec 0, .int .i64 s.2.1]), (true, .box [.int .i64 s.2.2.1.1, .int .i64 s.2.2.1.2, .nilsl, .nilsl]), (true, .vec .body s.2.2.2.1.2.2.1), (true, .vec .pair s.2.2.2.1.2.2.2), (true, .box [.int .i64 s.2.2.2.1.1, .int .i64 s.2.2.2.1.2.1, .vec 3, .vec 4])])
  get := fun v h => match v, h with
    | [.ptr 2 0 0, .ptr 5 0 0, .int .i64 n], [(false, .vec .byte b), (true, .box [.vec 0, .int .i64 p]), (true, .box [.int .i64 r_0, .int .i64 r_1, .nilsl, .nilsl]), (true, .vec .body v_2), (true, .vec .pair v_3), (true, .box [.int .i64 v_0, .int .i64 v_1, .vec 3, .vec 4])] => some (b, p, (r_0, r_1), (v_0, v_1, v_2, v_3), n)
    | _, _ => none
  inv := fun s0 s => Holds (s.1 = s0.1 ∧ s.2.1 = s0.2.1 ∧ s.2.2.1 = s0.2.2.1 ∧ 0 ≤ s.2.2.2.2 ∧ s.2.2.2.2 ≤ 3 ∧ s.2.2.2.1.2.2.1.length ≤ 12 ∧ s.2.2.2.1.2.2.2.length ≤ 144 ∧ wGo s.2.2.2.2.toNat s.2.2.2.1 = wGo s0.2.2.2.2.toNat s0.2.2.2.1)
  mu := fun s => s.2.2.2.2.toNat
  ok := by
    intro v h s hg
    try dsimp only at hg
    split at hg <;> cases hg
    rfl

def L_l11World : Loops := fun n => match n with
  | 4 => some LSwGo
  | _ => none
noncomputable def fs_l11World : Fs := ⟨[], fun args H => match args, H with
  | [.ptr 1 0 0], [(false, .vec .byte b), (true, .box [.vec 0, .int .i64 p])] => some ((some (0 ≤ p ∧ p + 402 ≤ 1000000000000 ∧ BytesOk b)), .agg [.int .i64 (wDraw b p).2.1, .int .i64 (wDraw b p).2.2.1, .vec 2, .vec 3], [(false, .vec .byte b), (true, .box [.vec 0, .int .i64 (wDraw b p).1]), (true, .vec .body (wDraw b p).2.2.2.1), (true, .vec .pair (wDraw b p).2.2.2.2)])
  | _, _ => none⟩

theorem vc_l11World (b : List Int) (p : Int) (Q : SV → List Ent → Prop) :
    fnVC tt (look [(105, fs_rdPick), (153, fs_rdOne), (230, fs_specWorldNew), (182, fs_l11Bodies), (24, fs_specWorldStep)]) (L_l11World) Tryz.f192 [.ptr 1 0 0] [(false, .vec .byte b), (true, .box [.vec 0, .int .i64 p])] Q =
    (let w_ := IntKind.wrap IntKind.i64; let A7_ := (dDraw b (p + (1 : Int))); let A8_ := (Int.toNat (g_rdPick b (Prod.fst A7_) (4 : Int) % (4 : Int))); let A6_ := ((0 : Int), pullOf (Ty.ix Ty.int [(0 : Int), (32 : Int), (32 : Int), (8 : Int), (2560 : Int)] (Int.toNat (g_rdPick b p (↑(List.length [(0 : Int), (32 : Int), (32 : Int), (8 : Int), (2560 : Int)]) : Int) % (↑(List.length [(0 : Int), (32 : Int), (32 : Int), (8 : Int), (2560 : Int)]) : Int)))), Prod.snd A7_, []); ((0 : Int) ≤ p ∧ p + (1 : Int) ≤ (1000000000000 : Int) ∧ BytesOk b ∧ (1 : Nat) ≤ List.length [(0 : Int), (32 : Int), (32 : Int), (8 : Int), (2560 : Int)]) ∧ ((0 : Int) ≤ p + (1 : Int) ∧ p + (1 : Int) + (400 : Int) ≤ (1000000000000 : Int) ∧ BytesOk b) ∧ ((0 : Int) ≤ Prod.fst A7_ ∧ Prod.fst A7_ + (1 : Int) ≤ (1000000000000 : Int) ∧ BytesOk b ∧ (1 : Int) ≤ (4 : Int)) ∧ Holds (b = b ∧ Prod.fst A7_ + (1 : Int) = Prod.fst A7_ + (1 : Int) ∧ ((0 : Int), (0 : Int)) = ((0 : Int), (0 : Int)) ∧ (0 : Int) ≤ g_rdPick b (Prod.fst A7_) (4 : Int) % (4 : Int) ∧ g_rdPick b (Prod.fst A7_) (4 : Int) % (4 : Int) ≤ (3 : Int) ∧ List.length (Prod.snd A7_) ≤ (12 : Nat) ∧ (0 : Nat) ≤ (144 : Nat) ∧ wGo A8_ A6_ = wGo A8_ A6_) ∧ ∀ (y1 : List Int × Int × (Int × Int) × (Int × Int × List Body × List Pair) × Int), let y1f0_ := Prod.fst y1; let y1s1_ := Prod.snd y1; let y1f1_ := Prod.fst (Prod.snd y1); let y1f2_ := Prod.fst (Prod.snd (Prod.snd y1)); let y1s3_ := Prod.snd (Prod.snd (Prod.snd y1)); let y1f3_ := Prod.fst (Prod.snd (Prod.snd (Prod.snd y1))); let y1s4_ := Prod.snd (Prod.snd (Prod.snd (Prod.snd y1))); let A5_ := (Prod.fst (Prod.snd y1f3_)); let A4_ := (Prod.snd (Prod.snd y1f3_)); let A3_ := A6_; let A2_ := (worldOk (Prod.fst y1f3_) A5_ (Prod.fst A4_) (Prod.snd A4_)); Holds (Prod.fst y1 = b ∧ y1f1_ = Prod.fst A7_ + (1 : Int) ∧ y1f2_ = ((0 : Int), (0 : Int)) ∧ (0 : Int) ≤ y1s4_ ∧ y1s4_ ≤ (3 : Int) ∧ List.length (Prod.fst A4_) ≤ (12 : Nat) ∧ List.length (Prod.snd A4_) ≤ (144 : Nat) ∧ wGo (Int.toNat y1s4_) y1f3_ = wGo A8_ A3_) → ifB (decide (Prod.snd y1s3_ > (0 : Int))) ((List.length (Prod.fst A4_) ≤ (1048576 : Nat) ∧ List.length (Prod.snd A4_) ≤ (1048576 : Nat)) ∧ Holds (Prod.fst y1 = b ∧ y1f1_ = Prod.fst A7_ + (1 : Int) ∧ y1f2_ = ((0 : Int), (0 : Int)) ∧ (0 : Int) ≤ w_ (Prod.snd y1s3_ - (1 : Int)) ∧ w_ (Prod.snd y1s3_ - (1 : Int)) ≤ (3 : Int) ∧ List.length (stepBodies A2_ (Prod.fst y1f3_) A5_ (Prod.fst A4_)) ≤ (12 : Nat) ∧ List.length (stepPs A2_ (Prod.fst y1f3_) A5_ (Prod.fst A4_) (Prod.snd A4_)) ≤ (144 : Nat) ∧ wGo (Int.toNat (w_ (Prod.snd y1s3_ - (1 : Int)))) (stepTick A2_ (Prod.fst y1f3_), orI A2_ A5_, stepBodies A2_ (Prod.fst y1f3_) A5_ (Prod.fst A4_), stepPs A2_ (Prod.fst y1f3_) A5_ (Prod.fst A4_) (Prod.snd A4_)) = wGo A8_ A3_) ∧ Int.toNat (w_ (Prod.snd y1s3_ - (1 : Int))) < Int.toNat y1s4_) (Q (SV.agg [SV.int IntKind.i64 (Prod.fst y1f3_), SV.int IntKind.i64 A5_, SV.vec (2 : Nat), SV.vec (3 : Nat)]) [(false, Blk.vec Ty.byte y1f0_), (true, Blk.box [SV.vec (0 : Nat), SV.int IntKind.i64 y1f1_]), (true, Blk.vec Ty.body (Prod.fst A4_)), (true, Blk.vec Ty.pair (Prod.snd A4_))])) := by kernel_rfl

theorem ok_l11World : FsOk Tryz.prog 192 fs_l11World := fsOk_of tt_ok (tabFs_cons ok_rdPick (tabFs_cons ok_rdOne (tabFs_cons ok_specWorldNew (tabFs_cons ok_l11Bodies (tabFs_cons ok_specWorldStep tabFs_nil))))) mixed Tryz.func192 (by kernel_rfl) (by kernel_rfl) (by
    intro args LL p r HH h hp
    unfold fs_l11World at h
    dsimp only at h
    split at h
    case h_2 => cases h
    rename_i b p
    simp only [Option.some.injEq, Prod.mk.injEq] at h
    obtain ⟨rfl, rfl, rfl⟩ := h
    refine ⟨by simp [Form, stays], (L_l11World), ?_⟩
    rw [vc_l11World]
    try dsimp only
    obtain ⟨hp0, hp1, hby⟩ := hp _ rfl
    obtain ⟨d1, d2, d3⟩ := dDraw_spec (b := b) (p := p + 1)
    have hl := bodiesOk_len d3
    have hk := pk_lt b (dDraw b (p + 1)).1 (n := 4) (by omega)
    simp only [pk] at hk
    refine ⟨⟨hp0, by omega, hby, by simp⟩, ⟨by omega, by omega, hby⟩, ⟨by omega, by omega, hby, by omega⟩, ⟨(by trivial), (by trivial), (by trivial), hk.1, by omega, hl, by omega, (by trivial)⟩, ?_⟩
    rintro ⟨b', p', r, ⟨t, q, xs, ps⟩, n⟩ ⟨h⟩
    dsimp only at h ⊢
    obtain ⟨rfl, rfl, rfl, n0, n1, l1, l2, hw⟩ := h
    refine ifB_of (fun c => ?_) (fun c => ?_)
    · have c := of_decide_eq_true c
      have w : IntKind.i64.wrap (n - 1) = n - 1 := wrap_small (by omega) (by omega)
      rw [w]
      refine ⟨⟨by omega, by omega⟩, ⟨(by trivial), (by trivial), (by trivial), by omega, by omega, stepBodies12 _ _ _ l1, stepPs144 _ _ _ _ l2, ?_⟩, by omega⟩
      rw [← hw, show n.toNat = (n - 1).toNat + 1 by omega]
      rfl
    · have c := of_decide_eq_false c
      rw [show n.toNat = 0 by omega] at hw
      have hw : (wDraw b' p).2 = (t, q, xs, ps) := hw.symm
      rw [hw]
      exact ⟨rfl, rfl⟩)

noncomputable def g_l11AnyWorld (b : List Int) (p : Int) : ({x : Int × Int × List Body × List Pair // worldD x}) × Nat := someAns tt (look [(105, fs_rdPick), (153, fs_rdOne), (192, fs_l11World), (92, fs_specCopyW), (103, fs_l11AnyBodies)]) Tryz.f114 [.ptr 1 0 0] [(false, .vec .byte b), (true, .box [.vec 0, .int .i64 p])] (fun x : ({x : Int × Int × List Body × List Pair // worldD x}) × Nat => (.agg [.int .i64 (x.1.1).1, .int .i64 (x.1.1).2.1, .vec 2, .vec 3] : SV)) (fun x : ({x : Int × Int × List Body × List Pair // worldD x}) × Nat => ([(false, .vec .byte b), (true, .box [.vec 0, .int .i64 (p + ((x.2 % 1001 : Nat) : Int))]), (true, .vec .body ((x.1.1).2.2.1)), (true, .vec .pair ((x.1.1).2.2.2))] : List Ent))
noncomputable def fs_l11AnyWorld : Fs := ⟨[], fun args H => match args, H with
  | [.ptr 1 0 0], [(false, .vec .byte b), (true, .box [.vec 0, .int .i64 p])] => some ((some (0 ≤ p ∧ p + 1000 ≤ 1000000000000 ∧ BytesOk b)), .agg [.int .i64 ((g_l11AnyWorld b p).1.1).1, .int .i64 ((g_l11AnyWorld b p).1.1).2.1, .vec 2, .vec 3], [(false, .vec .byte b), (true, .box [.vec 0, .int .i64 (p + (((g_l11AnyWorld b p).2 % 1001 : Nat) : Int))]), (true, .vec .body (((g_l11AnyWorld b p).1.1).2.2.1)), (true, .vec .pair (((g_l11AnyWorld b p).1.1).2.2.2))])
  | _, _ => none⟩

theorem vc_l11AnyWorld (b : List Int) (p : Int) (Q : SV → List Ent → Prop) :
    fnVC tt (look [(105, fs_rdPick), (153, fs_rdOne), (192, fs_l11World), (92, fs_specCopyW), (103, fs_l11AnyBodies)]) L0 Tryz.f114 [.ptr 1 0 0] [(false, .vec .byte b), (true, .box [.vec 0, .int .i64 p])] Q =
    (let s_ := SV.int IntKind.i64; let vb_ := Blk.vec Ty.body; let vp_ := Blk.vec Ty.pair; let vy_ := Blk.vec Ty.byte; let A2_ := (Prod.fst (wDraw b p) + (1 : Int)); let A1_ := (Prod.snd (Prod.snd (Prod.snd (wDraw b p)))); ((0 : Int) ≤ p ∧ p + (402 : Int) ≤ (1000000000000 : Int) ∧ BytesOk b) ∧ (List.length (Prod.fst A1_) ≤ (1048576 : Nat) ∧ List.length (Prod.snd A1_) ≤ (1048576 : Nat)) ∧ ((0 : Int) ≤ Prod.fst (wDraw b p) ∧ Prod.fst (wDraw b p) + (1 : Int) ≤ (1000000000000 : Int) ∧ BytesOk b ∧ (1 : Int) ≤ (24 : Int)) ∧ ifB (g_rdPick b (Prod.fst (wDraw b p)) (24 : Int) % (24 : Int) == (0 : Int)) (((0 : Int) ≤ Prod.fst (wDraw b p) + (1 : Int) ∧ Prod.fst (wDraw b p) + (1 : Int) + (1 : Int) ≤ (1000000000000 : Int) ∧ BytesOk b ∧ (1 : Nat) ≤ List.length [(-1 : Int), (100000 : Int), (100001 : Int)]) ∧ Q (SV.agg [s_ (Ty.ix Ty.int [(-1 : Int), (100000 : Int), (100001 : Int)] (Int.toNat (g_rdPick b A2_ (↑(List.length [(-1 : Int), (100000 : Int), (100001 : Int)]) : Int) % (↑(List.length [(-1 : Int), (100000 : Int), (100001 : Int)]) : Int)))), s_ (Prod.fst (Prod.snd (Prod.snd (wDraw b p)))), SV.vec (2 : Nat), SV.vec (3 : Nat)]) [(false, vy_ b), (true, Blk.box [SV.vec (0 : Nat), s_ (Prod.fst (wDraw b p) + (1 : Int) + (1 : Int))]), (true, vb_ (Prod.fst A1_)), (true, vp_ (Prod.snd A1_))]) (ifB (g_rdPick b (Prod.fst (wDraw b p)) (24 : Int) % (24 : Int) == (1 : Int)) (((0 : Int) ≤ Prod.fst (wDraw b p) + (1 : Int) ∧ Prod.fst (wDraw b p) + (1 : Int) + (1 : Int) ≤ (1000000000000 : Int) ∧ BytesOk b ∧ (1 : Nat) ≤ List.length [(-1 : Int), (2561 : Int)]) ∧ Q (SV.agg [s_ (Prod.fst (Prod.snd (wDraw b p))), s_ (Ty.ix Ty.int [(-1 : Int), (2561 : Int)] (Int.toNat (g_rdPick b A2_ (↑(List.length [(-1 : Int), (2561 : Int)]) : Int) % (↑(List.length [(-1 : Int), (2561 : Int)]) : Int)))), SV.vec (2 : Nat), SV.vec (3 : Nat)]) [(false, vy_ b), (true, Blk.box [SV.vec (0 : Nat), s_ (Prod.fst (wDraw b p) + (1 : Int) + (1 : Int))]), (true, vb_ (Prod.fst A1_)), (true, vp_ (Prod.snd A1_))]) (ifB (g_rdPick b (Prod.fst (wDraw b p)) (24 : Int) % (24 : Int) == (2 : Int)) (((0 : Int) ≤ Prod.fst (wDraw b p) + (1 : Int) ∧ Prod.fst (wDraw b p) + (1 : Int) + (450 : Int) ≤ (1000000000000 : Int) ∧ BytesOk b) ∧ Q (SV.agg [s_ (Prod.fst (Prod.snd (wDraw b p))), s_ (Prod.fst (Prod.snd (Prod.snd (wDraw b p)))), SV.vec (2 : Nat), SV.vec (3 : Nat)]) [(false, vy_ b), (true, Blk.box [SV.vec (0 : Nat), s_ (Prod.fst (wDraw b p) + (1 : Int) + (↑(Prod.snd (g_l11AnyBodies b A2_) % (451 : Nat)) : Int))]), (true, vb_ (Subtype.val (Prod.fst (g_l11AnyBodies b A2_)))), (true, vp_ (Prod.snd A1_))]) (ifB (g_rdPick b (Prod.fst (wDraw b p)) (24 : Int) % (24 : Int) == (3 : Int)) (((0 : Int) ≤ Prod.fst (wDraw b p) + (1 : Int) ∧ Prod.fst (wDraw b p) + (1 : Int) + (1 : Int) ≤ (1000000000000 : Int) ∧ BytesOk b ∧ (1 : Int) ≤ (5 : Int)) ∧ ((0 : Int) ≤ Prod.fst (wDraw b p) + (1 : Int) + (1 : Int) ∧ Prod.fst (wDraw b p) + (1 : Int) + (1 : Int) + (1 : Int) ≤ (1000000000000 : Int) ∧ BytesOk b ∧ (1 : Int) ≤ (9 : Int)) ∧ (List.length (Prod.snd A1_) + List.length [Pair.mk (g_rdPick b A2_ (5 : Int) % (5 : Int)) (g_rdPick b (Prod.fst (wDraw b p) + (1 : Int) + (1 : Int)) (9 : Int) % (9 : Int))]) * (16 : Nat) ≤ room ∧ Q (SV.agg [s_ (Prod.fst (Prod.snd (wDraw b p))), s_ (Prod.fst (Prod.snd (Prod.snd (wDraw b p)))), SV.vec (2 : Nat), SV.vec (3 : Nat)]) [(false, vy_ b), (true, Blk.box [SV.vec (0 : Nat), s_ (Prod.fst (wDraw b p) + (1 : Int) + (1 : Int) + (1 : Int))]), (true, vb_ (Prod.fst A1_)), (true, vp_ (Prod.snd A1_ ++ [Pair.mk (g_rdPick b A2_ (5 : Int) % (5 : Int)) (g_rdPick b (Prod.fst (wDraw b p) + (1 : Int) + (1 : Int)) (9 : Int) % (9 : Int))]))]) (Q (SV.agg [s_ (Prod.fst (Prod.snd (wDraw b p))), s_ (Prod.fst (Prod.snd (Prod.snd (wDraw b p)))), SV.vec (2 : Nat), SV.vec (3 : Nat)]) [(false, vy_ b), (true, Blk.box [SV.vec (0 : Nat), s_ A2_]), (true, vb_ (Prod.fst A1_)), (true, vp_ (Prod.snd A1_))]))))) := by kernel_rfl

theorem ok_l11AnyWorld : FsOk Tryz.prog 114 fs_l11AnyWorld := fsOk_of tt_ok (tabFs_cons ok_rdPick (tabFs_cons ok_rdOne (tabFs_cons ok_l11World (tabFs_cons ok_specCopyW (tabFs_cons ok_l11AnyBodies tabFs_nil))))) mixed Tryz.func114 (by kernel_rfl) (by kernel_rfl) (by
    intro args LL p0 r HH h hp
    unfold fs_l11AnyWorld at h
    dsimp only at h
    split at h
    case h_2 => cases h
    rename_i b p
    simp only [Option.some.injEq, Prod.mk.injEq] at h
    obtain ⟨rfl, rfl, rfl⟩ := h
    refine ⟨by simp [Form, stays], L0, ?_⟩
    obtain ⟨hp0, hp1, hby⟩ := hp _ rfl
    refine someAns_ok (R := (fun x : ({x : Int × Int × List Body × List Pair // worldD x}) × Nat => (.agg [.int .i64 (x.1.1).1, .int .i64 (x.1.1).2.1, .vec 2, .vec 3] : SV))) (HH := (fun x : ({x : Int × Int × List Body × List Pair // worldD x}) × Nat => ([(false, .vec .byte b), (true, .box [.vec 0, .int .i64 (p + ((x.2 % 1001 : Nat) : Int))]), (true, .vec .body ((x.1.1).2.2.1)), (true, .vec .pair ((x.1.1).2.2.2))] : List Ent))) (by kernel_rfl) ?_
    have fin : ∀ (zT : Int) (zP : Int) (zB : List Body) (zQ : List Pair) (p' : Int), worldD (zT, zP, zB, zQ) → p ≤ p' → p' ≤ p + 1000 → ∃ x : ({x : Int × Int × List Body × List Pair // worldD x}) × Nat, ((.agg [.int .i64 ((zT, zP, zB, zQ)).1, .int .i64 ((zT, zP, zB, zQ)).2.1, .vec 2, .vec 3] : SV) : SV) = (fun x : ({x : Int × Int × List Body × List Pair // worldD x}) × Nat => (.agg [.int .i64 (x.1.1).1, .int .i64 (x.1.1).2.1, .vec 2, .vec 3] : SV)) x ∧ (([(false, .vec .byte b), (true, .box [.vec 0, .int .i64 p']), (true, .vec .body (((zT, zP, zB, zQ)).2.2.1)), (true, .vec .pair (((zT, zP, zB, zQ)).2.2.2))] : List Ent) : List Ent) = (fun x : ({x : Int × Int × List Body × List Pair // worldD x}) × Nat => ([(false, .vec .byte b), (true, .box [.vec 0, .int .i64 (p + ((x.2 % 1001 : Nat) : Int))]), (true, .vec .body ((x.1.1).2.2.1)), (true, .vec .pair ((x.1.1).2.2.2))] : List Ent)) x := fun zT zP zB zQ p' hpred h1 h2 => ⟨(⟨(zT, zP, zB, zQ), hpred⟩, (p' - p).toNat), rfl, by
      have : p + (((p' - p).toNat % 1001 : Nat) : Int) = p' := by omega
      dsimp only
      rw [this]⟩
    rw [vc_l11AnyWorld]
    try dsimp only
    try dsimp only at fin
    obtain ⟨d1, d2, d3, d4⟩ := wDraw_spec (b := b) (p := p)
    have h1 := fun q => (g_l11AnyBodies b q).1.2
    simp only [bodiesP] at h1
    generalize wDraw b p = w at *
    repeat' (first | refine ifB_of (fun _ => ?_) (fun _ => ?_) | refine pre_of ?_ (fun _ => ?_))
    all_goals first
      | omega
      | exact hby
      | exact Nat.le_add_left _ _
      | (refine fin _ _ _ _ _ ?_ ?_ ?_ <;> first | omega | (simp only [worldD, List.length_append, List.length_cons, List.length_nil]; first | omega | (refine ⟨h1 _, ?_⟩; omega)))
      | (simp only [room, List.length_cons, List.length_nil]; omega))

end
end Go.Proofs.YtdhbkcaaijgocaaGreat.Sym

namespace Go.Proofs.YtdhbkcaaijgocaaGreat.Sym
open Go
set_option linter.unusedVariables false
set_option linter.unusedSimpArgs false
set_option maxRecDepth 100000

theorem root_nat : ∀ n : Nat, ∃ r : Nat, r * r ≤ n ∧ n < (r + 1) * (r + 1)
  | 0 => ⟨0, by decide, by decide⟩
  | n + 1 => by
    obtain ⟨r, h1, h2⟩ := root_nat n
    by_cases h : (r + 1) * (r + 1) ≤ n + 1
    · refine ⟨r + 1, h, ?_⟩
      have : (r + 1 + 1) * (r + 1 + 1) = (r + 1) * (r + 1) + 2 * r + 3 := by
        simp only [Nat.add_mul, Nat.mul_add]
        omega
      omega
    · exact ⟨r, by omega, by omega⟩
theorem rootI_spec {n : Int} (h : 0 ≤ n) : IsRoot n (rootI n) := by
  obtain ⟨r, h1, h2⟩ := root_nat n.toNat
  have k : IsRoot n (r : Int) := by
    refine ⟨by omega, ?_, ?_⟩
    · have : ((r * r : Nat) : Int) ≤ (n.toNat : Int) := Int.ofNat_le.2 h1
      rw [Int.natCast_mul] at this
      omega
    · have : (n.toNat : Int) < (((r + 1) * (r + 1) : Nat) : Int) := Int.ofNat_lt.2 h2
      rw [Int.natCast_mul, Int.natCast_add] at this
      have e : ((1 : Nat) : Int) = 1 := rfl
      rw [e] at this
      omega
  rw [rootI_eq k]
  exact k
theorem rootI_ge {x n : Int} (h : x * x ≤ n) : x ≤ rootI n ∧ -x ≤ rootI n := by
  have h0 : 0 ≤ x * x := by
    rcases Int.le_total 0 x with q | q
    · exact Int.mul_nonneg q q
    · have := Int.mul_nonneg (show 0 ≤ -x by omega) (show 0 ≤ -x by omega)
      rwa [Int.neg_mul_neg] at this
  obtain ⟨b1, b2, b3⟩ := rootI_spec (show 0 ≤ n by omega)
  refine ⟨Int.not_lt.1 fun hlt => ?_, Int.not_lt.1 fun hlt => ?_⟩
  · have := sq_le (x := rootI n + 1) (y := x) (by omega) (by omega)
    omega
  · have := sq_le (x := rootI n + 1) (y := -x) (by omega) (by omega)
    rw [Int.neg_mul_neg] at this
    omega
theorem rootI_le {n m : Int} (h0 : 0 ≤ n) (hm : 0 ≤ m) (h : n ≤ m * m) : rootI n ≤ m := by
  obtain ⟨b1, b2, b3⟩ := rootI_spec h0
  refine Int.not_lt.1 fun hlt => ?_
  have := sq_le (x := m + 1) (y := rootI n) (by omega) (by omega)
  have e : (m + 1) * (m + 1) = m * m + 2 * m + 1 := by
    rw [Int.add_mul, Int.mul_add]
    omega
  omega
def smallV (d : Vec) : Prop := (-20000000 ≤ d.X ∧ d.X ≤ 20000000) ∧ (-20000000 ≤ d.Y ∧ d.Y ≤ 20000000)
theorem small_clamp {d : Vec} (h : smallV d) : clampV 1000000000 d = d := by
  obtain ⟨⟨h1, h2⟩, h3, h4⟩ := h
  obtain ⟨x, y⟩ := d
  dsimp only at h1 h2 h3 h4
  unfold clampV clampTo
  congr 1 <;> dsimp only <;> omega
theorem small_square {d : Vec} (h : smallV d) : square d = d.X * d.X + d.Y * d.Y ∧ 0 ≤ d.X * d.X ∧ 0 ≤ d.Y * d.Y ∧ d.X * d.X ≤ 400000000000000 ∧ d.Y * d.Y ≤ 400000000000000 := by
  obtain ⟨⟨h1, h2⟩, h3, h4⟩ := h
  have q1 := sq_abs h1 h2
  have q2 := sq_abs h3 h4
  unfold square
  rw [show W (d.X * d.X) = _ from W_small (by omega) (by omega), show W (d.Y * d.Y) = _ from W_small (by omega) (by omega), show W (d.X * d.X + d.Y * d.Y) = _ from W_small (by omega) (by omega)]
  omega
theorem small_len {d : Vec} (h : smallV d) : vecLen d = rootI (square d) ∧ d.X ≤ vecLen d ∧ -d.X ≤ vecLen d ∧ d.Y ≤ vecLen d ∧ -d.Y ≤ vecLen d ∧ 0 ≤ vecLen d ∧ vecLen d ≤ 40000000 := by
  obtain ⟨s1, s2, s3, s4, s5⟩ := small_square h
  have r0 := rootI_spec (n := square d) (by omega)
  have rl := rootI_le (n := square d) (m := 40000000) (by omega) (by omega) (by omega)
  have gx := rootI_ge (x := d.X) (n := square d) (by omega)
  have gy := rootI_ge (x := d.Y) (n := square d) (by omega)
  have e : vecLen d = rootI (square d) := by
    unfold vecLen
    rw [small_clamp h]
    have := r0.1
    unfold clampTo
    omega
  rw [e]
  exact ⟨rfl, gx.1, gx.2, gy.1, gy.2, r0.1, rl⟩
theorem rounds_true {d : Vec} {both : Int} (h : smallV d) (b0 : 0 ≤ both) (b1 : both ≤ 51200) (k : (roundsF d both).2 = true) : roundsF d both = (⟨vecUnit d, both - vecLen d⟩, true) ∧ vecLen d ≤ both ∧ square d ≤ both * both := by
  have hb := mul_le_mul0 b0 b1 b0 b1
  have hw : W (both * both) = both * both := W_small (by omega) (by omega)
  unfold roundsF at k ⊢
  rw [hw] at k ⊢
  split at k
  · cases k
  · rename_i q
    rw [if_neg q]
    obtain ⟨s1, s2, s3, s4, s5⟩ := small_square h
    obtain ⟨e, l1, l2, l3, l4, l5, l6⟩ := small_len h
    have hl : vecLen d ≤ both := by
      rw [e]
      exact rootI_le (by omega) b0 (by omega)
    rw [show W (both - vecLen d) = both - vecLen d from W_small (by omega) (by omega)]
    exact ⟨rfl, hl, by omega⟩
def placeV (p : Vec) : Prop := -2560000 ≤ p.X ∧ p.X ≤ 2560000 ∧ -2560000 ≤ p.Y ∧ p.Y ≤ 2560000
theorem minus_place {p q : Vec} (hp : placeV p) (hq : placeV q) : minus q p = ⟨q.X - p.X, q.Y - p.Y⟩ ∧ smallV ⟨q.X - p.X, q.Y - p.Y⟩ := by
  obtain ⟨p1, p2, p3, p4⟩ := hp
  obtain ⟨q1, q2, q3, q4⟩ := hq
  unfold minus
  rw [show W (q.X - p.X) = _ from W_small (by omega) (by omega), show W (q.Y - p.Y) = _ from W_small (by omega) (by omega)]
  refine ⟨rfl, ?_⟩
  unfold smallV
  dsimp only
  omega
/-- A box about a place. -/
def boxAt (p : Vec) (w h : Int) : Box := ⟨⟨p.X - w, p.Y - h⟩, ⟨p.X + w, p.Y + h⟩⟩
/-- From the nearest point of a box on. -/
def outI (q lo hi : Int) : Int := q - max lo (min q hi)
theorem near_out {p q : Vec} {w h : Int} (hp : placeV p) (hq : placeV q) (w0 : 0 ≤ w) (w1 : w ≤ 25600) (h0 : 0 ≤ h) (h1 : h ≤ 25600) :
    minus q (nearV (boxAt p w h) q) = ⟨outI q.X (p.X - w) (p.X + w), outI q.Y (p.Y - h) (p.Y + h)⟩ ∧ smallV ⟨outI q.X (p.X - w) (p.X + w), outI q.Y (p.Y - h) (p.Y + h)⟩ := by
  obtain ⟨p1, p2, p3, p4⟩ := hp
  obtain ⟨q1, q2, q3, q4⟩ := hq
  unfold minus nearV boxAt outI
  dsimp only
  rw [show W (q.X - max (p.X - w) (min q.X (p.X + w))) = _ from W_small (by omega) (by omega), show W (q.Y - max (p.Y - h) (min q.Y (p.Y + h))) = _ from W_small (by omega) (by omega)]
  refine ⟨rfl, ?_⟩
  unfold smallV
  dsimp only
  omega
theorem has_out {p q : Vec} {w h : Int} (w0 : 0 ≤ w) (h0 : 0 ≤ h) : hasPoint (boxAt p w h) q = true ↔ outI q.X (p.X - w) (p.X + w) = 0 ∧ outI q.Y (p.Y - h) (p.Y + h) = 0 := by
  unfold hasPoint boxAt isIn outI
  simp only [Bool.and_eq_true, decide_eq_true_eq]
  omega
theorem has_meets {p q : Vec} {w h : Int} (k : hasPoint (boxAt p w h) q = true) : boxMeets (boxAt p w h) ⟨q, q⟩ = true := by
  simp only [hasPoint, isIn, boxAt, Bool.and_eq_true, decide_eq_true_eq] at k
  simp only [boxMeets, boxAt, Bool.and_eq_true, decide_eq_true_eq]
  obtain ⟨⟨k1, k2⟩, k3, k4⟩ := k
  exact ⟨⟨⟨k1, k2⟩, k3⟩, k4⟩
theorem boxAt_zero (q : Vec) : (⟨q, q⟩ : Box) = boxAt q 0 0 := by
  unfold boxAt
  simp only [Int.sub_zero, Int.add_zero]
theorem mixed_out {p q : Vec} {w h m : Int} (k : hasPoint (boxAt p w h) q = false) : mixedF (boxAt p w h) q m = roundsF (minus q (nearV (boxAt p w h) q)) m := by
  unfold mixedF
  rw [k]
  rfl
theorem placeV_of {p : Vec} (h : placeOk p = true) : placeV p := placeOk_le h
theorem bounds_at {s : Shape} {p : Vec} (h : shapeOk s = true) (hp : placeV p) : bounds s p = boxAt p s.Wide (highOf s) ∧ 1 ≤ highOf s ∧ highOf s ≤ 25600 :=
  bounds_eq h (by obtain ⟨h1, h2, h3, h4⟩ := hp; simp only [placeOk, isIn, Bool.and_eq_true, decide_eq_true_eq]; omega)
theorem placeOk_V {p : Vec} (h : placeV p) : placeOk p = true := by
  obtain ⟨h1, h2, h3, h4⟩ := h
  simp only [placeOk, isIn, Bool.and_eq_true, decide_eq_true_eq]
  omega
theorem touch_all {a b : Body} (ha : bodyOk a = true) (hb : bodyOk b = true) : touchB a b = touchF a.Shape a.At b.Shape b.At := by
  have h1 := bok_iff.1 ha
  have h2 := bok_iff.1 hb
  simp [touchB, touchAll, h1.2.1, h2.2.1, placeOk_V h1.2.2.1, placeOk_V h2.2.2.1]
end Go.Proofs.YtdhbkcaaijgocaaGreat.Sym

namespace Go.Proofs.YtdhbkcaaijgocaaGreat.Sym
open Go
set_option linter.unusedVariables false
set_option linter.unusedSimpArgs false
set_option maxRecDepth 100000

theorem abs_of_sq {x m : Int} (hm : 0 ≤ m) (h : x * x ≤ m * m) : -m ≤ x ∧ x ≤ m := by
  refine ⟨Int.not_lt.1 fun hlt => ?_, Int.not_lt.1 fun hlt => ?_⟩
  · have := sq_le (x := m + 1) (y := -x) (by omega) (by omega)
    rw [Int.neg_mul_neg] at this
    have e : (m + 1) * (m + 1) = m * m + 2 * m + 1 := by
      rw [Int.add_mul, Int.mul_add]
      omega
    omega
  · have := sq_le (x := m + 1) (y := x) (by omega) (by omega)
    have e : (m + 1) * (m + 1) = m * m + 2 * m + 1 := by
      rw [Int.add_mul, Int.mul_add]
      omega
    omega
theorem rounds_near {d : Vec} {both : Int} (h : smallV d) (b0 : 0 ≤ both) (b1 : both ≤ 51200) (k : (roundsF d both).2 = true) : (-both ≤ d.X ∧ d.X ≤ both) ∧ -both ≤ d.Y ∧ d.Y ≤ both := by
  obtain ⟨_, _, h3⟩ := rounds_true h b0 b1 k
  obtain ⟨s1, s2, s3, s4, s5⟩ := small_square h
  exact ⟨abs_of_sq b0 (by omega), abs_of_sq b0 (by omega)⟩
theorem meets_at {p q : Vec} {w h v u : Int} (h1 : p.X - w ≤ q.X + v) (h2 : q.X - v ≤ p.X + w) (h3 : p.Y - h ≤ q.Y + u) (h4 : q.Y - u ≤ p.Y + h) : boxMeets (boxAt p w h) (boxAt q v u) = true := by
  have e1 := decide_eq_true h1
  have e2 := decide_eq_true h2
  have e3 := decide_eq_true h3
  have e4 := decide_eq_true h4
  unfold boxMeets boxAt
  dsimp only
  rw [e1, e2, e3, e4]
  rfl
theorem mixed_meets {p q : Vec} {w h m : Int} (hp : placeV p) (hq : placeV q) (w0 : 0 ≤ w) (w1 : w ≤ 25600) (h0 : 0 ≤ h) (h1 : h ≤ 25600) (m0 : 0 ≤ m) (m1 : m ≤ 25600) (k : (mixedF (boxAt p w h) q m).2 = true) :
    (p.X - w ≤ q.X + m ∧ q.X - m ≤ p.X + w) ∧ p.Y - h ≤ q.Y + m ∧ q.Y - m ≤ p.Y + h := by
  cases c : hasPoint (boxAt p w h) q with
  | true =>
    obtain ⟨z1, z2⟩ := (has_out w0 h0).1 c
    unfold outI at z1 z2
    omega
  | false =>
    obtain ⟨n1, s1⟩ := near_out hp hq w0 w1 h0 h1
    rw [mixed_out c, n1] at k
    have := rounds_near s1 m0 (by omega) k
    dsimp only [outI] at this
    omega
theorem high_round {s : Shape} (h : s.Kind = 1) : highOf s = s.Wide := by simp [highOf, h]
/-- What touches meets with its bounds. -/
theorem touch_meets {a b : Shape} {p q : Vec} (ha : shapeOk a = true) (hb : shapeOk b = true) (hp : placeV p) (hq : placeV q) (k : (touchF a p b q).2 = true) : boxMeets (bounds a p) (bounds b q) = true := by
  obtain ⟨a1, a2, a3, a4⟩ := shapeOk_le ha
  obtain ⟨b1, b2, b3, b4⟩ := shapeOk_le hb
  obtain ⟨e1, f1, f2⟩ := bounds_at ha hp
  obtain ⟨e2, g1, g2⟩ := bounds_at hb hq
  unfold touchF at k
  rw [e1, e2] at k ⊢
  cases c1 : a.Kind == 1 && b.Kind == 1 with
  | true =>
    rw [c1] at k
    simp only [cond_true] at k
    rw [show W (a.Wide + b.Wide) = a.Wide + b.Wide from W_small (by omega) (by omega)] at k
    obtain ⟨m1, m2⟩ := minus_place hp hq
    rw [m1] at k
    have := rounds_near m2 (by omega) (by omega) k
    rw [Bool.and_eq_true] at c1
    rw [high_round (eq_of_beq c1.1), high_round (eq_of_beq c1.2)]
    dsimp only at this
    exact meets_at (by omega) (by omega) (by omega) (by omega)
  | false =>
    rw [c1] at k
    simp only [cond_false] at k
    cases c2 : a.Kind == 2 && b.Kind == 2 with
    | true =>
      rw [c2] at k
      simp only [cond_true] at k
      unfold boxesF at k
      cases z : boxMeets (boxAt p a.Wide (highOf a)) (boxAt q b.Wide (highOf b)) with
      | true => rfl
      | false => rw [z] at k; cases k
    | false =>
      rw [c2] at k
      simp only [cond_false] at k
      cases c3 : a.Kind == 2 with
      | true =>
        rw [c3] at k c2
        simp only [cond_true] at k
        have hk : b.Kind = 1 := by
          rcases b3 with z | z
          · exact z
          · rw [z] at c2
            simp at c2
        rw [high_round hk]
        have := mixed_meets hp hq (by omega) (by omega) (by omega) (by omega) (by omega) (by omega) k
        exact meets_at (by omega) (by omega) (by omega) (by omega)
      | false =>
        rw [c3] at k
        simp only [cond_false] at k
        have hk : a.Kind = 1 := by
          rcases a3 with z | z
          · exact z
          · rw [z] at c3
            simp at c3
        cases c4 : (mixedF (boxAt q b.Wide (highOf b)) p a.Wide).2 with
        | false => rw [c4] at k; cases k
        | true =>
          rw [high_round hk]
          have := mixed_meets hq hp (by omega) (by omega) (by omega) (by omega) (by omega) (by omega) c4
          exact meets_at (by omega) (by omega) (by omega) (by omega)
def itemOf (b : Body) : Item := ⟨b.Id, bounds b.Shape b.At⟩
theorem itemOf_ok {b : Body} (h : bodyOk b = true) : itemOk (itemOf b) = true := by
  obtain ⟨h1, h2, h3, _⟩ := bok_iff.1 h
  obtain ⟨s1, s2, s3, s4⟩ := shapeOk_le h2
  obtain ⟨e, f1, f2⟩ := bounds_at h2 h3
  unfold itemOk itemOf
  dsimp only
  rw [e]
  unfold boxAt boxOk vecOk isIn
  simp only [Bool.and_eq_true, decide_eq_true_eq]
  omega
theorem put_append {ys : List Item} {x : Item} (h : itemsOk ys = true) (hx : itemOk x = true) (hi : ∀ e, e < ys.length → (Ty.ix .item ys e).Id < x.Id) (hl : ys.length < 24) : putF ys x = (ys ++ [x], true) := by
  have ha : atI ys x.Id = ys.length := pref_eq (T := .item) (p := fun y : Item => decide (y.Id < x.Id)) (Nat.le_refl _) (fun e he => decide_eq_true (hi e he)) (fun q => absurd q (Nat.lt_irrefl _))
  have hh : hasI ys x.Id = false := by
    unfold hasI
    rw [ha, decide_eq_false (Nat.lt_irrefl _), Bool.false_and]
  unfold putF
  rw [h, hx, hh, decide_eq_false (show ¬ ys.length ≥ 24 by omega)]
  simp only [cond_true, cond_false]
  rw [ha]
  unfold insI
  rw [List.take_length, List.drop_length]
theorem ix_items {xs : List Body} {i e : Nat} (h : e < i) (hi : i ≤ xs.length) : Ty.ix .item ((xs.take i).map itemOf) e = itemOf (Ty.ix .body xs e) := by
  apply ix_eq
  rw [List.getElem?_map, List.getElem?_take_of_lt h, ix_get (T := .body) (show e < xs.length by omega)]
  rfl
theorem items_take {xs : List Body} (h : bodiesOk xs = true) {i : Nat} (hi : i ≤ xs.length) : itemsOk ((xs.take i).map itemOf) = true := by
  have hl := bodiesOk_len h
  have len : ((xs.take i).map itemOf).length = i := by simp; omega
  refine itemsOk_iff.2 ⟨by omega, fun k hk => ?_, fun k hk => ?_⟩
  · rw [ix_items (by omega) hi]
    exact itemOf_ok (bodiesOk_each h (by omega))
  · rw [ix_items (by omega) hi, ix_items (by omega) hi]
    exact (bodiesOk_iff.1 h).2.2 k (by omega)
theorem bodies_lt2 {xs : List Body} (h : bodiesOk xs = true) : ∀ {b a : Nat}, a < b → b < xs.length → (Ty.ix .body xs a).Id < (Ty.ix .body xs b).Id
  | b + 1, a, hab, hb => by
    have h3 := (bodiesOk_iff.1 h).2.2 b hb
    by_cases e : a = b
    · subst e
      exact h3
    · exact Int.lt_trans (bodies_lt2 h (b := b) (a := a) (by omega) (by omega)) h3
theorem put_next {xs : List Body} (h : bodiesOk xs = true) {i : Nat} (hi : i < xs.length) : putF ((xs.take i).map itemOf) (itemOf (Ty.ix .body xs i)) = ((xs.take (i + 1)).map itemOf, true) := by
  have hl := bodiesOk_len h
  have len : ((xs.take i).map itemOf).length = i := by simp; omega
  rw [put_append (items_take h (by omega)) (itemOf_ok (bodiesOk_each h hi)) (fun e he => ?_) (by omega)]
  · have e2 : xs.take (i + 1) = xs.take i ++ [Ty.ix .body xs i] := by
      rw [List.take_add_one, ix_get (T := .body) hi]
      rfl
    rw [e2, List.map_append]
    rfl
  · rw [ix_items (by omega) (by omega)]
    exact bodies_lt2 h (by omega) hi
theorem mem_pairsF : ∀ {ys : List Item} {i k : Nat}, i < k → k < ys.length → boxMeets (Ty.ix .item ys i).Box (Ty.ix .item ys k).Box = true → (⟨(Ty.ix .item ys i).Id, (Ty.ix .item ys k).Id⟩ : Pair) ∈ pairsF ys
  | x :: r, 0, k + 1, _, hk, hm => by
    have hk2 : k < r.length := by simpa using hk
    refine List.mem_append.2 (.inl ?_)
    refine List.mem_map.2 ⟨Ty.ix .item r k, List.mem_filter.2 ⟨List.mem_of_getElem? (ix_get (T := .item) hk2), hm⟩, rfl⟩
  | x :: r, i + 1, k + 1, hik, hk, hm => List.mem_append.2 (.inr (mem_pairsF (ys := r) (by omega) (by simpa using hk) hm))
/-- Each pair that touches is one of the pairs whose bounds meet. -/
theorem step_near {xs : List Body} (h : bodiesOk xs = true) {p : Pair} (hp : p ∈ stepPairs xs) : p ∈ broadPairs (xs.map itemOf) := by
  have hk : itemsOk (xs.map itemOf) = true := by
    have := items_take h (Nat.le_refl xs.length)
    rwa [List.take_length] at this
  unfold stepPairs pairsC contactsOf at hp
  rw [h] at hp
  obtain ⟨c, hc, rfl⟩ := List.mem_map.1 hp
  obtain ⟨i, k, q1, q2, q3, q4, q5⟩ := mem_contactsF hc
  have o1 := bodiesOk_each h (k := i) (by omega)
  have o2 := bodiesOk_each h q2
  rw [touch_all o1 o2] at q4
  have hm := touch_meets (bok_iff.1 o1).2.1 (bok_iff.1 o2).2.1 (bok_iff.1 o1).2.2.1 (bok_iff.1 o2).2.2.1 q4
  have f : ∀ e, e < xs.length → Ty.ix .item (xs.map itemOf) e = itemOf (Ty.ix .body xs e) := fun e he => by
    have := ix_items (xs := xs) (i := xs.length) he (Nat.le_refl _)
    rwa [List.take_length] at this
  unfold broadPairs
  rw [hk]
  have e1 : c.A.toNat = i := by rw [q3]; rfl
  have e2 : c.B.toNat = k := by rw [q3]; rfl
  have := mem_pairsF (ys := xs.map itemOf) (i := i) (k := k) q1 (by simpa using q2) (by rw [f i (by omega), f k q2]; exact hm)
  rw [f i (by omega), f k q2] at this
  unfold pairC
  rw [e1, e2]
  exact this
theorem length_stepPairs_c (xs : List Body) : (stepPairs xs).length = (contactsOf xs).length := length_pairsC _ _
end Go.Proofs.YtdhbkcaaijgocaaGreat.Sym

namespace Go.Proofs.YtdhbkcaaijgocaaGreat.Sym
open Go
set_option linter.unusedVariables false
set_option linter.unusedSimpArgs false

section
variable {P : Program} {wr : Nat → Prop} {env : Env} {H : Hp} {w w' : Go.World}

theorem run_copy_row_k (w : Go.World) (dT sT ty elem : TypeId) (g o dLen dCap : Nat) (a : Addr) (sLen sCap k : Nat) (cur : Array Value) (t : TypeId) (cs : List Value)
    (hu : P.underlying dT = some (.slice elem)) (hs : (P.info? elem).map (·.size) = some k)
    (hg : w.heap[g]? = some (.cells cur t (0, 0))) (hn : cs.length = Nat.min sLen dLen * k)
    (hsrc : ∀ j v, cs[j]? = some v → w.cell? (a.add j) = some v) (hfit : o + cs.length ≤ cur.size) (h1 : ∀ v ∈ cs, v.oneCell' = true) :
    (Builtin.copy_ #[dT, sT] ty #[.slice (some ⟨g, o, none⟩) dLen dCap, .slice (some a) sLen sCap]).run P w =
      .ok (goInt (Nat.min sLen dLen)) (w.setRow g (cur.toList.take o ++ cs ++ cur.toList.drop (o + cs.length)).toArray) := by
  have hl := run_loadCells_list (P := P) w a cs hsrc
  have hst := run_storeCells_at P g o t cs 0 cur w hg (by simpa using hfit) h1
  cases hq : P.info? elem with
  | none => simp [hq] at hs
  | some i =>
    have hi : i.size = k := by simpa [hq] using hs
    simp [Builtin.copy_, run_underlying hu, Builtin.lenOf, Builtin.firstCells, sizeOf, typeInfo, hq, hi, ← hn, hl, hst]

theorem flat_get_take {U : Ty} {xs : List U.El} {i q : Nat} (h : q < i * U.sz) : (flat U (xs.take i))[q]? = (flat U xs)[q]? := by
  rw [flat_take, List.getElem?_take, if_pos h]

/-- One row written twice: first what comes behind, then what is put in. -/
theorem lies_insert {U : Ty} {xs ys : List U.El} {vs : Array Value} {off i : Nat} (hl : Lies U xs vs off) (hi : i ≤ xs.length) (hfit : off + (xs.length + ys.length) * U.sz ≤ vs.size) :
    Lies U (xs.take i ++ ys ++ xs.drop i) ((((vs.toList.take (off + (i + ys.length) * U.sz) ++ flat U (xs.drop i) ++ vs.toList.drop (off + (i + ys.length) * U.sz + (flat U (xs.drop i)).length)).toArray).toList.take (off + i * U.sz) ++ flat U ys ++
      ((vs.toList.take (off + (i + ys.length) * U.sz) ++ flat U (xs.drop i) ++ vs.toList.drop (off + (i + ys.length) * U.sz + (flat U (xs.drop i)).length)).toArray).toList.drop (off + i * U.sz + (flat U ys).length)).toArray) off := by
  have hly : (flat U ys).length = ys.length * U.sz := flat_length U ys
  have hld : (flat U (xs.drop i)).length = (xs.length - i) * U.sz := by rw [flat_length, List.length_drop]
  have hlt : (flat U (xs.take i)).length = i * U.sz := by rw [flat_length, List.length_take, Nat.min_eq_left hi]
  have e1 : (i + ys.length) * U.sz = i * U.sz + ys.length * U.sz := Nat.add_mul _ _ _
  have e2 : (xs.length + ys.length) * U.sz = i * U.sz + (xs.length - i) * U.sz + ys.length * U.sz := by
    rw [← Nat.add_mul, ← Nat.add_mul]
    congr 1
    omega
  rw [lies_flat]
  intro q v hq
  rw [flat_append, flat_append] at hq
  rw [hly, hld]
  have hvl : vs.toList.length = vs.size := by simp
  have hr1 : (vs.toList.take (off + (i + ys.length) * U.sz) ++ flat U (xs.drop i) ++ vs.toList.drop (off + (i + ys.length) * U.sz + (xs.length - i) * U.sz)).length = vs.size := by
    simp only [List.length_append, List.length_take, List.length_drop, hvl, hld]
    omega
  have hq1 := (List.getElem?_eq_some_iff.1 hq).1
  simp only [List.length_append, hly, hld, hlt] at hq1
  have g2 := get_splice (l := vs.toList.take (off + (i + ys.length) * U.sz) ++ flat U (xs.drop i) ++ vs.toList.drop (off + (i + ys.length) * U.sz + (xs.length - i) * U.sz)) (us := flat U ys) (p := off + i * U.sz) (by rw [hr1, hly]; omega) (off + q)
  rw [hly] at g2
  rw [List.getElem?_toArray, g2]
  have g1 := get_splice (l := vs.toList) (us := flat U (xs.drop i)) (p := off + (i + ys.length) * U.sz) (by rw [hvl, hld]; omega) (off + q)
  rw [hld] at g1
  by_cases c1 : q < i * U.sz
  · rw [if_pos (by omega), g1, if_pos (by omega), Array.getElem?_toList]
    rw [List.append_assoc, List.getElem?_append_left (by omega), flat_get_take c1] at hq
    exact lies_flat.1 hl q v hq
  · rw [if_neg (by omega)]
    by_cases c2 : q < i * U.sz + ys.length * U.sz
    · rw [if_pos (by omega)]
      rw [List.append_assoc, List.getElem?_append_right (by omega), List.getElem?_append_left (by omega)] at hq
      rw [← hq]
      congr 1
      omega
    · rw [if_neg (by omega), g1, if_neg (by omega), if_pos (by omega)]
      rw [List.append_assoc, List.getElem?_append_right (by omega), List.getElem?_append_right (by omega)] at hq
      rw [← hq]
      congr 1
      omega

/-- A new row: what came ahead, then zeros; then what is put in, then what comes behind. -/
theorem lies_grow {U : Ty} {xs ys : List U.El} {row : Array Value} {rest : List Value} {i : Nat} (hr : row.toList = flat U (xs.take i) ++ rest) (hi : i ≤ xs.length) (hfit : (xs.length + ys.length) * U.sz ≤ row.size) :
    Lies U (xs.take i ++ ys ++ xs.drop i) ((((row.toList.take (i * U.sz) ++ flat U ys ++ row.toList.drop (i * U.sz + (flat U ys).length)).toArray).toList.take ((i + ys.length) * U.sz) ++ flat U (xs.drop i) ++
      ((row.toList.take (i * U.sz) ++ flat U ys ++ row.toList.drop (i * U.sz + (flat U ys).length)).toArray).toList.drop ((i + ys.length) * U.sz + (flat U (xs.drop i)).length)).toArray) 0 := by
  have hly : (flat U ys).length = ys.length * U.sz := flat_length U ys
  have hld : (flat U (xs.drop i)).length = (xs.length - i) * U.sz := by rw [flat_length, List.length_drop]
  have hlt : (flat U (xs.take i)).length = i * U.sz := by rw [flat_length, List.length_take, Nat.min_eq_left hi]
  have e1 : (i + ys.length) * U.sz = i * U.sz + ys.length * U.sz := Nat.add_mul _ _ _
  have e2 : (xs.length + ys.length) * U.sz = i * U.sz + (xs.length - i) * U.sz + ys.length * U.sz := by
    rw [← Nat.add_mul, ← Nat.add_mul]
    congr 1
    omega
  rw [lies_flat]
  intro q v hq
  rw [flat_append, flat_append] at hq
  rw [Nat.zero_add]
  rw [hly, hld]
  have hvl : row.toList.length = row.size := by simp
  have hr1 : (row.toList.take (i * U.sz) ++ flat U ys ++ row.toList.drop (i * U.sz + ys.length * U.sz)).length = row.size := by
    simp only [List.length_append, List.length_take, List.length_drop, hvl, hly]
    omega
  have hq1 := (List.getElem?_eq_some_iff.1 hq).1
  simp only [List.length_append, hly, hld, hlt] at hq1
  have g2 := get_splice (l := row.toList.take (i * U.sz) ++ flat U ys ++ row.toList.drop (i * U.sz + ys.length * U.sz)) (us := flat U (xs.drop i)) (p := (i + ys.length) * U.sz) (by rw [hr1, hld]; omega) q
  rw [hld] at g2
  rw [List.getElem?_toArray, g2]
  have g1 := get_splice (l := row.toList) (us := flat U ys) (p := i * U.sz) (by rw [hvl, hly]; omega) q
  rw [hly] at g1
  by_cases c1 : q < i * U.sz
  · rw [if_pos (by omega), g1, if_pos (by omega), hr, List.getElem?_append_left (by omega)]
    rw [List.append_assoc, List.getElem?_append_left (by omega)] at hq
    exact hq
  · by_cases c2 : q < i * U.sz + ys.length * U.sz
    · rw [if_pos (by omega), g1, if_neg (by omega), if_pos (by omega)]
      rw [List.append_assoc, List.getElem?_append_right (by omega), List.getElem?_append_left (by omega)] at hq
      rw [← hq]
      congr 1
      omega
    · rw [if_neg (by omega), if_pos (by omega)]
      rw [List.append_assoc, List.getElem?_append_right (by omega), List.getElem?_append_right (by omega)] at hq
      rw [← hq]
      congr 1
      omega

theorem over_inplace (hh : HRel wr env H w) {j n : Nat} {U : Ty} {xs zs : List U.El} (hj : H j = some (true, .vec U xs)) (hn : H n = none) (hnew : ∀ k, w.heap.size ≤ k → wr k)
    {b off E : Nat} {row : Array Value} (hb : (env j).1 = some ⟨b, off, none⟩) (hc : (env j).2 ≠ 0) (hw : ∀ y, y ≠ b → w'.heap[y]? = w.heap[y]?) (hrow : w'.heap[b]? = some (.cells row E (0, 0)))
    (hsize : off + (env j).2 * U.sz ≤ row.size) (hl : zs.length ≤ (env j).2) (hlies : Lies U zs row off) (h1 : w'.os = w.os) (h2 : w'.tape = w.tape) (h3 : w'.output = w.output) (h4 : w'.heap.size = w.heap.size) :
    Ext env H (envSet env n (env j)) (updH H [(j, true, .dead), (n, true, .vec U zs)]) ∧ HRel wr (envSet env n (env j)) (updH H [(j, true, .dead), (n, true, .vec U zs)]) w' ∧ Fr wr w w' := by
  have hown : own env j (.vec U xs) = some b := by simp [own, hb, hc]
  have := hh.over (w' := w') (zs := zs) hj hn (x := env j) (fun y _ hy => hw y (fun e => hy (e ▸ hown))) hnew
    (fun H' => ⟨by simpa [envSet] using hl, .inr ⟨b, off, E, row, (0, 0), by simp [envSet, hb], hrow, by simpa [envSet] using hsize, hlies, fun _ => rfl⟩⟩)
    (fun y hy => .inl (by
      have h1 : own (envSet env n (env j)) n (.vec U zs) = own env j (.vec U xs) := by simp [own, envSet]
      rw [← h1]; exact hy))
  refine ⟨this.1, this.2, h1, h2, h3, by omega, fun k hk hnw => hw k fun e => hnw ?_⟩
  subst e
  exact hh.wrt j _ hj _ hown

theorem over_new (hh : HRel wr env H w) {j n : Nat} {U : Ty} {xs zs : List U.El} (hj : H j = some (true, .vec U xs)) (hn : H n = none) (hnew : ∀ k, w.heap.size ≤ k → wr k)
    {gc E : Nat} {row : Array Value} (hw : ∀ y, y < w.heap.size → w'.heap[y]? = w.heap[y]?) (hrow : w'.heap[w.heap.size]? = some (.cells row E (0, 0)))
    (hsize : gc * U.sz ≤ row.size) (hl : zs.length ≤ gc) (hlies : Lies U zs row 0) (h1 : w'.os = w.os) (h2 : w'.tape = w.tape) (h3 : w'.output = w.output) (h4 : w.heap.size ≤ w'.heap.size) :
    Ext env H (envSet env n (some ⟨w.heap.size, 0, none⟩, gc)) (updH H [(j, true, .dead), (n, true, .vec U zs)]) ∧ HRel wr (envSet env n (some ⟨w.heap.size, 0, none⟩, gc)) (updH H [(j, true, .dead), (n, true, .vec U zs)]) w' ∧ Fr wr w w' := by
  have := hh.over (w' := w') (zs := zs) hj hn (x := (some ⟨w.heap.size, 0, none⟩, gc)) (fun y hy _ => hw y hy) hnew
    (fun H' => ⟨by simpa [envSet] using hl, .inr ⟨w.heap.size, 0, E, row, (0, 0), by simp [envSet], hrow, by simpa [envSet] using hsize, hlies, fun _ => rfl⟩⟩)
    (fun y hy => .inr (by
      simp only [own, envSet, if_true] at hy
      split at hy
      · cases hy
      · simp at hy; omega))
  exact ⟨this.1, this.2, h1, h2, h3, h4, fun k hk _ => hw k hk⟩
end

end Go.Proofs.YtdhbkcaaijgocaaGreat.Sym

