/-
  Elements put into a list: what slices.Insert does.
  No condition.
-/
import Derived.Test.YthkdelepjndacaaSymZ
import Derived.Test.YthkdelepjndacaaSymX
import Derived.Test.YthkdelepjndacaaF1
import Derived.WalkKit
import Derived.Shelf.RegionOpenPlain
import Derived.Lib.Walk
import Derived.Lib.SliceRun
import Derived.Lib.JoinLaws
import Derived.Lib.AppendZeros
import Derived.Lib.Overlaps
import Derived.Laws.Externs
import Derived.Laws.IdiomCopy
import Derived.Lib.AppendZerosOnto
namespace Go.Proofs.Ythkdelepjndacaa.Sym
open Go Go.Proofs
set_option linter.unusedVariables false
set_option linter.unusedSimpArgs false
/-- 'copy' where its run is known. -/
theorem wpL_copy {P : Program} (w : World) {ops : Array Oper} {rest : List Oper} {o : Oper} {a : Act} {Q : Exit → Act → World → Prop} (hgd : o.guard = none) (d s : Operand) (t t' : TypeId)
    (ho : o.op = .call { callee := .builtin .copy, args := #[d, s], argTypes := #[t, t'] }) (v u : Value) (hd : a.eval d = v) (hs : a.eval s = u) {v' : Value} {w' : World}
    (hr : (Builtin.copy_ #[t, t'] o.type #[v, u]).run P w = .ok v' w') (h : wpList P ops Q rest (a.put o.dst v') w') : wpList P ops Q (o :: rest) a w :=
  wpList_plain hgd fun _ hK => by
    unfold Oper.wp execOp
    simp only [ho, resolve, invoke, builtin, Sem.run_bind, Sem.run_pure, Result.andThen_ok, List.map_toArray, List.map_cons, List.map_nil, hd, hs, hr]
    exact hK _ _ h
theorem stepD_copy {P : Program} {ops : Array Oper} {o : Oper} {a : Act} {w : World} {K : Act → World → Prop} {Q : Exit → Act → World → Prop} {E : Prop}
    (hg : o.guard = none) (d x : Operand) (dT sT : TypeId) (hop : o.op = Op.call { callee := Callee.builtin Builtin.copy, args := #[d, x], argTypes := #[dT, sT] })
    (v u : Value) (hd : a.eval d = v) (hx : a.eval x = u) {v' : Value} {w' : World} (hr : (Builtin.copy_ #[dT, sT] o.type #[v, u]).run P w = .ok v' w') (hK : K (a.put o.dst v') w') :
    if Region.wanted o (yielded ops a.tmps) = true then Oper.wp P o a w K Q else E := by
  have hw : Region.wanted o (yielded ops a.tmps) = true := by simp [Region.wanted, hg]
  rw [if_pos hw]
  unfold Oper.wp
  simp [execOp, hop, resolve, invoke, builtin, hd, hx, hr, Result.andThen]
  exact hK
theorem drew_heap (w : World) : w.drew.heap = w.heap := rfl
theorem size_setRow (w : World) (b : Nat) (cs : Array Value) : (w.setRow b cs).heap.size = w.heap.size := by simp [World.setRow]
theorem cell_row {w : World} {b o : Nat} {vs : Array Value} {E : TypeId} {fz : Nat × Nat} (h : w.heap[b]? = some (.cells vs E fz)) : w.cell? ⟨b, o, none⟩ = vs[o]? := cell_of h


/-! ### []Body -/
def insL_Bodies (xs : List Body) (i : Nat) (ys : List Body) : List Body := xs.take i ++ ys ++ xs.drop i
def fs_insBodies : Fs := ⟨[true, false, true], fun args H => match args, H with
  | [.vec 0, .int .i64 i, .vec 1], [(true, .vec .body xs), (true, .vec .body ys)] => some (some (0 ≤ i ∧ i ≤ xs.length ∧ ys.length = 1 ∧ xs.length ≤ 1048576), .vec 2, [(true, .dead), (true, .vec .body ys), (true, .vec .body (insL_Bodies xs i.toNat ys))])
  | _, _ => none⟩
set_option maxHeartbeats 4000000 in
set_option maxRecDepth 100000 in
theorem insBodies_room (b off n c i vb voff vc : Nat) (row1 row2 : Array Value) (v1 v2 : Value) (w : World) (hi : i < n) (hroom : n + 1 ≤ c) (hn63 : n ≤ 1048576)
    (hov : ∀ lb cb, (callFunc 135 #[.slice (some ⟨vb, voff, none⟩) 1 vc, .slice (some ⟨b, off + (i + 1) * 12, none⟩) lb cb]).run Try.prog w = .ok (.value (.bool false)) w)
    (hcp1 : ∀ ty dc sc, (Builtin.copy_ #[26, 26] ty #[.slice (some ⟨b, off + (i + 1) * 12, none⟩) (n - i) dc, .slice (some ⟨b, off + i * 12, none⟩) (n + 1 - i) sc]).run Try.prog w.drew = .ok v1 (w.drew.setRow b row1))
    (hcp2 : ∀ ty dc sc, (Builtin.copy_ #[26, 26] ty #[.slice (some ⟨b, off + i * 12, none⟩) (n + 1 - i) dc, .slice (some ⟨vb, voff, none⟩) 1 sc]).run Try.prog (w.drew.setRow b row1) = .ok v2 ((w.drew.setRow b row1).setRow b row2)) :
    Calls Try.prog 82 #[.slice (some ⟨b, off, none⟩) n c, .int .i64 i, .slice (some ⟨vb, voff, none⟩) 1 vc] w fun e w' =>
      e = .returned (.slice (some ⟨b, off, none⟩) (n + 1) c) ∧ w' = (w.drew.setRow b row1).setRow b row2 := by
  have mixed : Try.prog.follows .mixedOrders = true := by kernel_rfl
  have t3 : Try.prog.underlying 3 = some (.int .i64) := by kernel_rfl
  have t4 : Try.prog.underlying 4 = some .bool := by kernel_rfl
  have tL : Try.prog.underlying 26 = some (.slice 72) := by kernel_rfl
  have iE : (Try.prog.info? 72).map (·.size) = some 12 := by kernel_rfl
  have u3 := run_underlying t3; have u4 := run_underlying t4; have uL := run_underlying tL
  have zE : ∀ w, (Go.sizeOf 72).run Try.prog w = .ok 12 w := fun w => by
    cases hq : Try.prog.info? 72 with
    | none => simp [hq] at iE
    | some x => simp [hq] at iE; simp [sizeOf, typeInfo, hq, iE]
  have a3 : ∀ w, (isAgg 3).run Try.prog w = .ok false w := fun w => run_isAgg t3
  have a4 : ∀ w, (isAgg 4).run Try.prog w = .ok false w := fun w => run_isAgg t4
  have aL : ∀ w, (isAgg 26).run Try.prog w = .ok false w := fun w => run_isAgg tL
  have hw1 : IntKind.i64.wrap ((i : Int) + 1) = (i : Int) + 1 := by rw [IntKind.wrap_i64]; omega
  have hw2 : IntKind.i64.wrap ((n : Int) + 1) = (n : Int) + 1 := by rw [IntKind.wrap_i64]; omega
  have hz2 : ¬ ((i : Int) = (n : Int)) := by omega
  have hb1 : (0 : Int) ≤ (i : Int) + 1 := by omega
  have hin : i ≤ n := by omega
  have htn : ((i : Int) + 1).toNat = i + 1 := by omega
  have htn2 : ((n : Int) + 1).toNat = n + 1 := by omega
  have hb2 : ¬ (c = i + 1) := by omega
  have hb3 : (i : Int) ≤ (n : Int) + 1 := by omega
  have hb4 : ¬ (c = i) := by omega
  have hr1 : ¬ ((n : Int) + 1 > (c : Int)) := by omega
  go_enter Try.func82, Try.ntmps82
  go_wp2_with (simp only [hov])
  go_region_law_o (refine stepD_copy rfl _ _ 26 26 rfl _ _ (by simp [Act.eval, Act.put]) (by simp [Act.eval, Act.put]) (hcp1 _ _ _) ?_)
  go_wp2_with (refine wpL_copy _ rfl _ _ 26 26 rfl _ _ rfl rfl (hcp2 _ _ _) ?_)
  go_ret
  exact ⟨rfl, rfl⟩
set_option maxHeartbeats 4000000 in
set_option maxRecDepth 100000 in
theorem insBodies_end (base : Option Addr) (n c vb voff vc : Nat) (v' : Value) (w w' : World) (hnc : n ≤ c) (hn63 : n ≤ 1048576)
    (hrun : ∀ ty, (Builtin.append_ #[26, 26] ty #[.slice base n c, .slice (some ⟨vb, voff, none⟩) 1 vc]).run Try.prog w = .ok v' w') :
    Calls Try.prog 82 #[.slice base n c, .int .i64 n, .slice (some ⟨vb, voff, none⟩) 1 vc] w fun e W => e = .returned v' ∧ W = w' := by
  have mixed : Try.prog.follows .mixedOrders = true := by kernel_rfl
  have t3 : Try.prog.underlying 3 = some (.int .i64) := by kernel_rfl
  have t4 : Try.prog.underlying 4 = some .bool := by kernel_rfl
  have tL : Try.prog.underlying 26 = some (.slice 72) := by kernel_rfl
  have iE : (Try.prog.info? 72).map (·.size) = some 12 := by kernel_rfl
  have u3 := run_underlying t3; have u4 := run_underlying t4; have uL := run_underlying tL
  have zE : ∀ w, (Go.sizeOf 72).run Try.prog w = .ok 12 w := fun w => by
    cases hq : Try.prog.info? 72 with
    | none => simp [hq] at iE
    | some x => simp [hq] at iE; simp [sizeOf, typeInfo, hq, iE]
  have a3 : ∀ w, (isAgg 3).run Try.prog w = .ok false w := fun w => run_isAgg t3
  have a4 : ∀ w, (isAgg 4).run Try.prog w = .ok false w := fun w => run_isAgg t4
  have aL : ∀ w, (isAgg 26).run Try.prog w = .ok false w := fun w => run_isAgg tL
  go_enter Try.func82, Try.ntmps82
  cases base with
  | none =>
    go_wp2_with (at_builtin; refine Lib.wpList_append_run _ rfl _ _ _ _ rfl _ _ rfl rfl _ _ (hrun _) ?_)
    all_goals (go_ret; exact ⟨rfl, rfl⟩)
  | some a =>
    obtain ⟨ab, ao, asp⟩ := a
    go_wp2_with (at_builtin; refine Lib.wpList_append_run _ rfl _ _ _ _ rfl _ _ rfl rfl _ _ (hrun _) ?_)
    all_goals (go_ret; exact ⟨rfl, rfl⟩)
set_option maxHeartbeats 4000000 in
set_option maxRecDepth 100000 in
theorem insBodies_grow (b off n c i vb voff vc g G : Nat) (v1 v2 : Value) (w A A1 A2 : World) (hi : i < n) (hnc : n ≤ c) (hroom : c < n + 1) (hG : n + 1 ≤ G) (hn63 : n ≤ 1048576)
    (hrz : ∀ ty, (Builtin.append_ #[26, 3] ty #[.slice (some ⟨b, off, none⟩) i c, .int .i64 ((n : Int) + 1 - (i : Int))]).run Try.prog w = .ok (.slice (some ⟨g, 0, none⟩) (n + 1) G) A)
    (hcpA : ∀ ty dc sc, (Builtin.copy_ #[26, 26] ty #[.slice (some ⟨g, i * 12, none⟩) (n + 1 - i) dc, .slice (some ⟨vb, voff, none⟩) 1 sc]).run Try.prog A = .ok v1 A1)
    (hcpB : ∀ ty dc sc, (Builtin.copy_ #[26, 26] ty #[.slice (some ⟨g, (i + 1) * 12, none⟩) (n - i) dc, .slice (some ⟨b, off + i * 12, none⟩) (n - i) sc]).run Try.prog A1.drew = .ok v2 A2) :
    Calls Try.prog 82 #[.slice (some ⟨b, off, none⟩) n c, .int .i64 i, .slice (some ⟨vb, voff, none⟩) 1 vc] w fun e w' => e = .returned (.slice (some ⟨g, 0, none⟩) (n + 1) G) ∧ w' = A2 := by
  have mixed : Try.prog.follows .mixedOrders = true := by kernel_rfl
  have t3 : Try.prog.underlying 3 = some (.int .i64) := by kernel_rfl
  have t4 : Try.prog.underlying 4 = some .bool := by kernel_rfl
  have tL : Try.prog.underlying 26 = some (.slice 72) := by kernel_rfl
  have iE : (Try.prog.info? 72).map (·.size) = some 12 := by kernel_rfl
  have u3 := run_underlying t3; have u4 := run_underlying t4; have uL := run_underlying tL
  have zE : ∀ w, (Go.sizeOf 72).run Try.prog w = .ok 12 w := fun w => by
    cases hq : Try.prog.info? 72 with
    | none => simp [hq] at iE
    | some x => simp [hq] at iE; simp [sizeOf, typeInfo, hq, iE]
  have a3 : ∀ w, (isAgg 3).run Try.prog w = .ok false w := fun w => run_isAgg t3
  have a4 : ∀ w, (isAgg 4).run Try.prog w = .ok false w := fun w => run_isAgg t4
  have aL : ∀ w, (isAgg 26).run Try.prog w = .ok false w := fun w => run_isAgg tL
  have hw1 : IntKind.i64.wrap ((i : Int) + 1) = (i : Int) + 1 := by rw [IntKind.wrap_i64]; omega
  have hw2 : IntKind.i64.wrap ((n : Int) + 1) = (n : Int) + 1 := by rw [IntKind.wrap_i64]; omega
  have hw3 : IntKind.i64.wrap ((n : Int) + 1 - (i : Int)) = (n : Int) + 1 - (i : Int) := by rw [IntKind.wrap_i64]; omega
  have hz2 : ¬ ((i : Int) = (n : Int)) := by omega
  have hb1 : (0 : Int) ≤ (i : Int) + 1 := by omega
  have hin : i ≤ n := by omega
  have hic : i ≤ c := by omega
  have htn : ((i : Int) + 1).toNat = i + 1 := by omega
  have hb2 : ¬ (G = i + 1) := by omega
  have hb3 : (i : Int) ≤ (n : Int) + 1 := by omega
  have hb4 : ¬ (G = i) := by omega
  have hb5 : ¬ (c = i) := by omega
  have hr1 : (n : Int) + 1 > (c : Int) := by omega
  go_enter Try.func82, Try.ntmps82
  go_wp2_with (first
    | (at_builtin; refine Lib.wpList_append_run _ rfl _ _ _ _ rfl _ _ rfl rfl _ _ (hrz _) ?_)
    | (refine wpL_copy _ rfl _ _ 26 26 rfl _ _ rfl rfl (hcpA _ _ _) ?_))
  go_region_law_o (refine stepD_copy rfl _ _ 26 26 rfl _ _ (by simp [Act.eval, Act.put]) (by simp [Act.eval, Act.put]) (hcpB _ _ _) ?_)
  go_wp2
  go_ret
  exact ⟨rfl, rfl⟩
theorem ov_Bodies {w : World} {b vb voff o la vc : Nat} {E E' : TypeId} {vs vs' : Array Value} (hne : vb ≠ b) (hb : w.heap[b]? = some (.cells vs E (0, 0))) (hvb : w.heap[vb]? = some (.cells vs' E' (0, 0))) (hsz : vs.size ≠ 0) (lb cb : Nat) :
    (callFunc 135 #[.slice (some ⟨vb, voff, none⟩) la vc, .slice (some ⟨b, o, none⟩) lb cb]).run Try.prog w = .ok (.value (.bool false)) w := by
  have tL : Try.prog.underlying 26 = some (.slice 72) := by kernel_rfl
  have iE : (Try.prog.info? 72).map (·.size) = some 12 := by kernel_rfl
  have zE : ∀ w, (Go.sizeOf 72).run Try.prog w = .ok 12 w := fun w => by
    cases hq : Try.prog.info? 72 with
    | none => simp [hq] at iE
    | some x => simp [hq] at iE; simp [sizeOf, typeInfo, hq, iE]
  rw [run_callFunc_extern Try.func135 (by kernel_rfl) (by kernel_rfl) (by kernel_rfl) (e := Extern.SlicesOverlaps.overlaps #[26, 26] #[4]) (by kernel_rfl),
    Lib.run_overlaps_apart w 26 4 72 tL 12 zE ⟨vb, voff, none⟩ ⟨b, o, none⟩ la vc lb cb hne E' E vs'.size vs.size (by simp [World.shape?, hvb]) (by simp [World.shape?, hb]) hsz (by simp [World.frozen?, hvb]) (by simp [World.frozen?, hvb])]
  rfl
set_option maxHeartbeats 4000000 in
set_option maxRecDepth 100000 in
theorem sem_insBodies {i : Int} {xs ys : List Body} (h0 : 0 ≤ i) (h1 : i ≤ xs.length) (hy : ys.length = 1) (hx : xs.length ≤ 1048576) :
    FSem Try.prog 82 [.vec 0, .int .i64 i, .vec 1] [(true, .vec .body xs), (true, .vec .body ys)] (.vec 2) [(true, .dead), (true, .vec .body ys), (true, .vec .body (insL_Bodies xs i.toNat ys))] := by
  refine ⟨by simp, ?_, ?_, ?_, ?_⟩
  · intro k b hk
    match k, hk with
    | 0, hk => simp at hk
    | 1, hk => simp at hk
    | k + 2, hk => simp at hk
  · intro k b hk
    match k, hk with
    | 0, hk => exact ⟨.dead, rfl, by cases b <;> trivial⟩
    | 1, hk => simp at hk; subst hk; exact ⟨_, rfl, stays_refl _⟩
    | k + 2, hk => simp at hk
  · intro k e hk he
    match k, hk, he with
    | 2, hk, he => simp at he; subst he; rfl
    | k + 3, hk, he => simp at he
  intro wr env w us hh hnew hc
  have c0 : ofL [(true, Blk.vec .body xs), (true, Blk.vec .body ys)] 0 = some (true, .vec .body xs) := rfl
  have c1 : ofL [(true, Blk.vec .body xs), (true, Blk.vec .body ys)] 1 = some (true, .vec .body ys) := rfl
  have c2 : ofL [(true, Blk.vec .body xs), (true, Blk.vec .body ys)] 2 = none := rfl
  match us, hc with
  | [v0, v1, v2], ⟨hv0, hv1, hv2, _⟩ =>
  simp only [conc2, concC, c0] at hv0
  simp only [conc2, concC] at hv1
  simp only [conc2, concC, c1] at hv2
  subst hv0 hv1 hv2
  obtain ⟨l0, r0⟩ := hh.blk 0 true _ c0
  obtain ⟨l1, r1⟩ := hh.blk 1 true _ c1
  rw [hy] at l1
  rcases r1 with r1 | ⟨vb, voff, vE, vvs, vfz, hvb, hvheap, hvsize, hvlies, hvfz⟩
  · omega
  have hvfz := hvfz rfl
  subst hvfz
  obtain ⟨m, rfl⟩ := Int.eq_ofNat_of_zero_le h0
  have hm : m ≤ xs.length := by omega
  have hov3 : updH (ofL [(true, Blk.vec .body xs), (true, Blk.vec .body ys)]) [(0, true, .dead), (2, true, .vec .body (insL_Bodies xs m ys))] = ofL [(true, .dead), (true, .vec .body ys), (true, .vec .body (insL_Bodies xs m ys))] := ofL_over (U := .body) (zs := xs) (ts := insL_Bodies xs m ys) (R := [(true, .vec .body ys)])
  have hzl : (insL_Bodies xs m ys).length = xs.length + 1 := by simp [insL_Bodies, hy]; omega
  have fin : ∀ {x : Option Addr × Nat} {w' : World}, HRel wr (envSet env 2 x) (ofL [(true, .dead), (true, .vec .body ys), (true, .vec .body (insL_Bodies xs m ys))]) w' → Fr wr w w' →
      ∃ v env', Ending.returned (.slice x.1 (xs.length + 1) x.2) = .returned v ∧ (∀ j, j < 2 → env' j = env j) ∧ HRel wr env' (ofL [(true, .dead), (true, .vec .body ys), (true, .vec .body (insL_Bodies xs m ys))]) w' ∧
        conc env' (ofL [(true, .dead), (true, .vec .body ys), (true, .vec .body (insL_Bodies xs m ys))]) (.vec 2) v ∧ Fr wr w w' := fun {x w'} hr hf => by
    refine ⟨_, envSet env 2 x, rfl, fun j hj => by simp only [envSet]; rw [if_neg (by omega)], hr, ?_, hf⟩
    have : ofL [(true, Blk.dead), (true, .vec .body ys), (true, .vec .body (insL_Bodies xs m ys))] 2 = some (true, .vec .body (insL_Bodies xs m ys)) := rfl
    simp only [conc, conc2, concC, this, hzl, envSet, if_true]
  have tL : Try.prog.underlying 26 = some (.slice 72) := by kernel_rfl
  have t3 : Try.prog.underlying 3 = some (.int .i64) := by kernel_rfl
  have hi0 : (Try.prog.info? 72).map (fun i => (i.size, i.bytes, i.zero.map fun z => z.cells.size)) = some (12, 96, some 12) := by kernel_rfl
  obtain ⟨ni, hni, hsz, hby, z, hz, hzs⟩ : ∃ ni, Try.prog.info? 72 = some ni ∧ ni.size = 12 ∧ ni.bytes = 96 ∧ ∃ z, ni.zero = some z ∧ z.cells.size = 12 := by
    obtain ⟨ni, h1, h2⟩ := Option.map_eq_some_iff.1 hi0
    simp only [Prod.mk.injEq] at h2
    obtain ⟨z, h3, h4⟩ := Option.map_eq_some_iff.1 h2.2.2
    exact ⟨ni, h1, h2.1, h2.2.1, z, h3, h4⟩
  have hszk : (Try.prog.info? 72).map (·.size) = some 12 := by rw [hni, Option.map_some, hsz]
  have hyc : ∀ q v, (flat .body ys)[q]? = some v → w.cell? ⟨vb, voff + q, none⟩ = some v := fun q v hq => by
    rw [cell_row hvheap]
    exact lies_flat.1 hvlies q v hq
  have hyl : (flat .body ys).length = 12 := by
    have := flat_length .body ys
    rw [hy] at this
    simpa [Ty.sz] using this
  have hxl : (flat .body (xs.drop m)).length = (xs.length - m) * 12 := by
    have := flat_length .body (xs.drop m)
    rw [List.length_drop] at this
    exact this
  rw [hy, hvb]
  by_cases he : m = xs.length
  · subst he
    have hz0 : insL_Bodies xs xs.length ys = xs ++ ys := by simp [insL_Bodies]
    obtain ⟨v, w', hrun, env', x1, x2, x3, x4⟩ := append_good (P := Try.prog) (U := .body) (ty := 26) hh hnew tL hni hsz hz hzs c0 c2 (ys := ys) (u := .slice (some ⟨vb, voff, none⟩) ys.length (env 1).2) ⟨_, _, rfl, fun _ => ⟨vb, voff, rfl, hyc⟩⟩ (by omega) (by rw [hy, hby]; unfold room; omega)
    rw [hy] at hrun
    have hw := insBodies_end (env 0).1 xs.length (env 0).2 vb voff (env 1).2 v w w' l0 hx (fun ty => by exact hrun)
    refine hw.mono ?_
    rintro e W ⟨rfl, rfl⟩
    rw [← hz0] at x2 x4
    rw [hov3] at x2 x4
    refine ⟨v, env', rfl, fun j hj => ?_, x2, x4, x3⟩
    match j, hj with
    | 0, _ => exact (x1.same 0 _ _ c0).1
    | 1, _ => exact (x1.same 1 _ _ c1).1
  have hlt : m < xs.length := by omega
  rcases r0 with r0 | ⟨b, off, E, vs, fz, hb, hheap, hsize, hlies, hfz⟩
  · omega
  have hfz := hfz rfl
  subst hfz
  have hsize : off + (env 0).2 * 12 ≤ vs.size := hsize
  have hne : vb ≠ b := fun e => by
    subst e
    refine hh.dj 0 1 true _ true _ (by omega) c0 c1 (.inl rfl) vb ?_ ?_
    · simp only [own]; rw [if_neg (by omega), hb]; rfl
    · simp only [own]; rw [if_neg (by omega), hvb]; rfl
  have hxc : ∀ q v, (flat .body (xs.drop m))[q]? = some v → vs[off + m * 12 + q]? = some v := fun q v hq => by
    have h1 : (flat .body xs)[m * 12 + q]? = some v := by
      rw [flat_drop, List.getElem?_drop] at hq
      exact hq
    have := lies_flat.1 hlies _ _ h1
    rw [← this]
    congr 1
    omega
  have hmul : (m + 1) * 12 = m * 12 + 12 := by omega
  rw [hb]
  by_cases hroom : xs.length + 1 ≤ (env 0).2
  · have hk := lies_insert (U := .body) (ys := ys) (i := m) hlies hm (by rw [hy]; change off + (xs.length + 1) * 12 ≤ vs.size; omega)
    have hsub : (xs.length - m) * 12 + m * 12 = xs.length * 12 := by rw [← Nat.add_mul]; congr 1; omega
    obtain ⟨row1, hrow1⟩ : ∃ row1 : Array Value, row1 = (vs.toList.take (off + (m + 1) * 12) ++ flat .body (xs.drop m) ++ vs.toList.drop (off + (m + 1) * 12 + (flat .body (xs.drop m)).length)).toArray := ⟨_, rfl⟩
    obtain ⟨row2, hrow2⟩ : ∃ row2 : Array Value, row2 = (row1.toList.take (off + m * 12) ++ flat .body ys ++ row1.toList.drop (off + m * 12 + (flat .body ys).length)).toArray := ⟨_, rfl⟩
    have hs1 : row1.size = vs.size := by
      rw [hrow1]
      simp only [List.size_toArray, List.length_append, List.length_take, List.length_drop, hxl, Array.length_toList]
      omega
    have hs2 : row2.size = vs.size := by
      rw [hrow2]
      simp only [List.size_toArray, List.length_append, List.length_take, List.length_drop, hyl, Array.length_toList, hs1]
      omega
    have hlies2 : Lies .body (insL_Bodies xs m ys) row2 off := by
      rw [hrow2, hrow1]
      rw [hy] at hk
      exact hk
    have hcp1 : ∀ ty dc sc, (Builtin.copy_ #[26, 26] ty #[.slice (some ⟨b, off + (m + 1) * 12, none⟩) (xs.length - m) dc, .slice (some ⟨b, off + m * 12, none⟩) (xs.length + 1 - m) sc]).run Try.prog w.drew = .ok (goInt (Nat.min (xs.length + 1 - m) (xs.length - m))) (w.drew.setRow b row1) := fun ty dc sc => by
      rw [hrow1]
      exact run_copy_row_k w.drew 26 26 ty 72 b (off + (m + 1) * 12) (xs.length - m) dc ⟨b, off + m * 12, none⟩ (xs.length + 1 - m) sc 12 vs E (flat .body (xs.drop m)) tL hszk hheap
        (by rw [hxl]; congr 1; exact (Nat.min_eq_right (by omega)).symm) (fun q v hq => by rw [add_addr, cell_row (w := w.drew) hheap]; exact hxc q v hq) (by rw [hxl]; omega) (flat_one _ _)
    have hg1 : (w.drew.setRow b row1).heap[b]? = some (.cells row1 E (0, 0)) := setRow_heap w.drew b vs row1 E (0, 0) hheap
    have hcp2 : ∀ ty dc sc, (Builtin.copy_ #[26, 26] ty #[.slice (some ⟨b, off + m * 12, none⟩) (xs.length + 1 - m) dc, .slice (some ⟨vb, voff, none⟩) 1 sc]).run Try.prog (w.drew.setRow b row1) = .ok (goInt (Nat.min 1 (xs.length + 1 - m))) ((w.drew.setRow b row1).setRow b row2) := fun ty dc sc => by
      rw [hrow2]
      exact run_copy_row_k (w.drew.setRow b row1) 26 26 ty 72 b (off + m * 12) (xs.length + 1 - m) dc ⟨vb, voff, none⟩ 1 sc 12 row1 E (flat .body ys) tL hszk hg1
        (by rw [hyl, show Nat.min 1 (xs.length + 1 - m) = 1 from Nat.min_eq_left (by omega)]) (fun q v hq => by
          rw [add_addr]
          have : (w.drew.setRow b row1).heap[vb]? = some (.cells vvs vE (0, 0)) := by rw [setRow_other w.drew b vb row1 hne]; exact hvheap
          rw [cell_row this]
          exact lies_flat.1 hvlies q v hq) (by rw [hyl]; omega) (flat_one _ _)
    have hw := insBodies_room b off xs.length (env 0).2 m vb voff (env 1).2 row1 row2 _ _ w hlt hroom hx (fun lb cb => ov_Bodies hne hheap hvheap (by omega) lb cb) hcp1 hcp2
    refine hw.mono ?_
    rintro e W ⟨rfl, rfl⟩
    have := over_inplace (w' := (w.drew.setRow b row1).setRow b row2) hh c0 c2 hnew (row := row2) hb (by omega) (fun y hy => by rw [setRow_other _ b y _ hy, setRow_other _ b y _ hy]; rfl) (setRow_heap _ b row1 row2 E (0, 0) hg1) (by change off + (env 0).2 * 12 ≤ row2.size; omega) (by rw [hzl]; exact hroom) hlies2 rfl rfl rfl ((size_setRow _ b row2).trans (size_setRow w.drew b row1))
    rw [hov3] at this
    have := fin this.2.1 this.2.2
    rw [hb] at this
    exact this
  · have hold : (Builtin.firstCells ni.size m (.slice (some ⟨b, off, none⟩) m (env 0).2)).run Try.prog w.drew = .ok (flat .body (xs.take m)).toArray w.drew := by
      rw [hsz]
      refine run_firstCells_some w.drew 12 m ⟨b, off, none⟩ m (env 0).2 (flat .body (xs.take m)) (by rw [flat_length, List.length_take, Nat.min_eq_left hm]; rfl) (fun q v hq => ?_)
      have hql : q < m * 12 := by
        have := (List.getElem?_eq_some_iff.1 hq).1
        rw [flat_length, List.length_take, Nat.min_eq_left hm] at this
        exact this
      rw [flat_get_take hql] at hq
      rw [add_addr, cell_row (w := w.drew) hheap]
      exact lies_flat.1 hlies q v hq
    have hfit := growslice_fits (need := xs.length + 1) (old := (env 0).2) (bytes := ni.bytes) (by omega) (by rw [hby]; omega)
    have hrz := fun ty => Lib.run_append_grow_zeros (P := Try.prog) w 26 3 ty 72 ni z .i64 .i64 tL t3 hni hz (some ⟨b, off, none⟩) m (env 0).2 (flat .body (xs.take m)) hold (xs.length + 1 - m) (by omega) (by omega) (by omega) (by omega) (by rw [hby]; omega) (by rw [show m + (xs.length + 1 - m) = xs.length + 1 by omega]; exact hfit)
    rw [show m + (xs.length + 1 - m) = xs.length + 1 by omega, show ((xs.length + 1 - m : Nat) : Int) = (xs.length : Int) + 1 - (m : Int) by omega] at hrz
    have hG := grownCap_need (w := w) (xs.length + 1) (env 0).2 72
    obtain ⟨G, hGe⟩ : ∃ G, G = grownCap w (xs.length + 1) (env 0).2 72 := ⟨_, rfl⟩
    rw [← hGe] at hG hrz
    obtain ⟨rest, hrest⟩ : ∃ rest : Array Value, rest = Builtin.zeroCells z.cells (xs.length + 1 - m) ++ Builtin.zeroCells z.cells (G - (xs.length + 1)) := ⟨_, rfl⟩
    obtain ⟨ROW, hROW⟩ : ∃ ROW : Array Value, ROW = (flat .body (xs.take m)).toArray ++ Builtin.zeroCells z.cells (xs.length + 1 - m) ++ Builtin.zeroCells z.cells (G - (xs.length + 1)) := ⟨_, rfl⟩
    rw [← hROW] at hrz
    have hsub : (xs.length - m) * 12 + m * 12 = xs.length * 12 := by rw [← Nat.add_mul]; congr 1; omega
    have htl : (flat .body (xs.take m)).length = m * 12 := by rw [flat_length, List.length_take, Nat.min_eq_left hm]; rfl
    have hRs : ROW.size = G * 12 := by
      rw [hROW]
      simp only [Array.size_append, List.size_toArray, htl, size_zeroCells, hzs]
      rw [← Nat.add_mul, ← Nat.add_mul]
      congr 1
      omega
    have hRl : ROW.toList = flat .body (xs.take m) ++ rest.toList := by rw [hROW, hrest]; simp
    have hk := lies_grow (U := .body) (ys := ys) (i := m) hRl hm (by rw [hy, hRs]; exact Nat.mul_le_mul_right _ hG)
    obtain ⟨row1, hrow1⟩ : ∃ row1 : Array Value, row1 = (ROW.toList.take (m * 12) ++ flat .body ys ++ ROW.toList.drop (m * 12 + (flat .body ys).length)).toArray := ⟨_, rfl⟩
    obtain ⟨row2, hrow2⟩ : ∃ row2 : Array Value, row2 = (row1.toList.take ((m + 1) * 12) ++ flat .body (xs.drop m) ++ row1.toList.drop ((m + 1) * 12 + (flat .body (xs.drop m)).length)).toArray := ⟨_, rfl⟩
    have hGm : (xs.length + 1) * 12 ≤ G * 12 := Nat.mul_le_mul_right _ hG
    have hs1 : row1.size = ROW.size := by
      rw [hrow1]
      simp only [List.size_toArray, List.length_append, List.length_take, List.length_drop, hyl, Array.length_toList]
      omega
    have hs2 : row2.size = ROW.size := by
      rw [hrow2]
      simp only [List.size_toArray, List.length_append, List.length_take, List.length_drop, hxl, Array.length_toList, hs1]
      omega
    have hlies2 : Lies .body (insL_Bodies xs m ys) row2 0 := by
      rw [hrow2, hrow1]
      rw [hy] at hk
      exact hk
    have hbN : b < w.heap.size := (Array.getElem?_eq_some_iff.1 hheap).1
    have hvN : vb < w.heap.size := (Array.getElem?_eq_some_iff.1 hvheap).1
    obtain ⟨A, hA⟩ : ∃ A, A = w.drew.alloc (.cells ROW 72) := ⟨_, rfl⟩
    rw [← hA] at hrz
    have hAN : A.heap[w.heap.size]? = some (.cells ROW 72 (0, 0)) := by rw [hA]; exact Array.getElem?_push_size
    have hAo : ∀ y, y < w.heap.size → A.heap[y]? = w.heap[y]? := fun y hy => by
      rw [hA]
      have : (w.drew.alloc (.cells ROW 72)).heap = w.heap.push (.cells ROW 72) := rfl
      rw [this, Array.getElem?_push, if_neg (by omega)]
    have hcpA : ∀ ty dc sc, (Builtin.copy_ #[26, 26] ty #[.slice (some ⟨w.heap.size, m * 12, none⟩) (xs.length + 1 - m) dc, .slice (some ⟨vb, voff, none⟩) 1 sc]).run Try.prog A = .ok (goInt (Nat.min 1 (xs.length + 1 - m))) (A.setRow w.heap.size row1) := fun ty dc sc => by
      rw [hrow1]
      exact run_copy_row_k A 26 26 ty 72 w.heap.size (m * 12) (xs.length + 1 - m) dc ⟨vb, voff, none⟩ 1 sc 12 ROW 72 (flat .body ys) tL hszk hAN
        (by rw [hyl, show Nat.min 1 (xs.length + 1 - m) = 1 from Nat.min_eq_left (by omega)]) (fun q v hq => by
          rw [add_addr, cell_row ((hAo vb hvN).trans hvheap)]
          exact lies_flat.1 hvlies q v hq) (by rw [hyl, hRs]; omega) (flat_one _ _)
    have hg1 : (A.setRow w.heap.size row1).drew.heap[w.heap.size]? = some (.cells row1 72 (0, 0)) := setRow_heap A w.heap.size ROW row1 72 (0, 0) hAN
    have hcpB : ∀ ty dc sc, (Builtin.copy_ #[26, 26] ty #[.slice (some ⟨w.heap.size, (m + 1) * 12, none⟩) (xs.length - m) dc, .slice (some ⟨b, off + m * 12, none⟩) (xs.length - m) sc]).run Try.prog (A.setRow w.heap.size row1).drew = .ok (goInt (Nat.min (xs.length - m) (xs.length - m))) ((A.setRow w.heap.size row1).drew.setRow w.heap.size row2) := fun ty dc sc => by
      rw [hrow2]
      exact run_copy_row_k (A.setRow w.heap.size row1).drew 26 26 ty 72 w.heap.size ((m + 1) * 12) (xs.length - m) dc ⟨b, off + m * 12, none⟩ (xs.length - m) sc 12 row1 72 (flat .body (xs.drop m)) tL hszk hg1
        (by rw [hxl]; congr 1; exact (Nat.min_self _).symm) (fun q v hq => by
          have : (A.setRow w.heap.size row1).drew.heap[b]? = some (.cells vs E (0, 0)) := by
            have := setRow_other A w.heap.size b row1 (by omega)
            exact this.trans ((hAo b hbN).trans hheap)
          rw [add_addr, cell_row this]
          exact hxc q v hq) (by rw [hxl, hs1, hRs]; omega) (flat_one _ _)
    have hw := insBodies_grow b off xs.length (env 0).2 m vb voff (env 1).2 w.heap.size G _ _ w A _ _ hlt l0 (by omega) hG hx hrz hcpA hcpB
    refine hw.mono ?_
    rintro e W ⟨rfl, rfl⟩
    have hAsz : A.heap.size = w.heap.size + 1 := by rw [hA]; exact Array.size_push _
    have := over_new (w' := (A.setRow w.heap.size row1).drew.setRow w.heap.size row2) hh c0 c2 hnew (gc := G) (row := row2)
      (fun y hy => by
        have e1 := setRow_other (A.setRow w.heap.size row1).drew w.heap.size y row2 (by omega)
        have e2 := setRow_other A w.heap.size y row1 (by omega)
        exact e1.trans (e2.trans (hAo y hy)))
      (setRow_heap _ w.heap.size row1 row2 72 (0, 0) hg1) (by change G * 12 ≤ row2.size; omega) (by rw [hzl]; exact hG) hlies2 (by rw [hA]; rfl) (by rw [hA]; rfl) (by rw [hA]; rfl) (by rw [size_setRow, drew_heap, size_setRow, hAsz]; omega)
    rw [hov3] at this
    exact fin this.2.1 this.2.2
theorem ok_insBodies : FsOk Try.prog 82 fs_insBodies := by
  refine ⟨fun w args => run_callFunc Try.func82 (by kernel_rfl) (by kernel_rfl) w args, ?_⟩
  intro args L p r L' h hp
  unfold fs_insBodies at h
  dsimp only at h
  split at h
  case h_2 => cases h
  rename_i i xs ys
  simp only [Option.some.injEq, Prod.mk.injEq] at h
  obtain ⟨rfl, rfl, rfl⟩ := h
  obtain ⟨h0, h1, h2, h3⟩ := hp _ rfl
  exact sem_insBodies h0 h1 h2 h3
end Go.Proofs.Ythkdelepjndacaa.Sym
