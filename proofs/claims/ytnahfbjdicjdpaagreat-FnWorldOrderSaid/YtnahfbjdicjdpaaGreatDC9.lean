/-
  What the rows of this claim stand on, part 9: the machine, the walks, the plain laws, as far as they are used.
  No condition.
-/
import Derived.Test.YtnahfbjdicjdpaaGreatDC8
import Derived.WalkKit
import Derived.Shelf.RegionOpenPlain
import Derived.Lib.Walk
import Derived.Lib.SliceRun
import Derived.Lib.JoinLaws
import Derived.Lib.AppendZeros
import Derived.Lib.Overlaps
import Derived.Laws.Externs
import Derived.Laws.IdiomCopy
import Derived.Lib.AppendZerosOnto
namespace Go.Proofs.YtnahfbjdicjdpaaGreat.Sym
open Go Go.Proofs
set_option linter.unusedVariables false
set_option linter.unusedSimpArgs false
/-- 'copy' where its run is known. -/
theorem wpL_copy {P : Program} (w : Go.World) {ops : Array Oper} {rest : List Oper} {o : Oper} {a : Act} {Q : Exit → Act → Go.World → Prop} (hgd : o.guard = none) (d s : Operand) (t t' : TypeId)
    (ho : o.op = .call { callee := .builtin .copy, args := #[d, s], argTypes := #[t, t'] }) (v u : Value) (hd : a.eval d = v) (hs : a.eval s = u) {v' : Value} {w' : Go.World}
    (hr : (Builtin.copy_ #[t, t'] o.type #[v, u]).run P w = .ok v' w') (h : wpList P ops Q rest (a.put o.dst v') w') : wpList P ops Q (o :: rest) a w :=
  wpList_plain hgd fun _ hK => by
    unfold Oper.wp execOp
    simp only [ho, resolve, invoke, builtin, Sem.run_bind, Sem.run_pure, Result.andThen_ok, List.map_toArray, List.map_cons, List.map_nil, hd, hs, hr]
    exact hK _ _ h
theorem stepD_copy {P : Program} {ops : Array Oper} {o : Oper} {a : Act} {w : Go.World} {K : Act → Go.World → Prop} {Q : Exit → Act → Go.World → Prop} {E : Prop}
    (hg : o.guard = none) (d x : Operand) (dT sT : TypeId) (hop : o.op = Op.call { callee := Callee.builtin Builtin.copy, args := #[d, x], argTypes := #[dT, sT] })
    (v u : Value) (hd : a.eval d = v) (hx : a.eval x = u) {v' : Value} {w' : Go.World} (hr : (Builtin.copy_ #[dT, sT] o.type #[v, u]).run P w = .ok v' w') (hK : K (a.put o.dst v') w') :
    if Region.wanted o (yielded ops a.tmps) = true then Oper.wp P o a w K Q else E := by
  have hw : Region.wanted o (yielded ops a.tmps) = true := by simp [Region.wanted, hg]
  rw [if_pos hw]
  unfold Oper.wp
  simp [execOp, hop, resolve, invoke, builtin, hd, hx, hr, Result.andThen]
  exact hK
theorem drew_heap (w : Go.World) : w.drew.heap = w.heap := rfl
theorem size_setRow (w : Go.World) (b : Nat) (cs : Array Value) : (w.setRow b cs).heap.size = w.heap.size := by simp [Go.World.setRow]
theorem cell_row {w : Go.World} {b o : Nat} {vs : Array Value} {E : TypeId} {fz : Nat × Nat} (h : w.heap[b]? = some (.cells vs E fz)) : w.cell? ⟨b, o, none⟩ = vs[o]? := cell_of h


def insL_Bodies (xs : List Body) (i : Nat) (ys : List Body) : List Body := xs.take i ++ ys ++ xs.drop i
def fs_insBodies : Fs := ⟨[true, false, true], fun args H => match args, H with
  | [.vec 0, .int .i64 i, .vec 1], [(true, .vec .body xs), (true, .vec .body ys)] => some (some (0 ≤ i ∧ i ≤ xs.length ∧ ys.length = 1 ∧ xs.length ≤ 1048576), .vec 2, [(true, .dead), (true, .vec .body ys), (true, .vec .body (insL_Bodies xs i.toNat ys))])
  | _, _ => none⟩
set_option maxHeartbeats 4000000 in
set_option maxRecDepth 100000 in
theorem insBodies_room (b off n c i vb voff vc : Nat) (row1 row2 : Array Value) (v1 v2 : Value) (w : Go.World) (hi : i < n) (hroom : n + 1 ≤ c) (hn63 : n ≤ 1048576)
    (hov : ∀ lb cb, (callFunc 122 #[.slice (some ⟨vb, voff, none⟩) 1 vc, .slice (some ⟨b, off + (i + 1) * 12, none⟩) lb cb]).run Tryz.prog w = .ok (.value (.bool false)) w)
    (hcp1 : ∀ ty dc sc, (Builtin.copy_ #[23, 23] ty #[.slice (some ⟨b, off + (i + 1) * 12, none⟩) (n - i) dc, .slice (some ⟨b, off + i * 12, none⟩) (n + 1 - i) sc]).run Tryz.prog w.drew = .ok v1 (w.drew.setRow b row1))
    (hcp2 : ∀ ty dc sc, (Builtin.copy_ #[23, 23] ty #[.slice (some ⟨b, off + i * 12, none⟩) (n + 1 - i) dc, .slice (some ⟨vb, voff, none⟩) 1 sc]).run Tryz.prog (w.drew.setRow b row1) = .ok v2 ((w.drew.setRow b row1).setRow b row2)) :
    Calls Tryz.prog 86 #[.slice (some ⟨b, off, none⟩) n c, .int .i64 i, .slice (some ⟨vb, voff, none⟩) 1 vc] w fun e w' =>
      e = .returned (.slice (some ⟨b, off, none⟩) (n + 1) c) ∧ w' = (w.drew.setRow b row1).setRow b row2 := by
  have mixed : Tryz.prog.follows .mixedOrders = true := by kernel_rfl
  have t3 : Tryz.prog.underlying 3 = some (.int .i64) := by kernel_rfl
  have t4 : Tryz.prog.underlying 4 = some .bool := by kernel_rfl
  have tL : Tryz.prog.underlying 23 = some (.slice 33) := by kernel_rfl
  have iE : (Tryz.prog.info? 33).map (·.size) = some 12 := by kernel_rfl
  have u3 := run_underlying t3; have u4 := run_underlying t4; have uL := run_underlying tL
  have zE : ∀ w, (Go.sizeOf 33).run Tryz.prog w = .ok 12 w := fun w => by
    cases hq : Tryz.prog.info? 33 with
    | none => simp [hq] at iE
    | some x => simp [hq] at iE; simp [sizeOf, typeInfo, hq, iE]
  have a3 : ∀ w, (isAgg 3).run Tryz.prog w = .ok false w := fun w => run_isAgg t3
  have a4 : ∀ w, (isAgg 4).run Tryz.prog w = .ok false w := fun w => run_isAgg t4
  have aL : ∀ w, (isAgg 23).run Tryz.prog w = .ok false w := fun w => run_isAgg tL
  have hw1 : IntKind.i64.wrap ((i : Int) + 1) = (i : Int) + 1 := by rw [IntKind.wrap_i64]; omega
  have hw2 : IntKind.i64.wrap ((n : Int) + 1) = (n : Int) + 1 := by rw [IntKind.wrap_i64]; omega
  have hz2 : ¬ ((i : Int) = (n : Int)) := by omega
  have hb1 : (0 : Int) ≤ (i : Int) + 1 := by omega
  have hin : i ≤ n := by omega
  have htn : ((i : Int) + 1).toNat = i + 1 := by omega
  have htn2 : ((n : Int) + 1).toNat = n + 1 := by omega
  have hb2 : ¬ (c = i + 1) := by omega
  have hb3 : (i : Int) ≤ (n : Int) + 1 := by omega
  have hb4 : ¬ (c = i) := by omega
  have hr1 : ¬ ((n : Int) + 1 > (c : Int)) := by omega
  go_enter Tryz.func86, Tryz.ntmps86
  go_wp2_with (simp only [hov])
  go_region_law_o (refine stepD_copy rfl _ _ 23 23 rfl _ _ (by simp [Act.eval, Act.put]) (by simp [Act.eval, Act.put]) (hcp1 _ _ _) ?_)
  go_wp2_with (refine wpL_copy _ rfl _ _ 23 23 rfl _ _ rfl rfl (hcp2 _ _ _) ?_)
  go_ret
  exact ⟨rfl, rfl⟩
set_option maxHeartbeats 4000000 in
set_option maxRecDepth 100000 in
theorem insBodies_end (base : Option Addr) (n c vb voff vc : Nat) (v' : Value) (w w' : Go.World) (hnc : n ≤ c) (hn63 : n ≤ 1048576)
    (hrun : ∀ ty, (Builtin.append_ #[23, 23] ty #[.slice base n c, .slice (some ⟨vb, voff, none⟩) 1 vc]).run Tryz.prog w = .ok v' w') :
    Calls Tryz.prog 86 #[.slice base n c, .int .i64 n, .slice (some ⟨vb, voff, none⟩) 1 vc] w fun e W => e = .returned v' ∧ W = w' := by
  have mixed : Tryz.prog.follows .mixedOrders = true := by kernel_rfl
  have t3 : Tryz.prog.underlying 3 = some (.int .i64) := by kernel_rfl
  have t4 : Tryz.prog.underlying 4 = some .bool := by kernel_rfl
  have tL : Tryz.prog.underlying 23 = some (.slice 33) := by kernel_rfl
  have iE : (Tryz.prog.info? 33).map (·.size) = some 12 := by kernel_rfl
  have u3 := run_underlying t3; have u4 := run_underlying t4; have uL := run_underlying tL
  have zE : ∀ w, (Go.sizeOf 33).run Tryz.prog w = .ok 12 w := fun w => by
    cases hq : Tryz.prog.info? 33 with
    | none => simp [hq] at iE
    | some x => simp [hq] at iE; simp [sizeOf, typeInfo, hq, iE]
  have a3 : ∀ w, (isAgg 3).run Tryz.prog w = .ok false w := fun w => run_isAgg t3
  have a4 : ∀ w, (isAgg 4).run Tryz.prog w = .ok false w := fun w => run_isAgg t4
  have aL : ∀ w, (isAgg 23).run Tryz.prog w = .ok false w := fun w => run_isAgg tL
  go_enter Tryz.func86, Tryz.ntmps86
  cases base with
  | none =>
    go_wp2_with (at_builtin; refine Lib.wpList_append_run _ rfl _ _ _ _ rfl _ _ rfl rfl _ _ (hrun _) ?_)
    all_goals (go_ret; exact ⟨rfl, rfl⟩)
  | some a =>
    obtain ⟨ab, ao, asp⟩ := a
    go_wp2_with (at_builtin; refine Lib.wpList_append_run _ rfl _ _ _ _ rfl _ _ rfl rfl _ _ (hrun _) ?_)
    all_goals (go_ret; exact ⟨rfl, rfl⟩)
set_option maxHeartbeats 4000000 in
set_option maxRecDepth 100000 in
theorem insBodies_grow (b off n c i vb voff vc g G : Nat) (v1 v2 : Value) (w A A1 A2 : Go.World) (hi : i < n) (hnc : n ≤ c) (hroom : c < n + 1) (hG : n + 1 ≤ G) (hn63 : n ≤ 1048576)
    (hrz : ∀ ty, (Builtin.append_ #[23, 3] ty #[.slice (some ⟨b, off, none⟩) i c, .int .i64 ((n : Int) + 1 - (i : Int))]).run Tryz.prog w = .ok (.slice (some ⟨g, 0, none⟩) (n + 1) G) A)
    (hcpA : ∀ ty dc sc, (Builtin.copy_ #[23, 23] ty #[.slice (some ⟨g, i * 12, none⟩) (n + 1 - i) dc, .slice (some ⟨vb, voff, none⟩) 1 sc]).run Tryz.prog A = .ok v1 A1)
    (hcpB : ∀ ty dc sc, (Builtin.copy_ #[23, 23] ty #[.slice (some ⟨g, (i + 1) * 12, none⟩) (n - i) dc, .slice (some ⟨b, off + i * 12, none⟩) (n - i) sc]).run Tryz.prog A1.drew = .ok v2 A2) :
    Calls Tryz.prog 86 #[.slice (some ⟨b, off, none⟩) n c, .int .i64 i, .slice (some ⟨vb, voff, none⟩) 1 vc] w fun e w' => e = .returned (.slice (some ⟨g, 0, none⟩) (n + 1) G) ∧ w' = A2 := by
  have mixed : Tryz.prog.follows .mixedOrders = true := by kernel_rfl
  have t3 : Tryz.prog.underlying 3 = some (.int .i64) := by kernel_rfl
  have t4 : Tryz.prog.underlying 4 = some .bool := by kernel_rfl
  have tL : Tryz.prog.underlying 23 = some (.slice 33) := by kernel_rfl
  have iE : (Tryz.prog.info? 33).map (·.size) = some 12 := by kernel_rfl
  have u3 := run_underlying t3; have u4 := run_underlying t4; have uL := run_underlying tL
  have zE : ∀ w, (Go.sizeOf 33).run Tryz.prog w = .ok 12 w := fun w => by
    cases hq : Tryz.prog.info? 33 with
    | none => simp [hq] at iE
    | some x => simp [hq] at iE; simp [sizeOf, typeInfo, hq, iE]
  have a3 : ∀ w, (isAgg 3).run Tryz.prog w = .ok false w := fun w => run_isAgg t3
  have a4 : ∀ w, (isAgg 4).run Tryz.prog w = .ok false w := fun w => run_isAgg t4
  have aL : ∀ w, (isAgg 23).run Tryz.prog w = .ok false w := fun w => run_isAgg tL
  have hw1 : IntKind.i64.wrap ((i : Int) + 1) = (i : Int) + 1 := by rw [IntKind.wrap_i64]; omega
  have hw2 : IntKind.i64.wrap ((n : Int) + 1) = (n : Int) + 1 := by rw [IntKind.wrap_i64]; omega
  have hw3 : IntKind.i64.wrap ((n : Int) + 1 - (i : Int)) = (n : Int) + 1 - (i : Int) := by rw [IntKind.wrap_i64]; omega
  have hz2 : ¬ ((i : Int) = (n : Int)) := by omega
  have hb1 : (0 : Int) ≤ (i : Int) + 1 := by omega
  have hin : i ≤ n := by omega
  have hic : i ≤ c := by omega
  have htn : ((i : Int) + 1).toNat = i + 1 := by omega
  have hb2 : ¬ (G = i + 1) := by omega
  have hb3 : (i : Int) ≤ (n : Int) + 1 := by omega
  have hb4 : ¬ (G = i) := by omega
  have hb5 : ¬ (c = i) := by omega
  have hr1 : (n : Int) + 1 > (c : Int) := by omega
  go_enter Tryz.func86, Tryz.ntmps86
  go_wp2_with (first
    | (at_builtin; refine Lib.wpList_append_run _ rfl _ _ _ _ rfl _ _ rfl rfl _ _ (hrz _) ?_)
    | (refine wpL_copy _ rfl _ _ 23 23 rfl _ _ rfl rfl (hcpA _ _ _) ?_))
  go_region_law_o (refine stepD_copy rfl _ _ 23 23 rfl _ _ (by simp [Act.eval, Act.put]) (by simp [Act.eval, Act.put]) (hcpB _ _ _) ?_)
  go_wp2
  go_ret
  exact ⟨rfl, rfl⟩
theorem ov_Bodies {w : Go.World} {b vb voff o la vc : Nat} {E E' : TypeId} {vs vs' : Array Value} (hne : vb ≠ b) (hb : w.heap[b]? = some (.cells vs E (0, 0))) (hvb : w.heap[vb]? = some (.cells vs' E' (0, 0))) (hsz : vs.size ≠ 0) (lb cb : Nat) :
    (callFunc 122 #[.slice (some ⟨vb, voff, none⟩) la vc, .slice (some ⟨b, o, none⟩) lb cb]).run Tryz.prog w = .ok (.value (.bool false)) w := by
  have tL : Tryz.prog.underlying 23 = some (.slice 33) := by kernel_rfl
  have iE : (Tryz.prog.info? 33).map (·.size) = some 12 := by kernel_rfl
  have zE : ∀ w, (Go.sizeOf 33).run Tryz.prog w = .ok 12 w := fun w => by
    cases hq : Tryz.prog.info? 33 with
    | none => simp [hq] at iE
    | some x => simp [hq] at iE; simp [sizeOf, typeInfo, hq, iE]
  rw [run_callFunc_extern Tryz.func122 (by kernel_rfl) (by kernel_rfl) (by kernel_rfl) (e := Extern.SlicesOverlaps.overlaps #[23, 23] #[4]) (by kernel_rfl),
    Lib.run_overlaps_apart w 23 4 33 tL 12 zE ⟨vb, voff, none⟩ ⟨b, o, none⟩ la vc lb cb hne E' E vs'.size vs.size (by simp [Go.World.shape?, hvb]) (by simp [Go.World.shape?, hb]) hsz (by simp [Go.World.frozen?, hvb]) (by simp [Go.World.frozen?, hvb])]
  rfl
set_option maxHeartbeats 4000000 in
set_option maxRecDepth 100000 in
theorem sem_insBodies {i : Int} {xs ys : List Body} (h0 : 0 ≤ i) (h1 : i ≤ xs.length) (hy : ys.length = 1) (hx : xs.length ≤ 1048576) :
    FSem Tryz.prog 86 [.vec 0, .int .i64 i, .vec 1] [(true, .vec .body xs), (true, .vec .body ys)] (.vec 2) [(true, .dead), (true, .vec .body ys), (true, .vec .body (insL_Bodies xs i.toNat ys))] := by
  refine ⟨by simp, ?_, ?_, ?_, ?_⟩
  · intro k b hk
    match k, hk with
    | 0, hk => simp at hk
    | 1, hk => simp at hk
    | k + 2, hk => simp at hk
  · intro k b hk
    match k, hk with
    | 0, hk => exact ⟨.dead, rfl, by cases b <;> trivial⟩
    | 1, hk => simp at hk; subst hk; exact ⟨_, rfl, stays_refl _⟩
    | k + 2, hk => simp at hk
  · intro k e hk he
    match k, hk, he with
    | 2, hk, he => simp at he; subst he; rfl
    | k + 3, hk, he => simp at he
  intro wr env w us hh hnew hc
  have c0 : ofL [(true, Blk.vec .body xs), (true, Blk.vec .body ys)] 0 = some (true, .vec .body xs) := rfl
  have c1 : ofL [(true, Blk.vec .body xs), (true, Blk.vec .body ys)] 1 = some (true, .vec .body ys) := rfl
  have c2 : ofL [(true, Blk.vec .body xs), (true, Blk.vec .body ys)] 2 = none := rfl
  match us, hc with
  | [v0, v1, v2], ⟨hv0, hv1, hv2, _⟩ =>
  simp only [conc2, concC, c0] at hv0
  simp only [conc2, concC] at hv1
  simp only [conc2, concC, c1] at hv2
  subst hv0 hv1 hv2
  obtain ⟨l0, r0⟩ := hh.blk 0 true _ c0
  obtain ⟨l1, r1⟩ := hh.blk 1 true _ c1
  rw [hy] at l1
  rcases r1 with r1 | ⟨vb, voff, vE, vvs, vfz, hvb, hvheap, hvsize, hvlies, hvfz⟩
  · omega
  have hvfz := hvfz rfl
  subst hvfz
  obtain ⟨m, rfl⟩ := Int.eq_ofNat_of_zero_le h0
  have hm : m ≤ xs.length := by omega
  have hov3 : updH (ofL [(true, Blk.vec .body xs), (true, Blk.vec .body ys)]) [(0, true, .dead), (2, true, .vec .body (insL_Bodies xs m ys))] = ofL [(true, .dead), (true, .vec .body ys), (true, .vec .body (insL_Bodies xs m ys))] := ofL_over (U := .body) (zs := xs) (ts := insL_Bodies xs m ys) (R := [(true, .vec .body ys)])
  have hzl : (insL_Bodies xs m ys).length = xs.length + 1 := by simp [insL_Bodies, hy]; omega
  have fin : ∀ {x : Option Addr × Nat} {w' : Go.World}, HRel wr (envSet env 2 x) (ofL [(true, .dead), (true, .vec .body ys), (true, .vec .body (insL_Bodies xs m ys))]) w' → Fr wr w w' →
      ∃ v env', Ending.returned (.slice x.1 (xs.length + 1) x.2) = .returned v ∧ (∀ j, j < 2 → env' j = env j) ∧ HRel wr env' (ofL [(true, .dead), (true, .vec .body ys), (true, .vec .body (insL_Bodies xs m ys))]) w' ∧
        conc env' (ofL [(true, .dead), (true, .vec .body ys), (true, .vec .body (insL_Bodies xs m ys))]) (.vec 2) v ∧ Fr wr w w' := fun {x w'} hr hf => by
    refine ⟨_, envSet env 2 x, rfl, fun j hj => by simp only [envSet]; rw [if_neg (by omega)], hr, ?_, hf⟩
    have : ofL [(true, Blk.dead), (true, .vec .body ys), (true, .vec .body (insL_Bodies xs m ys))] 2 = some (true, .vec .body (insL_Bodies xs m ys)) := rfl
    simp only [conc, conc2, concC, this, hzl, envSet, if_true]
  have tL : Tryz.prog.underlying 23 = some (.slice 33) := by kernel_rfl
  have t3 : Tryz.prog.underlying 3 = some (.int .i64) := by kernel_rfl
  have hi0 : (Tryz.prog.info? 33).map (fun i => (i.size, i.bytes, i.zero.map fun z => z.cells.size)) = some (12, 96, some 12) := by kernel_rfl
  obtain ⟨ni, hni, hsz, hby, z, hz, hzs⟩ : ∃ ni, Tryz.prog.info? 33 = some ni ∧ ni.size = 12 ∧ ni.bytes = 96 ∧ ∃ z, ni.zero = some z ∧ z.cells.size = 12 := by
    obtain ⟨ni, h1, h2⟩ := Option.map_eq_some_iff.1 hi0
    simp only [Prod.mk.injEq] at h2
    obtain ⟨z, h3, h4⟩ := Option.map_eq_some_iff.1 h2.2.2
    exact ⟨ni, h1, h2.1, h2.2.1, z, h3, h4⟩
  have hszk : (Tryz.prog.info? 33).map (·.size) = some 12 := by rw [hni, Option.map_some, hsz]
  have hyc : ∀ q v, (flat .body ys)[q]? = some v → w.cell? ⟨vb, voff + q, none⟩ = some v := fun q v hq => by
    rw [cell_row hvheap]
    exact lies_flat.1 hvlies q v hq
  have hyl : (flat .body ys).length = 12 := by
    have := flat_length .body ys
    rw [hy] at this
    simpa [Ty.sz] using this
  have hxl : (flat .body (xs.drop m)).length = (xs.length - m) * 12 := by
    have := flat_length .body (xs.drop m)
    rw [List.length_drop] at this
    exact this
  rw [hy, hvb]
  by_cases he : m = xs.length
  · subst he
    have hz0 : insL_Bodies xs xs.length ys = xs ++ ys := by simp [insL_Bodies]
    obtain ⟨v, w', hrun, env', x1, x2, x3, x4⟩ := append_good (P := Tryz.prog) (U := .body) (ty := 23) hh hnew tL hni hsz hz hzs c0 c2 (ys := ys) (u := .slice (some ⟨vb, voff, none⟩) ys.length (env 1).2) ⟨_, _, rfl, fun _ => ⟨vb, voff, rfl, hyc⟩⟩ (by omega) (by rw [hy, hby]; unfold room; omega)
    rw [hy] at hrun
    have hw := insBodies_end (env 0).1 xs.length (env 0).2 vb voff (env 1).2 v w w' l0 hx (fun ty => by exact hrun)
    refine hw.mono ?_
    rintro e W ⟨rfl, rfl⟩
    rw [← hz0] at x2 x4
    rw [hov3] at x2 x4
    refine ⟨v, env', rfl, fun j hj => ?_, x2, x4, x3⟩
    match j, hj with
    | 0, _ => exact (x1.same 0 _ _ c0).1
    | 1, _ => exact (x1.same 1 _ _ c1).1
  have hlt : m < xs.length := by omega
  rcases r0 with r0 | ⟨b, off, E, vs, fz, hb, hheap, hsize, hlies, hfz⟩
  · omega
  have hfz := hfz rfl
  subst hfz
  have hsize : off + (env 0).2 * 12 ≤ vs.size := hsize
  have hne : vb ≠ b := fun e => by
    subst e
    refine hh.dj 0 1 true _ true _ (by omega) c0 c1 (.inl rfl) vb ?_ ?_
    · simp only [own]; rw [if_neg (by omega), hb]; rfl
    · simp only [own]; rw [if_neg (by omega), hvb]; rfl
  have hxc : ∀ q v, (flat .body (xs.drop m))[q]? = some v → vs[off + m * 12 + q]? = some v := fun q v hq => by
    have h1 : (flat .body xs)[m * 12 + q]? = some v := by
      rw [flat_drop, List.getElem?_drop] at hq
      exact hq
    have := lies_flat.1 hlies _ _ h1
    rw [← this]
    congr 1
    omega
  have hmul : (m + 1) * 12 = m * 12 + 12 := by omega
  rw [hb]
  by_cases hroom : xs.length + 1 ≤ (env 0).2
  · have hk := lies_insert (U := .body) (ys := ys) (i := m) hlies hm (by rw [hy]; change off + (xs.length + 1) * 12 ≤ vs.size; omega)
    have hsub : (xs.length - m) * 12 + m * 12 = xs.length * 12 := by rw [← Nat.add_mul]; congr 1; omega
    obtain ⟨row1, hrow1⟩ : ∃ row1 : Array Value, row1 = (vs.toList.take (off + (m + 1) * 12) ++ flat .body (xs.drop m) ++ vs.toList.drop (off + (m + 1) * 12 + (flat .body (xs.drop m)).length)).toArray := ⟨_, rfl⟩
    obtain ⟨row2, hrow2⟩ : ∃ row2 : Array Value, row2 = (row1.toList.take (off + m * 12) ++ flat .body ys ++ row1.toList.drop (off + m * 12 + (flat .body ys).length)).toArray := ⟨_, rfl⟩
    have hs1 : row1.size = vs.size := by
      rw [hrow1]
      simp only [List.size_toArray, List.length_append, List.length_take, List.length_drop, hxl, Array.length_toList]
      omega
    have hs2 : row2.size = vs.size := by
      rw [hrow2]
      simp only [List.size_toArray, List.length_append, List.length_take, List.length_drop, hyl, Array.length_toList, hs1]
      omega
    have hlies2 : Lies .body (insL_Bodies xs m ys) row2 off := by
      rw [hrow2, hrow1]
      rw [hy] at hk
      exact hk
    have hcp1 : ∀ ty dc sc, (Builtin.copy_ #[23, 23] ty #[.slice (some ⟨b, off + (m + 1) * 12, none⟩) (xs.length - m) dc, .slice (some ⟨b, off + m * 12, none⟩) (xs.length + 1 - m) sc]).run Tryz.prog w.drew = .ok (goInt (Nat.min (xs.length + 1 - m) (xs.length - m))) (w.drew.setRow b row1) := fun ty dc sc => by
      rw [hrow1]
      exact run_copy_row_k w.drew 23 23 ty 33 b (off + (m + 1) * 12) (xs.length - m) dc ⟨b, off + m * 12, none⟩ (xs.length + 1 - m) sc 12 vs E (flat .body (xs.drop m)) tL hszk hheap
        (by rw [hxl]; congr 1; exact (Nat.min_eq_right (by omega)).symm) (fun q v hq => by rw [add_addr, cell_row (w := w.drew) hheap]; exact hxc q v hq) (by rw [hxl]; omega) (flat_one _ _)
    have hg1 : (w.drew.setRow b row1).heap[b]? = some (.cells row1 E (0, 0)) := setRow_heap w.drew b vs row1 E (0, 0) hheap
    have hcp2 : ∀ ty dc sc, (Builtin.copy_ #[23, 23] ty #[.slice (some ⟨b, off + m * 12, none⟩) (xs.length + 1 - m) dc, .slice (some ⟨vb, voff, none⟩) 1 sc]).run Tryz.prog (w.drew.setRow b row1) = .ok (goInt (Nat.min 1 (xs.length + 1 - m))) ((w.drew.setRow b row1).setRow b row2) := fun ty dc sc => by
      rw [hrow2]
      exact run_copy_row_k (w.drew.setRow b row1) 23 23 ty 33 b (off + m * 12) (xs.length + 1 - m) dc ⟨vb, voff, none⟩ 1 sc 12 row1 E (flat .body ys) tL hszk hg1
        (by rw [hyl, show Nat.min 1 (xs.length + 1 - m) = 1 from Nat.min_eq_left (by omega)]) (fun q v hq => by
          rw [add_addr]
          have : (w.drew.setRow b row1).heap[vb]? = some (.cells vvs vE (0, 0)) := by rw [setRow_other w.drew b vb row1 hne]; exact hvheap
          rw [cell_row this]
          exact lies_flat.1 hvlies q v hq) (by rw [hyl]; omega) (flat_one _ _)
    have hw := insBodies_room b off xs.length (env 0).2 m vb voff (env 1).2 row1 row2 _ _ w hlt hroom hx (fun lb cb => ov_Bodies hne hheap hvheap (by omega) lb cb) hcp1 hcp2
    refine hw.mono ?_
    rintro e W ⟨rfl, rfl⟩
    have := over_inplace (w' := (w.drew.setRow b row1).setRow b row2) hh c0 c2 hnew (row := row2) hb (by omega) (fun y hy => by rw [setRow_other _ b y _ hy, setRow_other _ b y _ hy]; rfl) (setRow_heap _ b row1 row2 E (0, 0) hg1) (by change off + (env 0).2 * 12 ≤ row2.size; omega) (by rw [hzl]; exact hroom) hlies2 rfl rfl rfl ((size_setRow _ b row2).trans (size_setRow w.drew b row1))
    rw [hov3] at this
    have := fin this.2.1 this.2.2
    rw [hb] at this
    exact this
  · have hold : (Builtin.firstCells ni.size m (.slice (some ⟨b, off, none⟩) m (env 0).2)).run Tryz.prog w.drew = .ok (flat .body (xs.take m)).toArray w.drew := by
      rw [hsz]
      refine run_firstCells_some w.drew 12 m ⟨b, off, none⟩ m (env 0).2 (flat .body (xs.take m)) (by rw [flat_length, List.length_take, Nat.min_eq_left hm]; rfl) (fun q v hq => ?_)
      have hql : q < m * 12 := by
        have := (List.getElem?_eq_some_iff.1 hq).1
        rw [flat_length, List.length_take, Nat.min_eq_left hm] at this
        exact this
      rw [flat_get_take hql] at hq
      rw [add_addr, cell_row (w := w.drew) hheap]
      exact lies_flat.1 hlies q v hq
    have hfit := growslice_fits (need := xs.length + 1) (old := (env 0).2) (bytes := ni.bytes) (by omega) (by rw [hby]; omega)
    have hrz := fun ty => Lib.run_append_grow_zeros (P := Tryz.prog) w 23 3 ty 33 ni z .i64 .i64 tL t3 hni hz (some ⟨b, off, none⟩) m (env 0).2 (flat .body (xs.take m)) hold (xs.length + 1 - m) (by omega) (by omega) (by omega) (by omega) (by rw [hby]; omega) (by rw [show m + (xs.length + 1 - m) = xs.length + 1 by omega]; exact hfit)
    rw [show m + (xs.length + 1 - m) = xs.length + 1 by omega, show ((xs.length + 1 - m : Nat) : Int) = (xs.length : Int) + 1 - (m : Int) by omega] at hrz
    have hG := grownCap_need (w := w) (xs.length + 1) (env 0).2 33
    obtain ⟨G, hGe⟩ : ∃ G, G = grownCap w (xs.length + 1) (env 0).2 33 := ⟨_, rfl⟩
    rw [← hGe] at hG hrz
    obtain ⟨rest, hrest⟩ : ∃ rest : Array Value, rest = Builtin.zeroCells z.cells (xs.length + 1 - m) ++ Builtin.zeroCells z.cells (G - (xs.length + 1)) := ⟨_, rfl⟩
    obtain ⟨ROW, hROW⟩ : ∃ ROW : Array Value, ROW = (flat .body (xs.take m)).toArray ++ Builtin.zeroCells z.cells (xs.length + 1 - m) ++ Builtin.zeroCells z.cells (G - (xs.length + 1)) := ⟨_, rfl⟩
    rw [← hROW] at hrz
    have hsub : (xs.length - m) * 12 + m * 12 = xs.length * 12 := by rw [← Nat.add_mul]; congr 1; omega
    have htl : (flat .body (xs.take m)).length = m * 12 := by rw [flat_length, List.length_take, Nat.min_eq_left hm]; rfl
    have hRs : ROW.size = G * 12 := by
      rw [hROW]
      simp only [Array.size_append, List.size_toArray, htl, size_zeroCells, hzs]
      rw [← Nat.add_mul, ← Nat.add_mul]
      congr 1
      omega
    have hRl : ROW.toList = flat .body (xs.take m) ++ rest.toList := by rw [hROW, hrest]; simp
    have hk := lies_grow (U := .body) (ys := ys) (i := m) hRl hm (by rw [hy, hRs]; exact Nat.mul_le_mul_right _ hG)
    obtain ⟨row1, hrow1⟩ : ∃ row1 : Array Value, row1 = (ROW.toList.take (m * 12) ++ flat .body ys ++ ROW.toList.drop (m * 12 + (flat .body ys).length)).toArray := ⟨_, rfl⟩
    obtain ⟨row2, hrow2⟩ : ∃ row2 : Array Value, row2 = (row1.toList.take ((m + 1) * 12) ++ flat .body (xs.drop m) ++ row1.toList.drop ((m + 1) * 12 + (flat .body (xs.drop m)).length)).toArray := ⟨_, rfl⟩
    have hGm : (xs.length + 1) * 12 ≤ G * 12 := Nat.mul_le_mul_right _ hG
    have hs1 : row1.size = ROW.size := by
      rw [hrow1]
      simp only [List.size_toArray, List.length_append, List.length_take, List.length_drop, hyl, Array.length_toList]
      omega
    have hs2 : row2.size = ROW.size := by
      rw [hrow2]
      simp only [List.size_toArray, List.length_append, List.length_take, List.length_drop, hxl, Array.length_toList, hs1]
      omega
    have hlies2 : Lies .body (insL_Bodies xs m ys) row2 0 := by
      rw [hrow2, hrow1]
      rw [hy] at hk
      exact hk
    have hbN : b < w.heap.size := (Array.getElem?_eq_some_iff.1 hheap).1
    have hvN : vb < w.heap.size := (Array.getElem?_eq_some_iff.1 hvheap).1
    obtain ⟨A, hA⟩ : ∃ A, A = w.drew.alloc (.cells ROW 33) := ⟨_, rfl⟩
    rw [← hA] at hrz
    have hAN : A.heap[w.heap.size]? = some (.cells ROW 33 (0, 0)) := by rw [hA]; exact Array.getElem?_push_size
    have hAo : ∀ y, y < w.heap.size → A.heap[y]? = w.heap[y]? := fun y hy => by
      rw [hA]
      have : (w.drew.alloc (.cells ROW 33)).heap = w.heap.push (.cells ROW 33) := rfl
      rw [this, Array.getElem?_push, if_neg (by omega)]
    have hcpA : ∀ ty dc sc, (Builtin.copy_ #[23, 23] ty #[.slice (some ⟨w.heap.size, m * 12, none⟩) (xs.length + 1 - m) dc, .slice (some ⟨vb, voff, none⟩) 1 sc]).run Tryz.prog A = .ok (goInt (Nat.min 1 (xs.length + 1 - m))) (A.setRow w.heap.size row1) := fun ty dc sc => by
      rw [hrow1]
      exact run_copy_row_k A 23 23 ty 33 w.heap.size (m * 12) (xs.length + 1 - m) dc ⟨vb, voff, none⟩ 1 sc 12 ROW 33 (flat .body ys) tL hszk hAN
        (by rw [hyl, show Nat.min 1 (xs.length + 1 - m) = 1 from Nat.min_eq_left (by omega)]) (fun q v hq => by
          rw [add_addr, cell_row ((hAo vb hvN).trans hvheap)]
          exact lies_flat.1 hvlies q v hq) (by rw [hyl, hRs]; omega) (flat_one _ _)
    have hg1 : (A.setRow w.heap.size row1).drew.heap[w.heap.size]? = some (.cells row1 33 (0, 0)) := setRow_heap A w.heap.size ROW row1 33 (0, 0) hAN
    have hcpB : ∀ ty dc sc, (Builtin.copy_ #[23, 23] ty #[.slice (some ⟨w.heap.size, (m + 1) * 12, none⟩) (xs.length - m) dc, .slice (some ⟨b, off + m * 12, none⟩) (xs.length - m) sc]).run Tryz.prog (A.setRow w.heap.size row1).drew = .ok (goInt (Nat.min (xs.length - m) (xs.length - m))) ((A.setRow w.heap.size row1).drew.setRow w.heap.size row2) := fun ty dc sc => by
      rw [hrow2]
      exact run_copy_row_k (A.setRow w.heap.size row1).drew 23 23 ty 33 w.heap.size ((m + 1) * 12) (xs.length - m) dc ⟨b, off + m * 12, none⟩ (xs.length - m) sc 12 row1 33 (flat .body (xs.drop m)) tL hszk hg1
        (by rw [hxl]; congr 1; exact (Nat.min_self _).symm) (fun q v hq => by
          have : (A.setRow w.heap.size row1).drew.heap[b]? = some (.cells vs E (0, 0)) := by
            have := setRow_other A w.heap.size b row1 (by omega)
            exact this.trans ((hAo b hbN).trans hheap)
          rw [add_addr, cell_row this]
          exact hxc q v hq) (by rw [hxl, hs1, hRs]; omega) (flat_one _ _)
    have hw := insBodies_grow b off xs.length (env 0).2 m vb voff (env 1).2 w.heap.size G _ _ w A _ _ hlt l0 (by omega) hG hx hrz hcpA hcpB
    refine hw.mono ?_
    rintro e W ⟨rfl, rfl⟩
    have hAsz : A.heap.size = w.heap.size + 1 := by rw [hA]; exact Array.size_push _
    have := over_new (w' := (A.setRow w.heap.size row1).drew.setRow w.heap.size row2) hh c0 c2 hnew (gc := G) (row := row2)
      (fun y hy => by
        have e1 := setRow_other (A.setRow w.heap.size row1).drew w.heap.size y row2 (by omega)
        have e2 := setRow_other A w.heap.size y row1 (by omega)
        exact e1.trans (e2.trans (hAo y hy)))
      (setRow_heap _ w.heap.size row1 row2 33 (0, 0) hg1) (by change G * 12 ≤ row2.size; omega) (by rw [hzl]; exact hG) hlies2 (by rw [hA]; rfl) (by rw [hA]; rfl) (by rw [hA]; rfl) (by rw [size_setRow, drew_heap, size_setRow, hAsz]; omega)
    rw [hov3] at this
    exact fin this.2.1 this.2.2
theorem ok_insBodies : FsOk Tryz.prog 86 fs_insBodies := by
  refine ⟨fun w args => run_callFunc Tryz.func86 (by kernel_rfl) (by kernel_rfl) w args, ?_⟩
  intro args L p r L' h hp
  unfold fs_insBodies at h
  dsimp only at h
  split at h
  case h_2 => cases h
  rename_i i xs ys
  simp only [Option.some.injEq, Prod.mk.injEq] at h
  obtain ⟨rfl, rfl, rfl⟩ := h
  obtain ⟨h0, h1, h2, h3⟩ := hp _ rfl
  exact sem_insBodies h0 h1 h2 h3
end Go.Proofs.YtnahfbjdicjdpaaGreat.Sym

namespace Go.Proofs.YtnahfbjdicjdpaaGreat.Sym
open Go
set_option linter.unusedVariables false
set_option linter.unusedSimpArgs false
set_option maxRecDepth 100000

def insB (xs : List Body) (k : Nat) (b : Body) : List Body := xs.take k ++ [b] ++ xs.drop k
def putCode (ok : Bool) (xs : List Body) (b : Body) : Int := bif ok && bodyOk b then bif hasB xs b.Id then 2 else bif decide (xs.length ≥ 12) then 3 else 0 else 1
def putBodies (xs : List Body) (b : Body) : List Body := bif bodyOk b && !hasB xs b.Id && !decide (xs.length ≥ 12) then insB xs (atB xs b.Id) b else xs
theorem worldOk_len {t p : Int} {xs : List Body} {ps : List Pair} (h : worldOk t p xs ps = true) : xs.length ≤ 12 := by
  simp only [worldOk, Bool.and_eq_true] at h
  exact bodiesOk_len h.1.2
noncomputable def fs_implWorldPut : Fs := ⟨[], fun args H => match args, H with
  | [.agg [.int .i64 t, .int .i64 p, .vec 0, .vec 1], .agg [.int .i64 aI, .int .i64 aK, .int .i64 aW, .int .i64 aH, .int .i64 aX, .int .i64 aY, .int .i64 aU, .int .i64 aV, .int .i64 aM, .int .i64 aB, .int .i64 aR, .int .i64 aQ]], [(false, .vec .body xs), (false, .vec .pair ps)] => some ((some (xs.length ≤ 1048576 ∧ ps.length ≤ 1048576)), .tup [.agg [.int .i64 (orI (worldOk t p xs ps) t), .int .i64 (orI (worldOk t p xs ps) p), .vec 2, .vec 3], .int .i64 (putCode (worldOk t p xs ps) xs ⟨aI, ⟨aK, aW, aH⟩, ⟨aX, aY⟩, ⟨aU, aV⟩, aM, aB, aR, aQ⟩)], [(false, .vec .body xs), (false, .vec .pair ps), (true, .vec .body (orL (worldOk t p xs ps) (putBodies xs ⟨aI, ⟨aK, aW, aH⟩, ⟨aX, aY⟩, ⟨aU, aV⟩, aM, aB, aR, aQ⟩))), (true, .vec .pair (orL (worldOk t p xs ps) ps))])
  | _, _ => none⟩

theorem vc_implWorldPut (t : Int) (p : Int) (xs : List Body) (ps : List Pair) (aI : Int) (aK : Int) (aW : Int) (aH : Int) (aX : Int) (aY : Int) (aU : Int) (aV : Int) (aM : Int) (aB : Int) (aR : Int) (aQ : Int) (Q : SV → List Ent → Prop) :
    fnVC tt (look [(36, fs_implWorldOk), (73, fs_implCopyW), (80, fs_place), (66, fs_implBodyOk), (86, fs_insBodies)]) L0 Tryz.f43 [.agg [.int .i64 t, .int .i64 p, .vec 0, .vec 1], .agg [.int .i64 aI, .int .i64 aK, .int .i64 aW, .int .i64 aH, .int .i64 aX, .int .i64 aY, .int .i64 aU, .int .i64 aV, .int .i64 aM, .int .i64 aB, .int .i64 aR, .int .i64 aQ]] [(false, .vec .body xs), (false, .vec .pair ps)] Q =
    ((List.length xs ≤ (1048576 : Nat) ∧ List.length ps ≤ (1048576 : Nat)) ∧ ifB (!worldOk t p xs ps) (Q (SV.tup [SV.agg [SV.int IntKind.i64 (0 : Int), SV.int IntKind.i64 (0 : Int), SV.vec (2 : Nat), SV.vec (3 : Nat)], SV.int IntKind.i64 (1 : Int)]) [(false, Blk.vec Ty.body xs), (false, Blk.vec Ty.pair ps), (true, Blk.vec Ty.body []), (true, Blk.vec Ty.pair [])]) ((List.length xs ≤ (1048576 : Nat) ∧ List.length ps ≤ (1048576 : Nat)) ∧ List.length xs ≤ (4611686018427387904 : Nat) ∧ ifB (!bodyOk (Body.mk aI (Shape.mk aK aW aH) (Vec.mk aX aY) (Vec.mk aU aV) aM aB aR aQ)) (Q (SV.tup [SV.agg [SV.int IntKind.i64 t, SV.int IntKind.i64 p, SV.vec (2 : Nat), SV.vec (3 : Nat)], SV.int IntKind.i64 (1 : Int)]) [(false, Blk.vec Ty.body xs), (false, Blk.vec Ty.pair ps), (true, Blk.vec Ty.body xs), (true, Blk.vec Ty.pair ps)]) (ifB (hasB xs aI) (Q (SV.tup [SV.agg [SV.int IntKind.i64 t, SV.int IntKind.i64 p, SV.vec (2 : Nat), SV.vec (3 : Nat)], SV.int IntKind.i64 (2 : Int)]) [(false, Blk.vec Ty.body xs), (false, Blk.vec Ty.pair ps), (true, Blk.vec Ty.body xs), (true, Blk.vec Ty.pair ps)]) (ifB ((↑(List.length xs) : Int) == (12 : Int)) (Q (SV.tup [SV.agg [SV.int IntKind.i64 t, SV.int IntKind.i64 p, SV.vec (2 : Nat), SV.vec (3 : Nat)], SV.int IntKind.i64 (3 : Int)]) [(false, Blk.vec Ty.body xs), (false, Blk.vec Ty.pair ps), (true, Blk.vec Ty.body xs), (true, Blk.vec Ty.pair ps)]) (((0 : Int) ≤ (↑(atB xs aI) : Int) ∧ (↑(atB xs aI) : Int) ≤ (↑(List.length xs) : Int) ∧ List.length [Body.mk aI (Shape.mk aK aW aH) (Vec.mk aX aY) (Vec.mk aU aV) aM aB aR aQ] = (1 : Nat) ∧ List.length xs ≤ (1048576 : Nat)) ∧ Q (SV.tup [SV.agg [SV.int IntKind.i64 t, SV.int IntKind.i64 p, SV.vec (2 : Nat), SV.vec (3 : Nat)], SV.int IntKind.i64 (0 : Int)]) [(false, Blk.vec Ty.body xs), (false, Blk.vec Ty.pair ps), (true, Blk.vec Ty.body (insL_Bodies xs (Int.toNat (↑(atB xs aI) : Int)) [Body.mk aI (Shape.mk aK aW aH) (Vec.mk aX aY) (Vec.mk aU aV) aM aB aR aQ])), (true, Blk.vec Ty.pair ps)]))))) := by kernel_rfl

theorem ok_implWorldPut : FsOk Tryz.prog 43 fs_implWorldPut := fsOk_of tt_ok (tabFs_cons ok_implWorldOk (tabFs_cons ok_implCopyW (tabFs_cons ok_place (tabFs_cons ok_implBodyOk (tabFs_cons ok_insBodies tabFs_nil))))) mixed Tryz.func43 (by kernel_rfl) (by kernel_rfl) (by
    intro args LL p r HH h hp
    unfold fs_implWorldPut at h
    dsimp only at h
    split at h
    case h_2 => cases h
    rename_i t p aI aK aW aH aX aY aU aV aM aB aR aQ xs ps
    simp only [Option.some.injEq, Prod.mk.injEq] at h
    obtain ⟨rfl, rfl, rfl⟩ := h
    refine ⟨by simp [Form, stays], L0, ?_⟩
    rw [vc_implWorldPut]
    try dsimp only
    obtain ⟨hb, hb2⟩ := hp _ rfl
    have hk := atB_le xs aI
    refine ⟨⟨hb, hb2⟩, ifB_of (fun c => ?_) (fun c => ⟨⟨hb, hb2⟩, by omega, ifB_of (fun c2 => ?_) (fun c2 => ifB_of (fun c3 => ?_) (fun c3 => ifB_of (fun c4 => ?_) (fun c4 => ?_)))⟩)⟩
    · simp [orI, orL, putCode, putBodies, not_true c]
    · simp [orI, orL, putCode, putBodies, not_false c, not_true c2]
    · simp [orI, orL, putCode, putBodies, not_false c, not_false c2, c3]
    · have c4 : (xs.length : Int) = 12 := by simpa using c4
      simp [orI, orL, putCode, putBodies, not_false c, not_false c2, c3, show xs.length ≥ 12 by omega]
    · have c4 : ¬ (xs.length : Int) = 12 := by simpa using c4
      have hl := worldOk_len (not_false c)
      refine ⟨⟨by omega, by omega, rfl, hb⟩, ?_⟩
      simp [orI, orL, putCode, putBodies, insB, insL_Bodies, not_false c, not_false c2, c3, show ¬ xs.length ≥ 12 by omega])

end Go.Proofs.YtnahfbjdicjdpaaGreat.Sym

namespace Go.Proofs.YtnahfbjdicjdpaaGreat.Sym
open Go
set_option linter.unusedVariables false
set_option linter.unusedSimpArgs false
set_option maxRecDepth 100000

end Go.Proofs.YtnahfbjdicjdpaaGreat.Sym

namespace Go.Proofs.YtnahfbjdicjdpaaGreat.Sym
open Go
set_option linter.unusedVariables false
set_option linter.unusedSimpArgs false
set_option maxRecDepth 100000
noncomputable section
theorem id_inj {xs : List Body} (h : bodiesOk xs = true) {a b : Nat} (ha : a < xs.length) (hb : b < xs.length) (e : (Ty.ix .body xs a).Id = (Ty.ix .body xs b).Id) : a = b := by
  rcases Nat.lt_trichotomy a b with q | q | q
  · have := bodies_lt h q hb
    omega
  · exact q
  · have := bodies_lt h q ha
    omega
theorem hasB_iff {xs : List Body} (h : bodiesOk xs = true) {id : Int} : hasB xs id = true ↔ ∃ e, e < xs.length ∧ (Ty.ix .body xs e).Id = id := by
  constructor
  · intro q
    exact ⟨_, hasB_id q⟩
  · rintro ⟨e, he, rfl⟩
    exact (hasB_self h he).1
theorem put_eq {xs : List Body} {b : Body} (hn : hasB xs b.Id = false) (hb : bodyOk b = true) (hl : xs.length < 12) : putBodies xs b = insB xs (atB xs b.Id) b := by
  unfold putBodies
  rw [hb, hn, decide_eq_false (show ¬ xs.length ≥ 12 by omega)]
  rfl
theorem ix_dropB {xs : List Body} {i e : Nat} : Ty.ix .body (xs.drop i) e = Ty.ix .body xs (i + e) := by
  simp only [Ty.ix, List.getD_eq_getElem?_getD, List.getElem?_drop]
theorem ok_drop {xs : List Body} (hok : bodiesOk xs = true) (i : Nat) : bodiesOk (xs.drop i) = true := by
  obtain ⟨h1, h2, h3⟩ := bodiesOk_iff.1 hok
  refine bodiesOk_iff.2 ⟨by rw [List.length_drop]; omega, fun e he => ?_, fun e he => ?_⟩ <;> rw [List.length_drop] at he
  · rw [ix_dropB]
    exact h2 _ (by omega)
  · rw [ix_dropB, ix_dropB]
    exact h3 _ (by omega)
theorem put_front {xs : List Body} (hok : bodiesOk xs = true) {i : Nat} (hi : i < xs.length) :
    hasB (xs.drop (i + 1)) (Ty.ix .body xs i).Id = false ∧ putBodies (xs.drop (i + 1)) (Ty.ix .body xs i) = xs.drop i := by
  have hd := ok_drop hok (i + 1)
  have hl := bodiesOk_len hok
  have hn : hasB (xs.drop (i + 1)) (Ty.ix .body xs i).Id = false := by
    cases q : hasB (xs.drop (i + 1)) (Ty.ix .body xs i).Id with
    | false => rfl
    | true =>
      obtain ⟨e, he, z⟩ := (hasB_iff hd).1 q
      rw [List.length_drop] at he
      rw [ix_dropB] at z
      have := id_inj hok (by omega) hi z
      omega
  have ha : atB (xs.drop (i + 1)) (Ty.ix .body xs i).Id = 0 := by
    refine pref_eq (T := .body) (p := fun y : Body => decide (y.Id < (Ty.ix .body xs i).Id)) (Nat.zero_le _) (fun e he => absurd he (Nat.not_lt_zero e)) (fun q => ?_)
    rw [List.length_drop] at q
    rw [ix_dropB]
    have := bodies_lt hok (show i < i + 1 + 0 by omega) (by omega)
    exact decide_eq_false (by omega)
  refine ⟨hn, ?_⟩
  rw [put_eq hn (bodiesOk_each hok hi) (by rw [List.length_drop]; omega), ha, drop_ix (T := .body) hi]
  rfl
theorem worldOk_none {p : Int} {xs : List Body} (hp : 0 ≤ p ∧ p ≤ 2560) (hok : bodiesOk xs = true) : worldOk 0 p xs [] = true := worldOk_of (by omega) hp hok (fun q hq => by simp at hq) List.Pairwise.nil
end
end Go.Proofs.YtnahfbjdicjdpaaGreat.Sym

namespace Go.Proofs.YtnahfbjdicjdpaaGreat.Sym
open Go
set_option linter.unusedVariables false
set_option linter.unusedSimpArgs false
set_option maxRecDepth 100000

noncomputable def fs_lawsPqWorld : Fs := ⟨[], fun args H => match args, H with
  | [.agg [.int .i64 t, .int .i64 p, .vec 0, .vec 1], .agg [.int .i64 t', .int .i64 p', .vec 2, .vec 3]], [(false, .vec .body xs), (false, .vec .pair ps), (false, .vec .body ys), (false, .vec .pair qs)] => some ((some (xs.length ≤ 4611686018427387904 ∧ ps.length ≤ 4611686018427387904)), .bool (eqW4 t p xs ps t' p' ys qs), [(false, .vec .body xs), (false, .vec .pair ps), (false, .vec .body ys), (false, .vec .pair qs)])
  | _, _ => none⟩

theorem vc_lawsPqWorld (t : Int) (p : Int) (t' : Int) (p' : Int) (xs : List Body) (ps : List Pair) (ys : List Body) (qs : List Pair) (Q : SV → List Ent → Prop) :
    fnVC tt (look [(17, fs_lawsPqBodies), (37, fs_lawsPqPairs)]) L0 Tryz.f34 [.agg [.int .i64 t, .int .i64 p, .vec 0, .vec 1], .agg [.int .i64 t', .int .i64 p', .vec 2, .vec 3]] [(false, .vec .body xs), (false, .vec .pair ps), (false, .vec .body ys), (false, .vec .pair qs)] Q =
    (ifB (t == t') (ifB (p == p') (List.length xs ≤ (4611686018427387904 : Nat) ∧ ifB (same xs ys) (List.length ps ≤ (4611686018427387904 : Nat) ∧ Q (SV.bool (same ps qs)) [(false, Blk.vec Ty.body xs), (false, Blk.vec Ty.pair ps), (false, Blk.vec Ty.body ys), (false, Blk.vec Ty.pair qs)]) (Q (SV.bool false) [(false, Blk.vec Ty.body xs), (false, Blk.vec Ty.pair ps), (false, Blk.vec Ty.body ys), (false, Blk.vec Ty.pair qs)])) (Q (SV.bool false) [(false, Blk.vec Ty.body xs), (false, Blk.vec Ty.pair ps), (false, Blk.vec Ty.body ys), (false, Blk.vec Ty.pair qs)])) (Q (SV.bool false) [(false, Blk.vec Ty.body xs), (false, Blk.vec Ty.pair ps), (false, Blk.vec Ty.body ys), (false, Blk.vec Ty.pair qs)])) := by kernel_rfl

theorem ok_lawsPqWorld : FsOk Tryz.prog 34 fs_lawsPqWorld := fsOk_of tt_ok (tabFs_cons ok_lawsPqBodies (tabFs_cons ok_lawsPqPairs tabFs_nil)) mixed Tryz.func34 (by kernel_rfl) (by kernel_rfl) (by
    intro args LL p r HH h hp
    unfold fs_lawsPqWorld at h
    dsimp only at h
    split at h
    case h_2 => cases h
    rename_i t p t' p' xs ps ys qs
    simp only [Option.some.injEq, Prod.mk.injEq] at h
    obtain ⟨rfl, rfl, rfl⟩ := h
    refine ⟨by simp [Form, stays], L0, ?_⟩
    rw [vc_lawsPqWorld]
    try dsimp only
    obtain ⟨hb, hb2⟩ := hp _ rfl
    refine ifB_of (fun c => ifB_of (fun c2 => ⟨hb, ifB_of (fun c3 => ⟨hb2, ?_⟩) (fun c3 => ?_)⟩) (fun c2 => ?_)) (fun c => ?_)
    · simp [eqW4, c, c2, c3]
    · simp [eqW4, c, c2, c3]
    · simp [eqW4, c, c2]
    · simp [eqW4, c])

end Go.Proofs.YtnahfbjdicjdpaaGreat.Sym

namespace Go.Proofs.YtnahfbjdicjdpaaGreat.Sym
open Go
set_option linter.unusedVariables false
set_option linter.unusedSimpArgs false
set_option maxRecDepth 100000
noncomputable section
theorem hasP_take {ps : List Pair} {p : Pair} {k : Nat} (h : k < ps.length) : hasP (ps.take (k + 1)) p = (hasP (ps.take k) p || eqP (Ty.ix .pair ps k) p) := by
  unfold hasP
  rw [List.take_add_one, ix_get (T := .pair) h, List.any_append]
  simp
def LSlws1  : LS where
  S := List Int × (Int × Int × List Body × List Pair) × (Int × Int × List Body × List Pair) × List Event × List Event × Int × Int
  live := [(3, [none]), (4, [none]), (5, [some .event]), (7, [some .event]), (8, [none]), (9, [none])]
  shape := fun s => ([.ptr 3 0 0, .ptr 6 0 0, .vec 7, .vec 8, .int .i64 s.2.2.2.2.2.1, .int .i64 s.2.2.2.2.2.2], [(false, .vec .byte s.1), (true, .vec .body s.2.1.2.2.1), (true, .vec .pair s.2.1.2.2.2), (true, .box [.int .i64 s.2.1.1, .int .i64 s.2.1.2.1, .vec 1, .vec 2]), (true, .vec .body s.2.2.1.2.2.1), (true, .vec .pair s.2.2.1.2.2.2), (true, .box [.int .i64 s.2.2.1.1, .int .i64 s.2.2.1.2.1, .vec 4, .vec 5]), (true, .vec .event s.2.2.2.1), (true, .vec .event s.2.2.2.2.1)])
  get := fun v h => match v, h with
    | [.ptr 3 0 0, .ptr 6 0 0, .vec 7, .vec 8, .int .i64 n, .int .i64 i], [(false, .vec .byte b), (true, .vec .body wd_2), (true, .vec .pair wd_3), (true, .box [.int .i64 wd_0, .int .i64 wd_1, .vec 1, .vec 2]), (true, .vec .body wx_2), (true, .vec .pair wx_3), (true, .box [.int .i64 wx_0, .int .i64 wx_1, .vec 4, .vec 5]), (true, .vec .event es), (true, .vec .event ts)] => some (b, (wd_0, wd_1, wd_2, wd_3), (wx_0, wx_1, wx_2, wx_3), es, ts, n, i)
    | _, _ => none
  inv := fun s0 s => Holds (s.1 = s0.1 ∧ s.2.1 = s0.2.1 ∧ s.2.2.1 = s0.2.2.1 ∧ s.2.2.2.1 = s0.2.2.2.1 ∧ s.2.2.2.2.1 = s0.2.2.2.2.1 ∧ 0 ≤ s.2.2.2.2.2.2 ∧ s.2.2.2.2.2.2 ≤ s0.2.2.2.1.length ∧ s.2.2.2.2.2.1 + balE (s0.2.2.2.1.drop s.2.2.2.2.2.2.toNat) = (s0.2.2.1.2.2.2.length : Int) ∧ -1000 - s0.2.2.2.1.length + (s0.2.2.2.1.length - s.2.2.2.2.2.2) ≤ s.2.2.2.2.2.1 ∧ s.2.2.2.2.2.1 ≤ 1000 + s0.2.2.2.1.length - (s0.2.2.2.1.length - s.2.2.2.2.2.2))
  mu := fun s => ((s.2.2.2.1.length : Int) - s.2.2.2.2.2.2).toNat
  ok := by
    intro v h s hg
    try dsimp only at hg
    split at hg <;> cases hg
    rfl

def LSlws2  : LS where
  S := List Int × (Int × Int × List Body × List Pair) × (Int × Int × List Body × List Pair) × List Event × List Event × Int × Int × Bool × Int
  live := [(3, [none]), (4, [none]), (5, [some .event]), (7, [some .event]), (8, [none]), (9, [none]), (10, [none]), (11, [none])]
  shape := fun s => ([.ptr 3 0 0, .ptr 6 0 0, .vec 7, .vec 8, .int .i64 s.2.2.2.2.2.1, .int .i64 s.2.2.2.2.2.2.1, .bool s.2.2.2.2.2.2.2.1, .int .i64 s.2.2.2.2.2.2.2.2], [(false, .vec .byte s.1), (true, .vec .body s.2.1.2.2.1), (true, .vec .pair s.2.1.2.2.2), (true, .box [.int .i64 s.2.1.1, .int .i64 s.2.1.2.1, .vec 1, .vec 2]), (true, .vec .body s.2.2.1.2.2.1), (true, .vec .pair s.2.2.1.2.2.2), (true, .box [.int .i64 s.2.2.1.1, .int .i64 s.2.2.1.2.1, .vec 4, .vec 5]), (true, .vec .event s.2.2.2.1), (true, .vec .event s.2.2.2.2.1)])
  get := fun v h => match v, h with
    | [.ptr 3 0 0, .ptr 6 0 0, .vec 7, .vec 8, .int .i64 n, .int .i64 i, .bool q, .int .i64 k], [(false, .vec .byte b), (true, .vec .body wd_2), (true, .vec .pair wd_3), (true, .box [.int .i64 wd_0, .int .i64 wd_1, .vec 1, .vec 2]), (true, .vec .body wx_2), (true, .vec .pair wx_3), (true, .box [.int .i64 wx_0, .int .i64 wx_1, .vec 4, .vec 5]), (true, .vec .event es), (true, .vec .event ts)] => some (b, (wd_0, wd_1, wd_2, wd_3), (wx_0, wx_1, wx_2, wx_3), es, ts, n, i, q, k)
    | _, _ => none
  inv := fun s0 s => Holds (s.1 = s0.1 ∧ s.2.1 = s0.2.1 ∧ s.2.2.1 = s0.2.2.1 ∧ s.2.2.2.1 = s0.2.2.2.1 ∧ s.2.2.2.2.1 = s0.2.2.2.2.1 ∧ s.2.2.2.2.2.1 = s0.2.2.2.2.2.1 ∧ s.2.2.2.2.2.2.1 = s0.2.2.2.2.2.2.1 ∧ 0 ≤ s.2.2.2.2.2.2.2.2 ∧ s.2.2.2.2.2.2.2.2 ≤ s0.2.2.1.2.2.2.length ∧ s.2.2.2.2.2.2.2.1 = hasP (s0.2.2.1.2.2.2.take s.2.2.2.2.2.2.2.2.toNat) (Ty.ix .event s0.2.2.2.1 s0.2.2.2.2.2.2.1.toNat).Pair)
  mu := fun s => ((s.2.2.1.2.2.2.length : Int) - s.2.2.2.2.2.2.2.2).toNat
  ok := by
    intro v h s hg
    try dsimp only at hg
    split at hg <;> cases hg
    rfl

def LSlws3  : LS where
  S := List Int × (Int × Int × List Body × List Pair) × (Int × Int × List Body × List Pair) × List Event × List Event × Int × Int × Bool × Bool × Int
  live := [(3, [none]), (4, [none]), (5, [some .event]), (7, [some .event]), (8, [none]), (9, [none]), (10, [none]), (12, [none]), (13, [none])]
  shape := fun s => ([.ptr 3 0 0, .ptr 6 0 0, .vec 7, .vec 8, .int .i64 s.2.2.2.2.2.1, .int .i64 s.2.2.2.2.2.2.1, .bool s.2.2.2.2.2.2.2.1, .bool s.2.2.2.2.2.2.2.2.1, .int .i64 s.2.2.2.2.2.2.2.2.2], [(false, .vec .byte s.1), (true, .vec .body s.2.1.2.2.1), (true, .vec .pair s.2.1.2.2.2), (true, .box [.int .i64 s.2.1.1, .int .i64 s.2.1.2.1, .vec 1, .vec 2]), (true, .vec .body s.2.2.1.2.2.1), (true, .vec .pair s.2.2.1.2.2.2), (true, .box [.int .i64 s.2.2.1.1, .int .i64 s.2.2.1.2.1, .vec 4, .vec 5]), (true, .vec .event s.2.2.2.1), (true, .vec .event s.2.2.2.2.1)])
  get := fun v h => match v, h with
    | [.ptr 3 0 0, .ptr 6 0 0, .vec 7, .vec 8, .int .i64 n, .int .i64 i, .bool q, .bool u, .int .i64 k], [(false, .vec .byte b), (true, .vec .body wd_2), (true, .vec .pair wd_3), (true, .box [.int .i64 wd_0, .int .i64 wd_1, .vec 1, .vec 2]), (true, .vec .body wx_2), (true, .vec .pair wx_3), (true, .box [.int .i64 wx_0, .int .i64 wx_1, .vec 4, .vec 5]), (true, .vec .event es), (true, .vec .event ts)] => some (b, (wd_0, wd_1, wd_2, wd_3), (wx_0, wx_1, wx_2, wx_3), es, ts, n, i, q, u, k)
    | _, _ => none
  inv := fun s0 s => Holds (s.1 = s0.1 ∧ s.2.1 = s0.2.1 ∧ s.2.2.1 = s0.2.2.1 ∧ s.2.2.2.1 = s0.2.2.2.1 ∧ s.2.2.2.2.1 = s0.2.2.2.2.1 ∧ s.2.2.2.2.2.1 = s0.2.2.2.2.2.1 ∧ s.2.2.2.2.2.2.1 = s0.2.2.2.2.2.2.1 ∧ s.2.2.2.2.2.2.2.1 = s0.2.2.2.2.2.2.2.1 ∧ 0 ≤ s.2.2.2.2.2.2.2.2.2 ∧ s.2.2.2.2.2.2.2.2.2 ≤ s0.2.1.2.2.2.length ∧ s.2.2.2.2.2.2.2.2.1 = hasP (s0.2.1.2.2.2.take s.2.2.2.2.2.2.2.2.2.toNat) (Ty.ix .event s0.2.2.2.1 s0.2.2.2.2.2.2.1.toNat).Pair)
  mu := fun s => ((s.2.1.2.2.2.length : Int) - s.2.2.2.2.2.2.2.2.2).toNat
  ok := by
    intro v h s hg
    try dsimp only at hg
    split at hg <;> cases hg
    rfl

def L_lawWorldStep : Loops := fun n => match n with
  | 12 => some LSlws1
  | 16 => some LSlws2
  | 21 => some LSlws3
  | _ => none
noncomputable def fs_lawWorldStep : Fs := ⟨[], fun args H => match args, H with
  | [.vec 0], [(false, .vec .byte b)] => some ((some (LOk .byte b)), .bool (true), [(false, .vec .byte b)])
  | _, _ => none⟩

theorem vc_lawWorldStep (b : List Int) (Q : SV → List Ent → Prop) :
    fnVC tt (look [(31, fs_DrawWorldStep), (32, fs_implWorldStep), (33, fs_specWorldStep), (34, fs_lawsPqWorld), (35, fs_specWorldOk), (36, fs_implWorldOk), (16, fs_implStep), (17, fs_lawsPqBodies), (37, fs_lawsPqPairs), (38, fs_implStepPairs)]) (L_lawWorldStep) Tryz.f9 [.vec 0] [(false, .vec .byte b)] Q =
    (let w_ := IntKind.wrap IntKind.i64; let n_ := Int.toNat; let vy_ := Blk.vec Ty.byte; let A47_ := (false, vy_ b); let A45_ := (4611686018427387904 : Nat); let A39_ := (Subtype.val (g_DrawWorldStep b)); let A41_ := (Prod.fst (Prod.snd A39_)); let A40_ := (Prod.snd (Prod.snd A39_)); let A38_ := (worldOk (Prod.fst A39_) A41_ (Prod.fst A40_) (Prod.snd A40_)); let A44_ := (stepBodies A38_ (Prod.fst A39_) A41_ (Prod.fst A40_)); let A43_ := (stepPs A38_ (Prod.fst A39_) A41_ (Prod.fst A40_) (Prod.snd A40_)); let A46_ := (eqW4 (stepTick A38_ (Prod.fst A39_)) (orI A38_ A41_) A44_ A43_ (stepTick A38_ (Prod.fst A39_)) (orI A38_ A41_) A44_ A43_); let A42_ := (↑(List.length (stepEs A38_ (Prod.fst A39_) A41_ (Prod.fst A40_) (Prod.snd A40_))) : Int); ifB (decide ((↑(List.length b) : Int) > (1048576 : Int))) (Q (SV.bool true) [A47_]) (BytesOk b ∧ (List.length (Prod.fst A40_) ≤ (1048576 : Nat) ∧ List.length (Prod.snd A40_) ≤ (1048576 : Nat)) ∧ (List.length (Prod.fst A40_) ≤ (1048576 : Nat) ∧ List.length (Prod.snd A40_) ≤ (1048576 : Nat)) ∧ (List.length A44_ ≤ A45_ ∧ List.length A43_ ≤ A45_) ∧ ifB (!eqW4 (stepTick A38_ (Prod.fst A39_)) (orI A38_ A41_) A44_ A43_ (stepTick A38_ (Prod.fst A39_)) (orI A38_ A41_) A44_ A43_) ((List.length A44_ ≤ A45_ ∧ List.length A43_ ≤ A45_) ∧ ifB A46_ (Q (SV.bool (A42_ == A42_)) [A47_]) (Q (SV.bool false) [A47_])) (ifB (A42_ != A42_) ((List.length A44_ ≤ A45_ ∧ List.length A43_ ≤ A45_) ∧ ifB A46_ (Q (SV.bool (A42_ == A42_)) [A47_]) (Q (SV.bool false) [A47_])) ((List.length (Prod.fst A40_) ≤ (1048576 : Nat) ∧ List.length (Prod.snd A40_) ≤ (1048576 : Nat)) ∧ ifB (!worldOk (Prod.fst A39_) A41_ (Prod.fst A40_) (Prod.snd A40_)) ((List.length A44_ ≤ A45_ ∧ List.length A43_ ≤ A45_) ∧ ifB A46_ (Q (SV.bool (A42_ == A42_)) [A47_]) (Q (SV.bool false) [A47_])) (ifB (decide (Prod.fst A39_ ≥ (100000 : Int))) ((List.length A44_ ≤ A45_ ∧ List.length A43_ ≤ A45_) ∧ ifB (eqW4 (stepTick A38_ (Prod.fst A39_)) (orI A38_ A41_) A44_ A43_ (Prod.fst A39_) A41_ (Prod.fst A40_) (Prod.snd A40_)) (Q (SV.bool (A42_ == (0 : Int))) [A47_]) (Q (SV.bool false) [A47_])) (Holds (b = b ∧ Subtype.val (g_DrawWorldStep b) = Subtype.val (g_DrawWorldStep b) ∧ (stepTick A38_ (Prod.fst A39_), orI A38_ A41_, stepBodies A38_ (Prod.fst A39_) A41_ (Prod.fst A40_), stepPs A38_ (Prod.fst A39_) A41_ (Prod.fst A40_) (Prod.snd A40_)) = (stepTick A38_ (Prod.fst A39_), orI A38_ A41_, stepBodies A38_ (Prod.fst A39_) A41_ (Prod.fst A40_), stepPs A38_ (Prod.fst A39_) A41_ (Prod.fst A40_) (Prod.snd A40_)) ∧ stepEs A38_ (Prod.fst A39_) A41_ (Prod.fst A40_) (Prod.snd A40_) = stepEs A38_ (Prod.fst A39_) A41_ (Prod.fst A40_) (Prod.snd A40_) ∧ stepEs A38_ (Prod.fst A39_) A41_ (Prod.fst A40_) (Prod.snd A40_) = stepEs A38_ (Prod.fst A39_) A41_ (Prod.fst A40_) (Prod.snd A40_) ∧ (0 : Int) ≤ (0 : Int) ∧ (0 : Int) ≤ A42_ ∧ (↑(List.length (Prod.snd A40_)) : Int) + balE (List.drop (n_ (0 : Int)) (stepEs A38_ (Prod.fst A39_) A41_ (Prod.fst A40_) (Prod.snd A40_))) = (↑(List.length A43_) : Int) ∧ (-1000 : Int) - A42_ + (A42_ - (0 : Int)) ≤ (↑(List.length (Prod.snd A40_)) : Int) ∧ (↑(List.length (Prod.snd A40_)) : Int) ≤ (1000 : Int) + A42_ - (A42_ - (0 : Int))) ∧ ∀ (y29 : List Int × (Int × Int × List Body × List Pair) × (Int × Int × List Body × List Pair) × List Event × List Event × Int × Int), let y29f0_ := Prod.fst y29; let y29s1_ := Prod.snd y29; let y29f1_ := Prod.fst (Prod.snd y29); let y29f2_ := Prod.fst (Prod.snd (Prod.snd y29)); let y29f3_ := Prod.fst (Prod.snd (Prod.snd (Prod.snd y29))); let y29f4_ := Prod.fst (Prod.snd (Prod.snd (Prod.snd (Prod.snd y29)))); let y29s5_ := Prod.snd (Prod.snd (Prod.snd (Prod.snd (Prod.snd y29)))); let y29f5_ := Prod.fst (Prod.snd (Prod.snd (Prod.snd (Prod.snd (Prod.snd y29))))); let y29s6_ := Prod.snd (Prod.snd (Prod.snd (Prod.snd (Prod.snd (Prod.snd y29))))); let A37_ := (false, vy_ y29f0_); let A34_ := (Prod.snd (Prod.snd y29f2_)); let A33_ := (Prod.fst A39_); let A30_ := (Prod.snd A39_); let A36_ := (Prod.snd (Prod.snd A30_)); let A35_ := (Prod.fst (Prod.snd A30_)); let A31_ := (worldOk A33_ (Prod.fst A30_) A35_ A36_); let A32_ := (stepEs A31_ A33_ (Prod.fst A30_) A35_ A36_); Holds (Prod.fst y29 = b ∧ y29f1_ = Subtype.val (g_DrawWorldStep b) ∧ y29f2_ = (stepTick A31_ A33_, orI A31_ (Prod.fst A30_), stepBodies A31_ A33_ (Prod.fst A30_) A35_, stepPs A31_ A33_ (Prod.fst A30_) A35_ A36_) ∧ y29f3_ = stepEs A31_ A33_ (Prod.fst A30_) A35_ A36_ ∧ y29f4_ = stepEs A31_ A33_ (Prod.fst A30_) A35_ A36_ ∧ (0 : Int) ≤ y29s6_ ∧ y29s6_ ≤ (↑(List.length A32_) : Int) ∧ y29f5_ + balE (List.drop (n_ y29s6_) A32_) = (↑(List.length (stepPs A31_ A33_ (Prod.fst A30_) A35_ A36_)) : Int) ∧ (-1000 : Int) - (↑(List.length A32_) : Int) + ((↑(List.length A32_) : Int) - y29s6_) ≤ y29f5_ ∧ y29f5_ ≤ (1000 : Int) + (↑(List.length A32_) : Int) - ((↑(List.length A32_) : Int) - y29s6_)) → ifB (decide (Prod.snd y29s5_ < (↑(List.length y29f3_) : Int))) (Holds (Prod.fst y29 = y29f0_ ∧ y29f1_ = y29f1_ ∧ y29f2_ = y29f2_ ∧ y29f3_ = y29f3_ ∧ y29f4_ = y29f4_ ∧ y29f5_ = y29f5_ ∧ y29s6_ = y29s6_ ∧ (0 : Int) ≤ (0 : Int) ∧ (0 : Int) ≤ (↑(List.length (Prod.snd A34_)) : Int) ∧ false = hasP (List.take (n_ (0 : Int)) (Prod.snd A34_)) (Event.Pair (Ty.ix Ty.event y29f3_ (n_ y29s6_)))) ∧ ∀ (y21 : List Int × (Int × Int × List Body × List Pair) × (Int × Int × List Body × List Pair) × List Event × List Event × Int × Int × Bool × Int), let y21f0_ := Prod.fst y21; let y21s1_ := Prod.snd y21; let y21f1_ := Prod.fst (Prod.snd y21); let y21f2_ := Prod.fst (Prod.snd (Prod.snd y21)); let y21f3_ := Prod.fst (Prod.snd (Prod.snd (Prod.snd y21))); let y21f4_ := Prod.fst (Prod.snd (Prod.snd (Prod.snd (Prod.snd y21)))); let y21f5_ := Prod.fst (Prod.snd (Prod.snd (Prod.snd (Prod.snd (Prod.snd y21))))); let y21f6_ := Prod.fst (Prod.snd (Prod.snd (Prod.snd (Prod.snd (Prod.snd (Prod.snd y21)))))); let y21s7_ := Prod.snd (Prod.snd (Prod.snd (Prod.snd (Prod.snd (Prod.snd (Prod.snd y21)))))); let y21f7_ := Prod.fst (Prod.snd (Prod.snd (Prod.snd (Prod.snd (Prod.snd (Prod.snd (Prod.snd y21))))))); let y21s8_ := Prod.snd (Prod.snd (Prod.snd (Prod.snd (Prod.snd (Prod.snd (Prod.snd (Prod.snd y21))))))); let A28_ := (Event.Pair (Ty.ix Ty.event y21f3_ (n_ y21f6_))); let A26_ := (Prod.snd y21s7_ + (1 : Int)); let A24_ := (↑(List.length (Prod.snd (Prod.snd (Prod.snd y21f2_)))) : Int); let A23_ := (Prod.snd A34_); let A22_ := (Prod.snd (Prod.snd y29s1_)); let A25_ := (Prod.snd (Prod.snd A22_)); let A27_ := (Event.Pair (Ty.ix Ty.event (Prod.fst A22_) (n_ (Prod.snd A25_)))); Holds (Prod.fst y21 = y29f0_ ∧ y21f1_ = y29f1_ ∧ y21f2_ = y29f2_ ∧ y21f3_ = Prod.fst A22_ ∧ y21f4_ = Prod.fst (Prod.snd A22_) ∧ y21f5_ = Prod.fst A25_ ∧ y21f6_ = Prod.snd A25_ ∧ (0 : Int) ≤ y21s8_ ∧ y21s8_ ≤ (↑(List.length A23_) : Int) ∧ y21f7_ = hasP (List.take (n_ y21s8_) A23_) A27_) → ifB (decide (Prod.snd y21s7_ < A24_)) (ifB y21f7_ (Holds (Prod.fst y21 = y29f0_ ∧ y21f1_ = y29f1_ ∧ y21f2_ = y29f2_ ∧ y21f3_ = Prod.fst A22_ ∧ y21f4_ = Prod.fst (Prod.snd A22_) ∧ y21f5_ = Prod.fst A25_ ∧ y21f6_ = Prod.snd A25_ ∧ (0 : Int) ≤ w_ A26_ ∧ w_ A26_ ≤ (↑(List.length A23_) : Int) ∧ true = hasP (List.take (n_ (w_ A26_)) A23_) A27_) ∧ n_ (A24_ - w_ A26_) < n_ (A24_ - y21s8_)) (((0 : Int) ≤ y21s8_ ∧ y21s8_ < A24_) ∧ ((0 : Int) ≤ y21f6_ ∧ y21f6_ < (↑(List.length y21f3_) : Int)) ∧ Holds (Prod.fst y21 = y29f0_ ∧ y21f1_ = y29f1_ ∧ y21f2_ = y29f2_ ∧ y21f3_ = Prod.fst A22_ ∧ y21f4_ = Prod.fst (Prod.snd A22_) ∧ y21f5_ = Prod.fst A25_ ∧ y21f6_ = Prod.snd A25_ ∧ (0 : Int) ≤ w_ A26_ ∧ w_ A26_ ≤ (↑(List.length A23_) : Int) ∧ (Pair.A (Ty.ix Ty.pair (Prod.snd (Prod.snd (Prod.snd y21f2_))) (n_ y21s8_)) == Pair.A A28_ && Pair.B (Ty.ix Ty.pair (Prod.snd (Prod.snd (Prod.snd y21f2_))) (n_ y21s8_)) == Pair.B A28_) = hasP (List.take (n_ (w_ A26_)) A23_) A27_) ∧ n_ (A24_ - w_ A26_) < n_ (A24_ - y21s8_))) (Holds (Prod.fst y21 = y21f0_ ∧ y21f1_ = y21f1_ ∧ y21f2_ = y21f2_ ∧ y21f3_ = y21f3_ ∧ y21f4_ = y21f4_ ∧ y21f5_ = y21f5_ ∧ y21f6_ = y21f6_ ∧ y21f7_ = y21f7_ ∧ (0 : Int) ≤ (0 : Int) ∧ (0 : Int) ≤ (↑(List.length (Prod.snd (Prod.snd (Prod.snd y21f1_)))) : Int) ∧ false = hasP (List.take (n_ (0 : Int)) (Prod.snd (Prod.snd (Prod.snd y21f1_)))) A28_) ∧ ∀ (y1 : List Int × (Int × Int × List Body × List Pair) × (Int × Int × List Body × List Pair) × List Event × List Event × Int × Int × Bool × Bool × Int), let y1f0_ := Prod.fst y1; let y1s1_ := Prod.snd y1; let y1f1_ := Prod.fst (Prod.snd y1); let y1f2_ := Prod.fst (Prod.snd (Prod.snd y1)); let y1f3_ := Prod.fst (Prod.snd (Prod.snd (Prod.snd y1))); let y1f4_ := Prod.fst (Prod.snd (Prod.snd (Prod.snd (Prod.snd y1)))); let y1s5_ := Prod.snd (Prod.snd (Prod.snd (Prod.snd (Prod.snd y1)))); let y1f5_ := Prod.fst (Prod.snd (Prod.snd (Prod.snd (Prod.snd (Prod.snd y1))))); let y1s6_ := Prod.snd (Prod.snd (Prod.snd (Prod.snd (Prod.snd (Prod.snd y1))))); let y1f6_ := Prod.fst (Prod.snd (Prod.snd (Prod.snd (Prod.snd (Prod.snd (Prod.snd y1)))))); let y1f7_ := Prod.fst (Prod.snd (Prod.snd (Prod.snd (Prod.snd (Prod.snd (Prod.snd (Prod.snd y1))))))); let y1s8_ := Prod.snd (Prod.snd (Prod.snd (Prod.snd (Prod.snd (Prod.snd (Prod.snd (Prod.snd y1))))))); let y1f8_ := Prod.fst (Prod.snd (Prod.snd (Prod.snd (Prod.snd (Prod.snd (Prod.snd (Prod.snd (Prod.snd y1)))))))); let y1s9_ := Prod.snd (Prod.snd (Prod.snd (Prod.snd (Prod.snd (Prod.snd (Prod.snd (Prod.snd (Prod.snd y1)))))))); let A18_ := (↑(List.length y1f3_) : Int); let A17_ := ((↑(List.length (Prod.fst A22_)) : Int) - Prod.snd A25_); let A15_ := (Prod.snd y1s8_ + (1 : Int)); let A12_ := (Ty.ix Ty.event y1f3_ (n_ y1f6_)); let A9_ := (Prod.fst y1s6_ + (1 : Int)); let A8_ := (Prod.snd (Prod.snd (Prod.snd y21f1_))); let A7_ := (↑(List.length (Prod.snd (Prod.snd (Prod.snd y1f1_)))) : Int); let A6_ := A33_; let A5_ := (Prod.snd (Prod.snd y21s1_)); let A10_ := (Prod.snd (Prod.snd (Prod.snd A5_))); let A16_ := (Event.Pair (Ty.ix Ty.event (Prod.fst A5_) (n_ (Prod.fst A10_)))); let A3_ := A30_; let A14_ := (Prod.snd (Prod.snd A3_)); let A11_ := (Prod.fst (Prod.snd A3_)); let A2_ := (worldOk A6_ (Prod.fst A3_) A11_ A14_); let A19_ := (stepTick A2_ A6_, orI A2_ (Prod.fst A3_), stepBodies A2_ A6_ (Prod.fst A3_) A11_, stepPs A2_ A6_ (Prod.fst A3_) A11_ A14_); let A4_ := (stepEs A2_ A6_ (Prod.fst A3_) A11_ A14_); let A13_ := (↑(List.length A4_) : Int); let A20_ := (A13_ - w_ A9_); Holds (Prod.fst y1 = y21f0_ ∧ y1f1_ = y21f1_ ∧ y1f2_ = y21f2_ ∧ y1f3_ = Prod.fst A5_ ∧ y1f4_ = Prod.fst (Prod.snd A5_) ∧ y1f5_ = Prod.fst (Prod.snd (Prod.snd A5_)) ∧ y1f6_ = Prod.fst A10_ ∧ y1f7_ = Prod.fst (Prod.snd A10_) ∧ (0 : Int) ≤ y1s9_ ∧ y1s9_ ≤ (↑(List.length A8_) : Int) ∧ y1f8_ = hasP (List.take (n_ y1s9_) A8_) A16_) → ifB (decide (Prod.snd y1s8_ < A7_)) (ifB y1f8_ (Holds (Prod.fst y1 = y21f0_ ∧ y1f1_ = y21f1_ ∧ y1f2_ = y21f2_ ∧ y1f3_ = Prod.fst A5_ ∧ y1f4_ = Prod.fst (Prod.snd A5_) ∧ y1f5_ = Prod.fst (Prod.snd (Prod.snd A5_)) ∧ y1f6_ = Prod.fst A10_ ∧ y1f7_ = Prod.fst (Prod.snd A10_) ∧ (0 : Int) ≤ w_ A15_ ∧ w_ A15_ ≤ (↑(List.length A8_) : Int) ∧ true = hasP (List.take (n_ (w_ A15_)) A8_) A16_) ∧ n_ (A7_ - w_ A15_) < n_ (A7_ - y1s9_)) (((0 : Int) ≤ y1s9_ ∧ y1s9_ < A7_) ∧ ((0 : Int) ≤ y1f6_ ∧ y1f6_ < A18_) ∧ Holds (Prod.fst y1 = y21f0_ ∧ y1f1_ = y21f1_ ∧ y1f2_ = y21f2_ ∧ y1f3_ = Prod.fst A5_ ∧ y1f4_ = Prod.fst (Prod.snd A5_) ∧ y1f5_ = Prod.fst (Prod.snd (Prod.snd A5_)) ∧ y1f6_ = Prod.fst A10_ ∧ y1f7_ = Prod.fst (Prod.snd A10_) ∧ (0 : Int) ≤ w_ A15_ ∧ w_ A15_ ≤ (↑(List.length A8_) : Int) ∧ (Pair.A (Ty.ix Ty.pair (Prod.snd (Prod.snd (Prod.snd y1f1_))) (n_ y1s9_)) == Pair.A (Event.Pair A12_) && Pair.B (Ty.ix Ty.pair (Prod.snd (Prod.snd (Prod.snd y1f1_))) (n_ y1s9_)) == Pair.B (Event.Pair A12_)) = hasP (List.take (n_ (w_ A15_)) A8_) A16_) ∧ n_ (A7_ - w_ A15_) < n_ (A7_ - y1s9_))) (((0 : Int) ≤ y1f6_ ∧ y1f6_ < A18_) ∧ ((0 : Int) ≤ y1f6_ ∧ y1f6_ < (↑(List.length y1f4_) : Int)) ∧ ifB (!(Event.Begins A12_ == Event.Begins (Ty.ix Ty.event y1f4_ (n_ y1f6_)) && (Pair.A (Event.Pair A12_) == Pair.A (Event.Pair (Ty.ix Ty.event y1f4_ (n_ y1f6_))) && Pair.B (Event.Pair A12_) == Pair.B (Event.Pair (Ty.ix Ty.event y1f4_ (n_ y1f6_)))))) (Q (SV.bool false) [(false, vy_ y1f0_)]) (((0 : Int) ≤ y1f6_ ∧ y1f6_ < A18_) ∧ ifB (!y1f7_ == Event.Begins A12_) (Q (SV.bool false) [(false, vy_ y1f0_)]) (((0 : Int) ≤ y1f6_ ∧ y1f6_ < A18_) ∧ ifB (Prod.fst y1s8_ == Event.Begins A12_) (Q (SV.bool false) [(false, vy_ y1f0_)]) (ifB y1f7_ (Holds (Prod.fst y1 = b ∧ y1f1_ = Subtype.val (g_DrawWorldStep b) ∧ y1f2_ = A19_ ∧ y1f3_ = stepEs A2_ A6_ (Prod.fst A3_) A11_ A14_ ∧ y1f4_ = stepEs A2_ A6_ (Prod.fst A3_) A11_ A14_ ∧ (0 : Int) ≤ w_ A9_ ∧ w_ A9_ ≤ A13_ ∧ w_ (Prod.fst y1s5_ + (1 : Int)) + balE (List.drop (n_ (w_ A9_)) A4_) = (↑(List.length (stepPs A2_ A6_ (Prod.fst A3_) A11_ A14_)) : Int) ∧ (-1000 : Int) - A13_ + A20_ ≤ w_ (Prod.fst y1s5_ + (1 : Int)) ∧ w_ (Prod.fst y1s5_ + (1 : Int)) ≤ (1000 : Int) + A13_ - A20_) ∧ n_ (A18_ - w_ A9_) < n_ A17_) (Holds (Prod.fst y1 = b ∧ y1f1_ = Subtype.val (g_DrawWorldStep b) ∧ y1f2_ = A19_ ∧ y1f3_ = stepEs A2_ A6_ (Prod.fst A3_) A11_ A14_ ∧ y1f4_ = stepEs A2_ A6_ (Prod.fst A3_) A11_ A14_ ∧ (0 : Int) ≤ w_ A9_ ∧ w_ A9_ ≤ A13_ ∧ w_ (Prod.fst y1s5_ - (1 : Int)) + balE (List.drop (n_ (w_ A9_)) A4_) = (↑(List.length (stepPs A2_ A6_ (Prod.fst A3_) A11_ A14_)) : Int) ∧ (-1000 : Int) - A13_ + A20_ ≤ w_ (Prod.fst y1s5_ - (1 : Int)) ∧ w_ (Prod.fst y1s5_ - (1 : Int)) ≤ (1000 : Int) + A13_ - A20_) ∧ n_ (A18_ - w_ A9_) < n_ A17_))))))) ((List.length (Prod.fst A34_) ≤ (1048576 : Nat) ∧ List.length (Prod.snd A34_) ≤ (1048576 : Nat)) ∧ ifB (worldOk (Prod.fst y29f2_) (Prod.fst (Prod.snd y29f2_)) (Prod.fst A34_) (Prod.snd A34_)) (ifB (Prod.fst y29s5_ == (↑(List.length (Prod.snd A34_)) : Int)) (ifB (Prod.fst y29f2_ == w_ (Prod.fst y29f1_ + (1 : Int))) (List.length (Prod.fst (Prod.snd (Prod.snd y29f1_))) ≤ (1048576 : Nat) ∧ List.length (Prod.fst A34_) ≤ A45_ ∧ ifB (same (Prod.fst A34_) (stepOf (Prod.fst (Prod.snd (Prod.snd y29f1_))) (Prod.fst (Prod.snd y29f1_)))) (List.length (Prod.fst A34_) ≤ (1048576 : Nat) ∧ List.length (Prod.snd A34_) ≤ A45_ ∧ Q (SV.bool (same (Prod.snd A34_) (stepPairs (Prod.fst A34_)))) [A37_]) (Q (SV.bool false) [A37_])) (Q (SV.bool false) [A37_])) (Q (SV.bool false) [A37_])) (Q (SV.bool false) [A37_])))))))) := by kernel_rfl

theorem ok_lawWorldStep : FsOk Tryz.prog 9 fs_lawWorldStep := fsOk_of tt_ok (tabFs_cons ok_DrawWorldStep (tabFs_cons ok_implWorldStep (tabFs_cons ok_specWorldStep (tabFs_cons ok_lawsPqWorld (tabFs_cons ok_specWorldOk (tabFs_cons ok_implWorldOk (tabFs_cons ok_implStep (tabFs_cons ok_lawsPqBodies (tabFs_cons ok_lawsPqPairs (tabFs_cons ok_implStepPairs tabFs_nil)))))))))) mixed Tryz.func9 (by kernel_rfl) (by kernel_rfl) (by
    intro args LL p r HH h hp
    unfold fs_lawWorldStep at h
    dsimp only at h
    split at h
    case h_2 => cases h
    rename_i b
    simp only [Option.some.injEq, Prod.mk.injEq] at h
    obtain ⟨rfl, rfl, rfl⟩ := h
    refine ⟨by simp [Form, stays], (L_lawWorldStep), ?_⟩
    rw [vc_lawWorldStep]
    try dsimp only
    have hb := bytesOk_of (hp _ rfl)
    generalize g_DrawWorldStep b = z
    obtain ⟨⟨t, p, xs, ps⟩, hz⟩ := z
    simp only [worldD] at hz
    have g1 := length_stepEs t p xs ps
    dsimp only
    simp only [eqW4_self, bne_self_eq_false, beq_self_eq_true, Bool.not_true, ifBt, ifBf]
    have gB := length_stepBodies (worldOk t p xs ps) t p xs (by omega)
    have gP := length_stepPs (worldOk t p xs ps) t p xs ps (by omega)
    refine ifB_of (fun c => ⟨(by trivial), (by trivial)⟩) (fun c => ⟨hb, ⟨by omega, by omega⟩, ⟨by omega, by omega⟩, ⟨by omega, by omega⟩, ⟨by omega, by omega⟩, ifB_of (fun d => ⟨⟨by omega, by omega⟩, (by trivial), (by trivial)⟩) (fun d => ifB_of (fun e => ?_) (fun e => ?_))⟩)
    · have hW := not_false d
      obtain ⟨t0, t1, p0, p1⟩ := worldOk_t hW
      have ht : (t == 100000) = true := by
        have := of_decide_eq_true e
        exact beq_iff_eq.2 (by omega)
      simp only [stepTick, orI, stepBodies, stepPs, stepEs, hW, ht, cond_true, eqW4_self, ifBt, List.length_nil]
      exact ⟨⟨by omega, by omega⟩, (by trivial), (by trivial)⟩
    have hW := not_false d
    have hok := worldOk_bodies hW
    obtain ⟨t0, t1, p0, p1⟩ := worldOk_t hW
    have e := of_decide_eq_false e
    have ht : (t == 100000) = false := beq_eq_false_iff_ne.2 (by omega)
    have hlx := bodiesOk_len hok
    have hyk := ok_stepF hok p0 p1
    have hly := length_stepF xs p
    have hSo := stepOf_ok hok p0 p1
    simp only [stepTick, orI, stepBodies, stepPs, stepEs, hW, ht, cond_true, cond_false, hSo] at g1 gB gP ⊢
    have wt : W (t + 1) = t + 1 := W_small (by omega) (by omega)
    have hWx : worldOk (W (t + 1)) p (stepF xs p) (stepPairs (stepF xs p)) = true := by
      rw [wt]
      exact worldOk_step ⟨by omega, by omega⟩ ⟨p0, p1⟩ hyk
    have gN := length_stepPairs (stepF xs p)
    have hbal := balE_step (nodup_of (sorted_of hW)) (nodup_of (pairs_sorted (stepF xs p)))
    have hev : ∀ i, i < (stepEvs ps (stepPairs (stepF xs p))).length → hasP (stepPairs (stepF xs p)) (Ty.ix .event (stepEvs ps (stepPairs (stepF xs p))) i).Pair = (Ty.ix .event (stepEvs ps (stepPairs (stepF xs p))) i).Begins ∧ hasP ps (Ty.ix .event (stepEvs ps (stepPairs (stepF xs p))) i).Pair = !(Ty.ix .event (stepEvs ps (stepPairs (stepF xs p))) i).Begins := fun i hi => ev_in (ix_mem (T := .event) hi)
    generalize stepEvs ps (stepPairs (stepF xs p)) = ev at *
    generalize hnow : stepPairs (stepF xs p) = now at *
    refine ⟨⟨(by trivial), (by trivial), (by trivial), (by trivial), (by trivial), by omega, by omega, hbal, by omega, by omega⟩, ?_⟩
    rintro ⟨b', ⟨t', p', xs', ps'⟩, ⟨t2, p2, ys2, qs⟩, es, ts, n, i⟩ ⟨h⟩
    dsimp only at h ⊢
    obtain ⟨rfl, hwd, hwx, rfl, rfl, i0, i1, hn, n0, n1⟩ := h
    cases hwd
    cases hwx
    have wi : i < ts.length → IntKind.i64.wrap (i + 1) = i + 1 := fun _ => wrap_small (by omega) (by omega)
    refine ifB_of (fun c1 => ?_) (fun c1 => ?_)
    · have ci := of_decide_eq_true c1
      clear c1
      have wi2 := wi ci
      refine ⟨⟨(by trivial), (by trivial), (by trivial), (by trivial), (by trivial), (by trivial), (by trivial), by omega, by omega, rfl⟩, ?_⟩
      rintro ⟨b2, ⟨ta, pa, xa, qa⟩, ⟨tb, pb, xb, qb⟩, es2, ts2, n2, i2, q, k⟩ ⟨h⟩
      dsimp only at h ⊢
      obtain ⟨rfl, hwd, hwx, rfl, rfl, rfl, rfl, k0, k1, hq⟩ := h
      cases hwd
      cases hwx
      refine ifB_of (fun c2 => ?_) (fun c2 => ?_)
      · have c2 := of_decide_eq_true c2
        have w : IntKind.i64.wrap (k + 1) = k + 1 := wrap_small (by omega) (by omega)
        have e1 : (k + 1).toNat = k.toNat + 1 := by omega
        rw [w, e1, hasP_take (show k.toNat < now.length by omega)]
        exact ifB_of (fun f => ⟨⟨(by trivial), (by trivial), (by trivial), (by trivial), (by trivial), (by trivial), (by trivial), by omega, by omega, by rw [← hq, f]; rfl⟩, by omega⟩) (fun f => ⟨⟨k0, c2⟩, ⟨i0, ci⟩, ⟨(by trivial), (by trivial), (by trivial), (by trivial), (by trivial), (by trivial), (by trivial), by omega, by omega, by rw [← hq, f]; rfl⟩, by omega⟩)
      · have c2 := of_decide_eq_false c2
        rw [List.take_of_length_le (show now.length ≤ k.toNat by omega)] at hq
        clear k0 k1 c2
        refine ⟨⟨(by trivial), (by trivial), (by trivial), (by trivial), (by trivial), (by trivial), (by trivial), (by trivial), by omega, by omega, rfl⟩, ?_⟩
        rintro ⟨b3, ⟨tc, pc, xc, qc⟩, ⟨td, pd, xd, qd⟩, ts3, ts3, n3, i3, q3, u, k⟩ ⟨h⟩
        dsimp only at h ⊢
        obtain ⟨rfl, hwd, hwx, rfl, rfl, rfl, rfl, rfl, k0, k1, hu⟩ := h
        cases hwd
        cases hwx
        refine ifB_of (fun c2 => ?_) (fun c2 => ?_)
        · have c2 := of_decide_eq_true c2
          have w : IntKind.i64.wrap (k + 1) = k + 1 := wrap_small (by omega) (by omega)
          have e1 : (k + 1).toNat = k.toNat + 1 := by omega
          rw [w, e1, hasP_take (show k.toNat < ps.length by omega)]
          exact ifB_of (fun f => ⟨⟨(by trivial), (by trivial), (by trivial), (by trivial), (by trivial), (by trivial), (by trivial), (by trivial), by omega, by omega, by rw [← hu, f]; rfl⟩, by omega⟩) (fun f => ⟨⟨k0, c2⟩, ⟨i0, ci⟩, ⟨(by trivial), (by trivial), (by trivial), (by trivial), (by trivial), (by trivial), (by trivial), (by trivial), by omega, by omega, by rw [← hu, f]; rfl⟩, by omega⟩)
        · have c2 := of_decide_eq_false c2
          rw [List.take_of_length_le (show ps.length ≤ k.toNat by omega)] at hu
          obtain ⟨v1, v2⟩ := hev i3.toNat (by omega)
          rw [v1] at hq
          rw [v2] at hu
          have hub : (u == (Ty.ix .event ts3 i3.toNat).Begins) = false := by
            rw [hu]
            cases (Ty.ix .event ts3 i3.toNat).Begins <;> rfl
          have hqb : (q3 == (Ty.ix .event ts3 i3.toNat).Begins) = true := by
            rw [hq]
            exact beq_self_eq_true _
          rw [drop_ix (T := .event) (show i3.toNat < ts3.length by omega)] at hn
          have hn : n3 + ((bif (Ty.ix .event ts3 i3.toNat).Begins then 1 else -1) + balE (ts3.drop (i3.toNat + 1))) = (now.length : Int) := hn
          rw [← hq] at hn
          have w1 : IntKind.i64.wrap (n3 + 1) = n3 + 1 := wrap_small (by omega) (by omega)
          have w2 : IntKind.i64.wrap (n3 - 1) = n3 - 1 := wrap_small (by omega) (by omega)
          have e1 : (i3 + 1).toNat = i3.toNat + 1 := by omega
          rw [wi2, w1, w2, e1, hub, hqb]
          simp only [beq_self_eq_true, Bool.and_self, Bool.not_true, ifBf]
          refine ⟨⟨i0, ci⟩, ⟨i0, ci⟩, ⟨i0, ci⟩, ⟨i0, ci⟩, ifB_of (fun f => ?_) (fun f => ?_)⟩
          · rw [f] at hn
            simp only [cond_true] at hn
            exact ⟨⟨(by trivial), (by trivial), (by trivial), (by trivial), (by trivial), by omega, by omega, by omega, by omega, by omega⟩, by omega⟩
          · rw [f] at hn
            simp only [cond_false] at hn
            exact ⟨⟨(by trivial), (by trivial), (by trivial), (by trivial), (by trivial), by omega, by omega, by omega, by omega, by omega⟩, by omega⟩
    · have ci := of_decide_eq_false c1
      rw [drop_end (show ts.length ≤ i.toNat by omega)] at hn
      have hn : n + 0 = (now.length : Int) := hn
      have hnb : (n == (now.length : Int)) = true := beq_iff_eq.2 (by omega)
      rw [hWx, hnb, hSo, hnow]
      simp only [beq_self_eq_true, same_self, ifBt]
      exact ⟨⟨by omega, by omega⟩, by omega, by omega, by omega, by omega, (by trivial), (by trivial)⟩)

def LSlwo  : LS where
  S := List Int × (Int × Int × List Body × List Pair) × (Int × Int × List Body × List Pair) × (Int × Int × List Body × List Pair) × Int
  live := [(3, [none]), (4, [none]), (8, [none]), (9, [none])]
  shape := fun s => ([.ptr 3 0 0, .ptr 6 0 0, .ptr 9 0 0, .int .i64 s.2.2.2.2], [(false, .vec .byte s.1), (true, .vec .body s.2.1.2.2.1), (true, .vec .pair s.2.1.2.2.2), (true, .box [.int .i64 s.2.1.1, .int .i64 s.2.1.2.1, .vec 1, .vec 2]), (true, .vec .body s.2.2.1.2.2.1), (true, .vec .pair s.2.2.1.2.2.2), (true, .box [.int .i64 s.2.2.1.1, .int .i64 s.2.2.1.2.1, .vec 4, .vec 5]), (true, .vec .body s.2.2.2.1.2.2.1), (true, .vec .pair s.2.2.2.1.2.2.2), (true, .box [.int .i64 s.2.2.2.1.1, .int .i64 s.2.2.2.1.2.1, .vec 7, .vec 8])])
  get := fun v h => match v, h with
    | [.ptr 3 0 0, .ptr 6 0 0, .ptr 9 0 0, .int .i64 i], [(false, .vec .byte b), (true, .vec .body wd_2), (true, .vec .pair wd_3), (true, .box [.int .i64 wd_0, .int .i64 wd_1, .vec 1, .vec 2]), (true, .vec .body wa_2), (true, .vec .pair wa_3), (true, .box [.int .i64 wa_0, .int .i64 wa_1, .vec 4, .vec 5]), (true, .vec .body wx_2), (true, .vec .pair wx_3), (true, .box [.int .i64 wx_0, .int .i64 wx_1, .vec 7, .vec 8])] => some (b, (wd_0, wd_1, wd_2, wd_3), (wa_0, wa_1, wa_2, wa_3), (wx_0, wx_1, wx_2, wx_3), i)
    | _, _ => none
  inv := fun s0 s => Holds (s.1 = s0.1 ∧ s.2.1 = s0.2.1 ∧ s.2.2.1 = s0.2.2.1 ∧ -1 ≤ s.2.2.2.2 ∧ s.2.2.2.2 < s0.2.1.2.2.1.length ∧ s.2.2.2.1.1 = 0 ∧ s.2.2.2.1.2.1 = s0.2.1.2.1 ∧ s.2.2.2.1.2.2.1 = s0.2.1.2.2.1.drop (s.2.2.2.2 + 1).toNat ∧ s.2.2.2.1.2.2.2 = s0.2.1.2.2.2.take 0)
  mu := fun s => (s.2.2.2.2 + 1).toNat
  ok := by
    intro v h s hg
    try dsimp only at hg
    split at hg <;> cases hg
    rfl

def L_lawWorldOrder : Loops := fun n => match n with
  | 10 => some LSlwo
  | _ => none
noncomputable def fs_lawWorldOrder : Fs := ⟨[], fun args H => match args, H with
  | [.vec 0], [(false, .vec .byte b)] => some ((some (LOk .byte b)), .bool (true), [(false, .vec .byte b)])
  | _, _ => none⟩

theorem vc_lawWorldOrder (b : List Int) (Q : SV → List Ent → Prop) :
    fnVC tt (look [(31, fs_DrawWorldStep), (32, fs_implWorldStep), (33, fs_specWorldStep), (34, fs_lawsPqWorld), (35, fs_specWorldOk), (42, fs_implWorldNew), (43, fs_implWorldPut), (17, fs_lawsPqBodies), (37, fs_lawsPqPairs)]) (L_lawWorldOrder) Tryz.f11 [.vec 0] [(false, .vec .byte b)] Q =
    (let w_ := IntKind.wrap IntKind.i64; let vy_ := Blk.vec Ty.byte; let A18_ := (4611686018427387904 : Nat); let A11_ := (Subtype.val (g_DrawWorldStep b)); let A13_ := (Prod.fst (Prod.snd A11_)); let A12_ := (Prod.snd (Prod.snd A11_)); let A10_ := (worldOk (Prod.fst A11_) A13_ (Prod.fst A12_) (Prod.snd A12_)); let A17_ := (stepBodies A10_ (Prod.fst A11_) A13_ (Prod.fst A12_)); let A16_ := (stepPs A10_ (Prod.fst A11_) A13_ (Prod.fst A12_) (Prod.snd A12_)); let A15_ := (↑(List.length (stepEs A10_ (Prod.fst A11_) A13_ (Prod.fst A12_) (Prod.snd A12_))) : Int); let A14_ := (eqW4 (stepTick A10_ (Prod.fst A11_)) (orI A10_ A13_) A17_ A16_ (stepTick A10_ (Prod.fst A11_)) (orI A10_ A13_) A17_ A16_); ifB (decide ((↑(List.length b) : Int) > (1048576 : Int))) (Q (SV.bool true) [(false, vy_ b)]) (BytesOk b ∧ (List.length (Prod.fst A12_) ≤ (1048576 : Nat) ∧ List.length (Prod.snd A12_) ≤ (1048576 : Nat)) ∧ (List.length (Prod.fst A12_) ≤ (1048576 : Nat) ∧ List.length (Prod.snd A12_) ≤ (1048576 : Nat)) ∧ (List.length A17_ ≤ A18_ ∧ List.length A16_ ≤ A18_) ∧ ifB (!eqW4 (stepTick A10_ (Prod.fst A11_)) (orI A10_ A13_) A17_ A16_ (stepTick A10_ (Prod.fst A11_)) (orI A10_ A13_) A17_ A16_) ((List.length A17_ ≤ A18_ ∧ List.length A16_ ≤ A18_) ∧ ifB A14_ (Q (SV.bool (A15_ == A15_)) [(false, vy_ b)]) (Q (SV.bool false) [(false, vy_ b)])) (ifB (A15_ != A15_) ((List.length A17_ ≤ A18_ ∧ List.length A16_ ≤ A18_) ∧ ifB A14_ (Q (SV.bool (A15_ == A15_)) [(false, vy_ b)]) (Q (SV.bool false) [(false, vy_ b)])) ((List.length (Prod.fst A12_) ≤ (1048576 : Nat) ∧ List.length (Prod.snd A12_) ≤ (1048576 : Nat)) ∧ ifB (!worldOk (Prod.fst A11_) A13_ (Prod.fst A12_) (Prod.snd A12_)) ((List.length A17_ ≤ A18_ ∧ List.length A16_ ≤ A18_) ∧ ifB A14_ (Q (SV.bool (A15_ == A15_)) [(false, vy_ b)]) (Q (SV.bool false) [(false, vy_ b)])) (Holds (b = b ∧ Subtype.val (g_DrawWorldStep b) = Subtype.val (g_DrawWorldStep b) ∧ (stepTick A10_ (Prod.fst A11_), orI A10_ A13_, stepBodies A10_ (Prod.fst A11_) A13_ (Prod.fst A12_), stepPs A10_ (Prod.fst A11_) A13_ (Prod.fst A12_) (Prod.snd A12_)) = (stepTick A10_ (Prod.fst A11_), orI A10_ A13_, stepBodies A10_ (Prod.fst A11_) A13_ (Prod.fst A12_), stepPs A10_ (Prod.fst A11_) A13_ (Prod.fst A12_) (Prod.snd A12_)) ∧ (-1 : Int) ≤ w_ ((↑(List.length (Prod.fst A12_)) : Int) - (1 : Int)) ∧ w_ ((↑(List.length (Prod.fst A12_)) : Int) - (1 : Int)) < (↑(List.length (Prod.fst A12_)) : Int) ∧ (0 : Int) = (0 : Int) ∧ pullOf A13_ = Prod.fst (Prod.snd A11_) ∧ [] = List.drop (Int.toNat (w_ ((↑(List.length (Prod.fst A12_)) : Int) - (1 : Int)) + (1 : Int))) (Prod.fst A12_) ∧ [] = List.take (0 : Nat) (Prod.snd A12_)) ∧ ∀ (y1 : List Int × (Int × Int × List Body × List Pair) × (Int × Int × List Body × List Pair) × (Int × Int × List Body × List Pair) × Int), let y1f0_ := Prod.fst y1; let y1s1_ := Prod.snd y1; let y1f1_ := Prod.fst (Prod.snd y1); let y1f2_ := Prod.fst (Prod.snd (Prod.snd y1)); let y1s3_ := Prod.snd (Prod.snd (Prod.snd y1)); let y1f3_ := Prod.fst (Prod.snd (Prod.snd (Prod.snd y1))); let y1s4_ := Prod.snd (Prod.snd (Prod.snd (Prod.snd y1))); let A9_ := (Prod.fst (Prod.snd y1f3_)); let A8_ := (Prod.fst A11_); let A5_ := (Prod.snd (Prod.snd y1f3_)); let A3_ := (worldOk (Prod.fst y1f3_) A9_ (Prod.fst A5_) (Prod.snd A5_)); let A2_ := (Prod.snd A11_); let A7_ := (Prod.fst (Prod.snd A2_)); let A4_ := (worldOk A8_ (Prod.fst A2_) A7_ (Prod.snd (Prod.snd A2_))); let A6_ := (stepTick A4_ A8_, orI A4_ (Prod.fst A2_), stepBodies A4_ A8_ (Prod.fst A2_) A7_, stepPs A4_ A8_ (Prod.fst A2_) A7_ (Prod.snd (Prod.snd A2_))); Holds (Prod.fst y1 = b ∧ y1f1_ = Subtype.val (g_DrawWorldStep b) ∧ y1f2_ = A6_ ∧ (-1 : Int) ≤ y1s4_ ∧ y1s4_ < (↑(List.length A7_) : Int) ∧ Prod.fst y1f3_ = (0 : Int) ∧ Prod.fst (Prod.snd y1f3_) = Prod.fst A2_ ∧ Prod.fst A5_ = List.drop (Int.toNat (Prod.snd y1s3_ + (1 : Int))) A7_ ∧ Prod.snd A5_ = List.take (0 : Nat) (Prod.snd (Prod.snd A2_))) → ifB (decide (Prod.snd y1s3_ ≥ (0 : Int))) (((0 : Int) ≤ y1s4_ ∧ y1s4_ < (↑(List.length (Prod.fst (Prod.snd (Prod.snd y1f1_)))) : Int)) ∧ (List.length (Prod.fst A5_) ≤ (1048576 : Nat) ∧ List.length (Prod.snd A5_) ≤ (1048576 : Nat)) ∧ ifB (putCode A3_ (Prod.fst A5_) (Ty.ix Ty.body (Prod.fst (Prod.snd (Prod.snd y1f1_))) (Int.toNat y1s4_)) != (0 : Int)) (Q (SV.bool false) [(false, vy_ y1f0_)]) (Holds (Prod.fst y1 = b ∧ y1f1_ = Subtype.val (g_DrawWorldStep b) ∧ y1f2_ = A6_ ∧ (-1 : Int) ≤ w_ (Prod.snd y1s3_ - (1 : Int)) ∧ w_ (Prod.snd y1s3_ - (1 : Int)) < (↑(List.length A7_) : Int) ∧ orI A3_ (Prod.fst y1f3_) = (0 : Int) ∧ orI A3_ A9_ = Prod.fst A2_ ∧ orL A3_ (putBodies (Prod.fst A5_) (Ty.ix Ty.body (Prod.fst (Prod.snd (Prod.snd y1f1_))) (Int.toNat y1s4_))) = List.drop (Int.toNat (w_ (Prod.snd y1s3_ - (1 : Int)) + (1 : Int))) A7_ ∧ orL A3_ (Prod.snd A5_) = List.take (0 : Nat) (Prod.snd (Prod.snd A2_))) ∧ Int.toNat (w_ (Prod.snd y1s3_ - (1 : Int)) + (1 : Int)) < Int.toNat (Prod.snd y1s3_ + (1 : Int)))) ((List.length (Prod.fst A5_) ≤ (1048576 : Nat) ∧ List.length (Prod.snd A5_) ≤ (1048576 : Nat)) ∧ ifB (decide (Prod.fst y1f1_ ≥ (100000 : Int))) (Q (SV.bool true) [(false, vy_ y1f0_)]) (List.length (stepBodies A3_ (Prod.fst y1f3_) A9_ (Prod.fst A5_)) ≤ A18_ ∧ ifB (same (stepBodies A3_ (Prod.fst y1f3_) A9_ (Prod.fst A5_)) (Prod.fst (Prod.snd (Prod.snd y1f2_)))) (List.length (stepPs A3_ (Prod.fst y1f3_) A9_ (Prod.fst A5_) (Prod.snd A5_)) ≤ A18_ ∧ Q (SV.bool (same (stepPs A3_ (Prod.fst y1f3_) A9_ (Prod.fst A5_) (Prod.snd A5_)) (Prod.snd (Prod.snd (Prod.snd y1f2_))))) [(false, vy_ y1f0_)]) (Q (SV.bool false) [(false, vy_ y1f0_)])))))))) := by kernel_rfl

theorem ok_lawWorldOrder : FsOk Tryz.prog 11 fs_lawWorldOrder := fsOk_of tt_ok (tabFs_cons ok_DrawWorldStep (tabFs_cons ok_implWorldStep (tabFs_cons ok_specWorldStep (tabFs_cons ok_lawsPqWorld (tabFs_cons ok_specWorldOk (tabFs_cons ok_implWorldNew (tabFs_cons ok_implWorldPut (tabFs_cons ok_lawsPqBodies (tabFs_cons ok_lawsPqPairs tabFs_nil))))))))) mixed Tryz.func11 (by kernel_rfl) (by kernel_rfl) (by
    intro args LL p r HH h hp
    unfold fs_lawWorldOrder at h
    dsimp only at h
    split at h
    case h_2 => cases h
    rename_i b
    simp only [Option.some.injEq, Prod.mk.injEq] at h
    obtain ⟨rfl, rfl, rfl⟩ := h
    refine ⟨by simp [Form, stays], (L_lawWorldOrder), ?_⟩
    rw [vc_lawWorldOrder]
    try dsimp only
    have hb := bytesOk_of (hp _ rfl)
    generalize g_DrawWorldStep b = z
    obtain ⟨⟨t, p, xs, ps⟩, hz⟩ := z
    simp only [worldD] at hz
    have g1 := length_stepEs t p xs ps
    dsimp only
    simp only [eqW4_self, bne_self_eq_false, beq_self_eq_true, Bool.not_true, ifBt, ifBf]
    have gB := length_stepBodies (worldOk t p xs ps) t p xs (by omega)
    have gP := length_stepPs (worldOk t p xs ps) t p xs ps (by omega)
    refine ifB_of (fun c => ⟨(by trivial), (by trivial)⟩) (fun c => ⟨hb, ⟨by omega, by omega⟩, ⟨by omega, by omega⟩, ⟨by omega, by omega⟩, ⟨by omega, by omega⟩, ifB_of (fun d => ⟨⟨by omega, by omega⟩, (by trivial), (by trivial)⟩) (fun d => ?_)⟩)
    have hW := not_false d
    have hok := worldOk_bodies hW
    obtain ⟨t0, t1, p0, p1⟩ := worldOk_t hW
    have hlx := bodiesOk_len hok
    have hpu : pullOf p = p := by simp [pullOf, isIn, p0, p1]
    have w0 : IntKind.i64.wrap ((xs.length : Int) - 1) = xs.length - 1 := wrap_small (by omega) (by omega)
    rw [w0, hpu]
    refine ⟨⟨(by trivial), (by trivial), (by trivial), by omega, by omega, (by trivial), (by trivial), ?_, rfl⟩, ?_⟩
    · rw [show ((xs.length : Int) - 1 + 1).toNat = xs.length by omega, List.drop_length]
    rintro ⟨b', ⟨t', p', xs', ps'⟩, ⟨ta, pa, xa, qa⟩, ⟨t3, p3, ys, rs⟩, i⟩ ⟨h⟩
    dsimp only at h ⊢
    obtain ⟨rfl, hwd, hwa, i0, i1, hx1, hx2, hx3, hx4⟩ := h
    cases hwd
    cases hwa
    have hx4 : rs = [] := hx4
    subst hx1 hx2 hx3 hx4
    have hW0 : worldOk 0 p3 (xs.drop (i + 1).toNat) [] = true := worldOk_none ⟨p0, p1⟩ (ok_drop hok _)
    have hld : (xs.drop (i + 1).toNat).length = xs.length - (i + 1).toNat := List.length_drop ..
    refine ifB_of (fun c1 => ?_) (fun c1 => ?_)
    · have ci := of_decide_eq_true c1
      have hi : i.toNat < xs.length := by omega
      have w : IntKind.i64.wrap (i - 1) = i - 1 := wrap_small (by omega) (by omega)
      have e1 : (i + 1).toNat = i.toNat + 1 := by omega
      rw [e1] at hW0 hld ⊢
      obtain ⟨f1, f2⟩ := put_front hok hi
      have hpc : putCode true (xs.drop (i.toNat + 1)) (Ty.ix .body xs i.toNat) = 0 := by
        unfold putCode
        rw [bodiesOk_each hok hi, f1, decide_eq_false (show ¬ (xs.drop (i.toNat + 1)).length ≥ 12 by omega)]
        rfl
      rw [w, hW0, hpc, f2]
      simp only [bne_self_eq_false, ifBf, orI, orL, cond_true]
      refine ⟨⟨ci, by omega⟩, ⟨by omega, by simp⟩, ⟨(by trivial), (by trivial), (by trivial), by omega, by omega, (by trivial), (by trivial), ?_, rfl⟩, by omega⟩
      rw [show (i - 1 + 1).toNat = i.toNat by omega]
    · have ci := of_decide_eq_false c1
      have e1 : (i + 1).toNat = 0 := by omega
      rw [e1, List.drop_zero] at hW0 hld ⊢
      refine ⟨⟨by omega, by simp⟩, ifB_of (fun e => ⟨(by trivial), (by trivial)⟩) (fun e => ?_)⟩
      have e := of_decide_eq_false e
      have ht : (t == 100000) = false := beq_eq_false_iff_ne.2 (by omega)
      have h0 : ((0 : Int) == 100000) = false := rfl
      simp only [stepBodies, stepPs, hW, hW0, ht, h0, cond_true, cond_false, same_self, ifBt] at gB gP ⊢
      exact ⟨by omega, by omega, (by trivial), (by trivial)⟩)

end
end Go.Proofs.YtnahfbjdicjdpaaGreat.Sym

