/-
  What the rows of this claim stand on, part 9: the machine, the walks, the plain laws, as far as they are used.
  No condition.
-/
import Derived.Test.YtnahfbjdicjdpaaGreatDE8
import Derived.WalkKit
import Derived.Shelf.RegionOpenPlain
import Derived.Lib.Walk
import Derived.Lib.SliceRun
import Derived.Lib.JoinLaws
import Derived.Lib.AppendZeros
import Derived.Lib.Overlaps
import Derived.Laws.Externs
import Derived.Laws.IdiomCopy
import Derived.Lib.AppendZerosOnto
namespace Go.Proofs.YtnahfbjdicjdpaaGreat.Sym
open Go Go.Proofs
set_option linter.unusedVariables false
set_option linter.unusedSimpArgs false
/-- 'copy' where its run is known. -/
theorem wpL_copy {P : Program} (w : Go.World) {ops : Array Oper} {rest : List Oper} {o : Oper} {a : Act} {Q : Exit → Act → Go.World → Prop} (hgd : o.guard = none) (d s : Operand) (t t' : TypeId)
    (ho : o.op = .call { callee := .builtin .copy, args := #[d, s], argTypes := #[t, t'] }) (v u : Value) (hd : a.eval d = v) (hs : a.eval s = u) {v' : Value} {w' : Go.World}
    (hr : (Builtin.copy_ #[t, t'] o.type #[v, u]).run P w = .ok v' w') (h : wpList P ops Q rest (a.put o.dst v') w') : wpList P ops Q (o :: rest) a w :=
  wpList_plain hgd fun _ hK => by
    unfold Oper.wp execOp
    simp only [ho, resolve, invoke, builtin, Sem.run_bind, Sem.run_pure, Result.andThen_ok, List.map_toArray, List.map_cons, List.map_nil, hd, hs, hr]
    exact hK _ _ h
theorem stepD_copy {P : Program} {ops : Array Oper} {o : Oper} {a : Act} {w : Go.World} {K : Act → Go.World → Prop} {Q : Exit → Act → Go.World → Prop} {E : Prop}
    (hg : o.guard = none) (d x : Operand) (dT sT : TypeId) (hop : o.op = Op.call { callee := Callee.builtin Builtin.copy, args := #[d, x], argTypes := #[dT, sT] })
    (v u : Value) (hd : a.eval d = v) (hx : a.eval x = u) {v' : Value} {w' : Go.World} (hr : (Builtin.copy_ #[dT, sT] o.type #[v, u]).run P w = .ok v' w') (hK : K (a.put o.dst v') w') :
    if Region.wanted o (yielded ops a.tmps) = true then Oper.wp P o a w K Q else E := by
  have hw : Region.wanted o (yielded ops a.tmps) = true := by simp [Region.wanted, hg]
  rw [if_pos hw]
  unfold Oper.wp
  simp [execOp, hop, resolve, invoke, builtin, hd, hx, hr, Result.andThen]
  exact hK
theorem drew_heap (w : Go.World) : w.drew.heap = w.heap := rfl
theorem size_setRow (w : Go.World) (b : Nat) (cs : Array Value) : (w.setRow b cs).heap.size = w.heap.size := by simp [Go.World.setRow]
theorem cell_row {w : Go.World} {b o : Nat} {vs : Array Value} {E : TypeId} {fz : Nat × Nat} (h : w.heap[b]? = some (.cells vs E fz)) : w.cell? ⟨b, o, none⟩ = vs[o]? := cell_of h


def insL_Bodies (xs : List Body) (i : Nat) (ys : List Body) : List Body := xs.take i ++ ys ++ xs.drop i
def fs_insBodies : Fs := ⟨[true, false, true], fun args H => match args, H with
  | [.vec 0, .int .i64 i, .vec 1], [(true, .vec .body xs), (true, .vec .body ys)] => some (some (0 ≤ i ∧ i ≤ xs.length ∧ ys.length = 1 ∧ xs.length ≤ 1048576), .vec 2, [(true, .dead), (true, .vec .body ys), (true, .vec .body (insL_Bodies xs i.toNat ys))])
  | _, _ => none⟩
set_option maxHeartbeats 4000000 in
set_option maxRecDepth 100000 in
theorem insBodies_room (b off n c i vb voff vc : Nat) (row1 row2 : Array Value) (v1 v2 : Value) (w : Go.World) (hi : i < n) (hroom : n + 1 ≤ c) (hn63 : n ≤ 1048576)
    (hov : ∀ lb cb, (callFunc 122 #[.slice (some ⟨vb, voff, none⟩) 1 vc, .slice (some ⟨b, off + (i + 1) * 12, none⟩) lb cb]).run Tryz.prog w = .ok (.value (.bool false)) w)
    (hcp1 : ∀ ty dc sc, (Builtin.copy_ #[23, 23] ty #[.slice (some ⟨b, off + (i + 1) * 12, none⟩) (n - i) dc, .slice (some ⟨b, off + i * 12, none⟩) (n + 1 - i) sc]).run Tryz.prog w.drew = .ok v1 (w.drew.setRow b row1))
    (hcp2 : ∀ ty dc sc, (Builtin.copy_ #[23, 23] ty #[.slice (some ⟨b, off + i * 12, none⟩) (n + 1 - i) dc, .slice (some ⟨vb, voff, none⟩) 1 sc]).run Tryz.prog (w.drew.setRow b row1) = .ok v2 ((w.drew.setRow b row1).setRow b row2)) :
    Calls Tryz.prog 86 #[.slice (some ⟨b, off, none⟩) n c, .int .i64 i, .slice (some ⟨vb, voff, none⟩) 1 vc] w fun e w' =>
      e = .returned (.slice (some ⟨b, off, none⟩) (n + 1) c) ∧ w' = (w.drew.setRow b row1).setRow b row2 := by
  have mixed : Tryz.prog.follows .mixedOrders = true := by kernel_rfl
  have t3 : Tryz.prog.underlying 3 = some (.int .i64) := by kernel_rfl
  have t4 : Tryz.prog.underlying 4 = some .bool := by kernel_rfl
  have tL : Tryz.prog.underlying 23 = some (.slice 33) := by kernel_rfl
  have iE : (Tryz.prog.info? 33).map (·.size) = some 12 := by kernel_rfl
  have u3 := run_underlying t3; have u4 := run_underlying t4; have uL := run_underlying tL
  have zE : ∀ w, (Go.sizeOf 33).run Tryz.prog w = .ok 12 w := fun w => by
    cases hq : Tryz.prog.info? 33 with
    | none => simp [hq] at iE
    | some x => simp [hq] at iE; simp [sizeOf, typeInfo, hq, iE]
  have a3 : ∀ w, (isAgg 3).run Tryz.prog w = .ok false w := fun w => run_isAgg t3
  have a4 : ∀ w, (isAgg 4).run Tryz.prog w = .ok false w := fun w => run_isAgg t4
  have aL : ∀ w, (isAgg 23).run Tryz.prog w = .ok false w := fun w => run_isAgg tL
  have hw1 : IntKind.i64.wrap ((i : Int) + 1) = (i : Int) + 1 := by rw [IntKind.wrap_i64]; omega
  have hw2 : IntKind.i64.wrap ((n : Int) + 1) = (n : Int) + 1 := by rw [IntKind.wrap_i64]; omega
  have hz2 : ¬ ((i : Int) = (n : Int)) := by omega
  have hb1 : (0 : Int) ≤ (i : Int) + 1 := by omega
  have hin : i ≤ n := by omega
  have htn : ((i : Int) + 1).toNat = i + 1 := by omega
  have htn2 : ((n : Int) + 1).toNat = n + 1 := by omega
  have hb2 : ¬ (c = i + 1) := by omega
  have hb3 : (i : Int) ≤ (n : Int) + 1 := by omega
  have hb4 : ¬ (c = i) := by omega
  have hr1 : ¬ ((n : Int) + 1 > (c : Int)) := by omega
  go_enter Tryz.func86, Tryz.ntmps86
  go_wp2_with (simp only [hov])
  go_region_law_o (refine stepD_copy rfl _ _ 23 23 rfl _ _ (by simp [Act.eval, Act.put]) (by simp [Act.eval, Act.put]) (hcp1 _ _ _) ?_)
  go_wp2_with (refine wpL_copy _ rfl _ _ 23 23 rfl _ _ rfl rfl (hcp2 _ _ _) ?_)
  go_ret
  exact ⟨rfl, rfl⟩
set_option maxHeartbeats 4000000 in
set_option maxRecDepth 100000 in
theorem insBodies_end (base : Option Addr) (n c vb voff vc : Nat) (v' : Value) (w w' : Go.World) (hnc : n ≤ c) (hn63 : n ≤ 1048576)
    (hrun : ∀ ty, (Builtin.append_ #[23, 23] ty #[.slice base n c, .slice (some ⟨vb, voff, none⟩) 1 vc]).run Tryz.prog w = .ok v' w') :
    Calls Tryz.prog 86 #[.slice base n c, .int .i64 n, .slice (some ⟨vb, voff, none⟩) 1 vc] w fun e W => e = .returned v' ∧ W = w' := by
  have mixed : Tryz.prog.follows .mixedOrders = true := by kernel_rfl
  have t3 : Tryz.prog.underlying 3 = some (.int .i64) := by kernel_rfl
  have t4 : Tryz.prog.underlying 4 = some .bool := by kernel_rfl
  have tL : Tryz.prog.underlying 23 = some (.slice 33) := by kernel_rfl
  have iE : (Tryz.prog.info? 33).map (·.size) = some 12 := by kernel_rfl
  have u3 := run_underlying t3; have u4 := run_underlying t4; have uL := run_underlying tL
  have zE : ∀ w, (Go.sizeOf 33).run Tryz.prog w = .ok 12 w := fun w => by
    cases hq : Tryz.prog.info? 33 with
    | none => simp [hq] at iE
    | some x => simp [hq] at iE; simp [sizeOf, typeInfo, hq, iE]
  have a3 : ∀ w, (isAgg 3).run Tryz.prog w = .ok false w := fun w => run_isAgg t3
  have a4 : ∀ w, (isAgg 4).run Tryz.prog w = .ok false w := fun w => run_isAgg t4
  have aL : ∀ w, (isAgg 23).run Tryz.prog w = .ok false w := fun w => run_isAgg tL
  go_enter Tryz.func86, Tryz.ntmps86
  cases base with
  | none =>
    go_wp2_with (at_builtin; refine Lib.wpList_append_run _ rfl _ _ _ _ rfl _ _ rfl rfl _ _ (hrun _) ?_)
    all_goals (go_ret; exact ⟨rfl, rfl⟩)
  | some a =>
    obtain ⟨ab, ao, asp⟩ := a
    go_wp2_with (at_builtin; refine Lib.wpList_append_run _ rfl _ _ _ _ rfl _ _ rfl rfl _ _ (hrun _) ?_)
    all_goals (go_ret; exact ⟨rfl, rfl⟩)
set_option maxHeartbeats 4000000 in
set_option maxRecDepth 100000 in
theorem insBodies_grow (b off n c i vb voff vc g G : Nat) (v1 v2 : Value) (w A A1 A2 : Go.World) (hi : i < n) (hnc : n ≤ c) (hroom : c < n + 1) (hG : n + 1 ≤ G) (hn63 : n ≤ 1048576)
    (hrz : ∀ ty, (Builtin.append_ #[23, 3] ty #[.slice (some ⟨b, off, none⟩) i c, .int .i64 ((n : Int) + 1 - (i : Int))]).run Tryz.prog w = .ok (.slice (some ⟨g, 0, none⟩) (n + 1) G) A)
    (hcpA : ∀ ty dc sc, (Builtin.copy_ #[23, 23] ty #[.slice (some ⟨g, i * 12, none⟩) (n + 1 - i) dc, .slice (some ⟨vb, voff, none⟩) 1 sc]).run Tryz.prog A = .ok v1 A1)
    (hcpB : ∀ ty dc sc, (Builtin.copy_ #[23, 23] ty #[.slice (some ⟨g, (i + 1) * 12, none⟩) (n - i) dc, .slice (some ⟨b, off + i * 12, none⟩) (n - i) sc]).run Tryz.prog A1.drew = .ok v2 A2) :
    Calls Tryz.prog 86 #[.slice (some ⟨b, off, none⟩) n c, .int .i64 i, .slice (some ⟨vb, voff, none⟩) 1 vc] w fun e w' => e = .returned (.slice (some ⟨g, 0, none⟩) (n + 1) G) ∧ w' = A2 := by
  have mixed : Tryz.prog.follows .mixedOrders = true := by kernel_rfl
  have t3 : Tryz.prog.underlying 3 = some (.int .i64) := by kernel_rfl
  have t4 : Tryz.prog.underlying 4 = some .bool := by kernel_rfl
  have tL : Tryz.prog.underlying 23 = some (.slice 33) := by kernel_rfl
  have iE : (Tryz.prog.info? 33).map (·.size) = some 12 := by kernel_rfl
  have u3 := run_underlying t3; have u4 := run_underlying t4; have uL := run_underlying tL
  have zE : ∀ w, (Go.sizeOf 33).run Tryz.prog w = .ok 12 w := fun w => by
    cases hq : Tryz.prog.info? 33 with
    | none => simp [hq] at iE
    | some x => simp [hq] at iE; simp [sizeOf, typeInfo, hq, iE]
  have a3 : ∀ w, (isAgg 3).run Tryz.prog w = .ok false w := fun w => run_isAgg t3
  have a4 : ∀ w, (isAgg 4).run Tryz.prog w = .ok false w := fun w => run_isAgg t4
  have aL : ∀ w, (isAgg 23).run Tryz.prog w = .ok false w := fun w => run_isAgg tL
  have hw1 : IntKind.i64.wrap ((i : Int) + 1) = (i : Int) + 1 := by rw [IntKind.wrap_i64]; omega
  have hw2 : IntKind.i64.wrap ((n : Int) + 1) = (n : Int) + 1 := by rw [IntKind.wrap_i64]; omega
  have hw3 : IntKind.i64.wrap ((n : Int) + 1 - (i : Int)) = (n : Int) + 1 - (i : Int) := by rw [IntKind.wrap_i64]; omega
  have hz2 : ¬ ((i : Int) = (n : Int)) := by omega
  have hb1 : (0 : Int) ≤ (i : Int) + 1 := by omega
  have hin : i ≤ n := by omega
  have hic : i ≤ c := by omega
  have htn : ((i : Int) + 1).toNat = i + 1 := by omega
  have hb2 : ¬ (G = i + 1) := by omega
  have hb3 : (i : Int) ≤ (n : Int) + 1 := by omega
  have hb4 : ¬ (G = i) := by omega
  have hb5 : ¬ (c = i) := by omega
  have hr1 : (n : Int) + 1 > (c : Int) := by omega
  go_enter Tryz.func86, Tryz.ntmps86
  go_wp2_with (first
    | (at_builtin; refine Lib.wpList_append_run _ rfl _ _ _ _ rfl _ _ rfl rfl _ _ (hrz _) ?_)
    | (refine wpL_copy _ rfl _ _ 23 23 rfl _ _ rfl rfl (hcpA _ _ _) ?_))
  go_region_law_o (refine stepD_copy rfl _ _ 23 23 rfl _ _ (by simp [Act.eval, Act.put]) (by simp [Act.eval, Act.put]) (hcpB _ _ _) ?_)
  go_wp2
  go_ret
  exact ⟨rfl, rfl⟩
theorem ov_Bodies {w : Go.World} {b vb voff o la vc : Nat} {E E' : TypeId} {vs vs' : Array Value} (hne : vb ≠ b) (hb : w.heap[b]? = some (.cells vs E (0, 0))) (hvb : w.heap[vb]? = some (.cells vs' E' (0, 0))) (hsz : vs.size ≠ 0) (lb cb : Nat) :
    (callFunc 122 #[.slice (some ⟨vb, voff, none⟩) la vc, .slice (some ⟨b, o, none⟩) lb cb]).run Tryz.prog w = .ok (.value (.bool false)) w := by
  have tL : Tryz.prog.underlying 23 = some (.slice 33) := by kernel_rfl
  have iE : (Tryz.prog.info? 33).map (·.size) = some 12 := by kernel_rfl
  have zE : ∀ w, (Go.sizeOf 33).run Tryz.prog w = .ok 12 w := fun w => by
    cases hq : Tryz.prog.info? 33 with
    | none => simp [hq] at iE
    | some x => simp [hq] at iE; simp [sizeOf, typeInfo, hq, iE]
  rw [run_callFunc_extern Tryz.func122 (by kernel_rfl) (by kernel_rfl) (by kernel_rfl) (e := Extern.SlicesOverlaps.overlaps #[23, 23] #[4]) (by kernel_rfl),
    Lib.run_overlaps_apart w 23 4 33 tL 12 zE ⟨vb, voff, none⟩ ⟨b, o, none⟩ la vc lb cb hne E' E vs'.size vs.size (by simp [Go.World.shape?, hvb]) (by simp [Go.World.shape?, hb]) hsz (by simp [Go.World.frozen?, hvb]) (by simp [Go.World.frozen?, hvb])]
  rfl
set_option maxHeartbeats 4000000 in
set_option maxRecDepth 100000 in
theorem sem_insBodies {i : Int} {xs ys : List Body} (h0 : 0 ≤ i) (h1 : i ≤ xs.length) (hy : ys.length = 1) (hx : xs.length ≤ 1048576) :
    FSem Tryz.prog 86 [.vec 0, .int .i64 i, .vec 1] [(true, .vec .body xs), (true, .vec .body ys)] (.vec 2) [(true, .dead), (true, .vec .body ys), (true, .vec .body (insL_Bodies xs i.toNat ys))] := by
  refine ⟨by simp, ?_, ?_, ?_, ?_⟩
  · intro k b hk
    match k, hk with
    | 0, hk => simp at hk
    | 1, hk => simp at hk
    | k + 2, hk => simp at hk
  · intro k b hk
    match k, hk with
    | 0, hk => exact ⟨.dead, rfl, by cases b <;> trivial⟩
    | 1, hk => simp at hk; subst hk; exact ⟨_, rfl, stays_refl _⟩
    | k + 2, hk => simp at hk
  · intro k e hk he
    match k, hk, he with
    | 2, hk, he => simp at he; subst he; rfl
    | k + 3, hk, he => simp at he
  intro wr env w us hh hnew hc
  have c0 : ofL [(true, Blk.vec .body xs), (true, Blk.vec .body ys)] 0 = some (true, .vec .body xs) := rfl
  have c1 : ofL [(true, Blk.vec .body xs), (true, Blk.vec .body ys)] 1 = some (true, .vec .body ys) := rfl
  have c2 : ofL [(true, Blk.vec .body xs), (true, Blk.vec .body ys)] 2 = none := rfl
  match us, hc with
  | [v0, v1, v2], ⟨hv0, hv1, hv2, _⟩ =>
  simp only [conc2, concC, c0] at hv0
  simp only [conc2, concC] at hv1
  simp only [conc2, concC, c1] at hv2
  subst hv0 hv1 hv2
  obtain ⟨l0, r0⟩ := hh.blk 0 true _ c0
  obtain ⟨l1, r1⟩ := hh.blk 1 true _ c1
  rw [hy] at l1
  rcases r1 with r1 | ⟨vb, voff, vE, vvs, vfz, hvb, hvheap, hvsize, hvlies, hvfz⟩
  · omega
  have hvfz := hvfz rfl
  subst hvfz
  obtain ⟨m, rfl⟩ := Int.eq_ofNat_of_zero_le h0
  have hm : m ≤ xs.length := by omega
  have hov3 : updH (ofL [(true, Blk.vec .body xs), (true, Blk.vec .body ys)]) [(0, true, .dead), (2, true, .vec .body (insL_Bodies xs m ys))] = ofL [(true, .dead), (true, .vec .body ys), (true, .vec .body (insL_Bodies xs m ys))] := ofL_over (U := .body) (zs := xs) (ts := insL_Bodies xs m ys) (R := [(true, .vec .body ys)])
  have hzl : (insL_Bodies xs m ys).length = xs.length + 1 := by simp [insL_Bodies, hy]; omega
  have fin : ∀ {x : Option Addr × Nat} {w' : Go.World}, HRel wr (envSet env 2 x) (ofL [(true, .dead), (true, .vec .body ys), (true, .vec .body (insL_Bodies xs m ys))]) w' → Fr wr w w' →
      ∃ v env', Ending.returned (.slice x.1 (xs.length + 1) x.2) = .returned v ∧ (∀ j, j < 2 → env' j = env j) ∧ HRel wr env' (ofL [(true, .dead), (true, .vec .body ys), (true, .vec .body (insL_Bodies xs m ys))]) w' ∧
        conc env' (ofL [(true, .dead), (true, .vec .body ys), (true, .vec .body (insL_Bodies xs m ys))]) (.vec 2) v ∧ Fr wr w w' := fun {x w'} hr hf => by
    refine ⟨_, envSet env 2 x, rfl, fun j hj => by simp only [envSet]; rw [if_neg (by omega)], hr, ?_, hf⟩
    have : ofL [(true, Blk.dead), (true, .vec .body ys), (true, .vec .body (insL_Bodies xs m ys))] 2 = some (true, .vec .body (insL_Bodies xs m ys)) := rfl
    simp only [conc, conc2, concC, this, hzl, envSet, if_true]
  have tL : Tryz.prog.underlying 23 = some (.slice 33) := by kernel_rfl
  have t3 : Tryz.prog.underlying 3 = some (.int .i64) := by kernel_rfl
  have hi0 : (Tryz.prog.info? 33).map (fun i => (i.size, i.bytes, i.zero.map fun z => z.cells.size)) = some (12, 96, some 12) := by kernel_rfl
  obtain ⟨ni, hni, hsz, hby, z, hz, hzs⟩ : ∃ ni, Tryz.prog.info? 33 = some ni ∧ ni.size = 12 ∧ ni.bytes = 96 ∧ ∃ z, ni.zero = some z ∧ z.cells.size = 12 := by
    obtain ⟨ni, h1, h2⟩ := Option.map_eq_some_iff.1 hi0
    simp only [Prod.mk.injEq] at h2
    obtain ⟨z, h3, h4⟩ := Option.map_eq_some_iff.1 h2.2.2
    exact ⟨ni, h1, h2.1, h2.2.1, z, h3, h4⟩
  have hszk : (Tryz.prog.info? 33).map (·.size) = some 12 := by rw [hni, Option.map_some, hsz]
  have hyc : ∀ q v, (flat .body ys)[q]? = some v → w.cell? ⟨vb, voff + q, none⟩ = some v := fun q v hq => by
    rw [cell_row hvheap]
    exact lies_flat.1 hvlies q v hq
  have hyl : (flat .body ys).length = 12 := by
    have := flat_length .body ys
    rw [hy] at this
    simpa [Ty.sz] using this
  have hxl : (flat .body (xs.drop m)).length = (xs.length - m) * 12 := by
    have := flat_length .body (xs.drop m)
    rw [List.length_drop] at this
    exact this
  rw [hy, hvb]
  by_cases he : m = xs.length
  · subst he
    have hz0 : insL_Bodies xs xs.length ys = xs ++ ys := by simp [insL_Bodies]
    obtain ⟨v, w', hrun, env', x1, x2, x3, x4⟩ := append_good (P := Tryz.prog) (U := .body) (ty := 23) hh hnew tL hni hsz hz hzs c0 c2 (ys := ys) (u := .slice (some ⟨vb, voff, none⟩) ys.length (env 1).2) ⟨_, _, rfl, fun _ => ⟨vb, voff, rfl, hyc⟩⟩ (by omega) (by rw [hy, hby]; unfold room; omega)
    rw [hy] at hrun
    have hw := insBodies_end (env 0).1 xs.length (env 0).2 vb voff (env 1).2 v w w' l0 hx (fun ty => by exact hrun)
    refine hw.mono ?_
    rintro e W ⟨rfl, rfl⟩
    rw [← hz0] at x2 x4
    rw [hov3] at x2 x4
    refine ⟨v, env', rfl, fun j hj => ?_, x2, x4, x3⟩
    match j, hj with
    | 0, _ => exact (x1.same 0 _ _ c0).1
    | 1, _ => exact (x1.same 1 _ _ c1).1
  have hlt : m < xs.length := by omega
  rcases r0 with r0 | ⟨b, off, E, vs, fz, hb, hheap, hsize, hlies, hfz⟩
  · omega
  have hfz := hfz rfl
  subst hfz
  have hsize : off + (env 0).2 * 12 ≤ vs.size := hsize
  have hne : vb ≠ b := fun e => by
    subst e
    refine hh.dj 0 1 true _ true _ (by omega) c0 c1 (.inl rfl) vb ?_ ?_
    · simp only [own]; rw [if_neg (by omega), hb]; rfl
    · simp only [own]; rw [if_neg (by omega), hvb]; rfl
  have hxc : ∀ q v, (flat .body (xs.drop m))[q]? = some v → vs[off + m * 12 + q]? = some v := fun q v hq => by
    have h1 : (flat .body xs)[m * 12 + q]? = some v := by
      rw [flat_drop, List.getElem?_drop] at hq
      exact hq
    have := lies_flat.1 hlies _ _ h1
    rw [← this]
    congr 1
    omega
  have hmul : (m + 1) * 12 = m * 12 + 12 := by omega
  rw [hb]
  by_cases hroom : xs.length + 1 ≤ (env 0).2
  · have hk := lies_insert (U := .body) (ys := ys) (i := m) hlies hm (by rw [hy]; change off + (xs.length + 1) * 12 ≤ vs.size; omega)
    have hsub : (xs.length - m) * 12 + m * 12 = xs.length * 12 := by rw [← Nat.add_mul]; congr 1; omega
    obtain ⟨row1, hrow1⟩ : ∃ row1 : Array Value, row1 = (vs.toList.take (off + (m + 1) * 12) ++ flat .body (xs.drop m) ++ vs.toList.drop (off + (m + 1) * 12 + (flat .body (xs.drop m)).length)).toArray := ⟨_, rfl⟩
    obtain ⟨row2, hrow2⟩ : ∃ row2 : Array Value, row2 = (row1.toList.take (off + m * 12) ++ flat .body ys ++ row1.toList.drop (off + m * 12 + (flat .body ys).length)).toArray := ⟨_, rfl⟩
    have hs1 : row1.size = vs.size := by
      rw [hrow1]
      simp only [List.size_toArray, List.length_append, List.length_take, List.length_drop, hxl, Array.length_toList]
      omega
    have hs2 : row2.size = vs.size := by
      rw [hrow2]
      simp only [List.size_toArray, List.length_append, List.length_take, List.length_drop, hyl, Array.length_toList, hs1]
      omega
    have hlies2 : Lies .body (insL_Bodies xs m ys) row2 off := by
      rw [hrow2, hrow1]
      rw [hy] at hk
      exact hk
    have hcp1 : ∀ ty dc sc, (Builtin.copy_ #[23, 23] ty #[.slice (some ⟨b, off + (m + 1) * 12, none⟩) (xs.length - m) dc, .slice (some ⟨b, off + m * 12, none⟩) (xs.length + 1 - m) sc]).run Tryz.prog w.drew = .ok (goInt (Nat.min (xs.length + 1 - m) (xs.length - m))) (w.drew.setRow b row1) := fun ty dc sc => by
      rw [hrow1]
      exact run_copy_row_k w.drew 23 23 ty 33 b (off + (m + 1) * 12) (xs.length - m) dc ⟨b, off + m * 12, none⟩ (xs.length + 1 - m) sc 12 vs E (flat .body (xs.drop m)) tL hszk hheap
        (by rw [hxl]; congr 1; exact (Nat.min_eq_right (by omega)).symm) (fun q v hq => by rw [add_addr, cell_row (w := w.drew) hheap]; exact hxc q v hq) (by rw [hxl]; omega) (flat_one _ _)
    have hg1 : (w.drew.setRow b row1).heap[b]? = some (.cells row1 E (0, 0)) := setRow_heap w.drew b vs row1 E (0, 0) hheap
    have hcp2 : ∀ ty dc sc, (Builtin.copy_ #[23, 23] ty #[.slice (some ⟨b, off + m * 12, none⟩) (xs.length + 1 - m) dc, .slice (some ⟨vb, voff, none⟩) 1 sc]).run Tryz.prog (w.drew.setRow b row1) = .ok (goInt (Nat.min 1 (xs.length + 1 - m))) ((w.drew.setRow b row1).setRow b row2) := fun ty dc sc => by
      rw [hrow2]
      exact run_copy_row_k (w.drew.setRow b row1) 23 23 ty 33 b (off + m * 12) (xs.length + 1 - m) dc ⟨vb, voff, none⟩ 1 sc 12 row1 E (flat .body ys) tL hszk hg1
        (by rw [hyl, show Nat.min 1 (xs.length + 1 - m) = 1 from Nat.min_eq_left (by omega)]) (fun q v hq => by
          rw [add_addr]
          have : (w.drew.setRow b row1).heap[vb]? = some (.cells vvs vE (0, 0)) := by rw [setRow_other w.drew b vb row1 hne]; exact hvheap
          rw [cell_row this]
          exact lies_flat.1 hvlies q v hq) (by rw [hyl]; omega) (flat_one _ _)
    have hw := insBodies_room b off xs.length (env 0).2 m vb voff (env 1).2 row1 row2 _ _ w hlt hroom hx (fun lb cb => ov_Bodies hne hheap hvheap (by omega) lb cb) hcp1 hcp2
    refine hw.mono ?_
    rintro e W ⟨rfl, rfl⟩
    have := over_inplace (w' := (w.drew.setRow b row1).setRow b row2) hh c0 c2 hnew (row := row2) hb (by omega) (fun y hy => by rw [setRow_other _ b y _ hy, setRow_other _ b y _ hy]; rfl) (setRow_heap _ b row1 row2 E (0, 0) hg1) (by change off + (env 0).2 * 12 ≤ row2.size; omega) (by rw [hzl]; exact hroom) hlies2 rfl rfl rfl ((size_setRow _ b row2).trans (size_setRow w.drew b row1))
    rw [hov3] at this
    have := fin this.2.1 this.2.2
    rw [hb] at this
    exact this
  · have hold : (Builtin.firstCells ni.size m (.slice (some ⟨b, off, none⟩) m (env 0).2)).run Tryz.prog w.drew = .ok (flat .body (xs.take m)).toArray w.drew := by
      rw [hsz]
      refine run_firstCells_some w.drew 12 m ⟨b, off, none⟩ m (env 0).2 (flat .body (xs.take m)) (by rw [flat_length, List.length_take, Nat.min_eq_left hm]; rfl) (fun q v hq => ?_)
      have hql : q < m * 12 := by
        have := (List.getElem?_eq_some_iff.1 hq).1
        rw [flat_length, List.length_take, Nat.min_eq_left hm] at this
        exact this
      rw [flat_get_take hql] at hq
      rw [add_addr, cell_row (w := w.drew) hheap]
      exact lies_flat.1 hlies q v hq
    have hfit := growslice_fits (need := xs.length + 1) (old := (env 0).2) (bytes := ni.bytes) (by omega) (by rw [hby]; omega)
    have hrz := fun ty => Lib.run_append_grow_zeros (P := Tryz.prog) w 23 3 ty 33 ni z .i64 .i64 tL t3 hni hz (some ⟨b, off, none⟩) m (env 0).2 (flat .body (xs.take m)) hold (xs.length + 1 - m) (by omega) (by omega) (by omega) (by omega) (by rw [hby]; omega) (by rw [show m + (xs.length + 1 - m) = xs.length + 1 by omega]; exact hfit)
    rw [show m + (xs.length + 1 - m) = xs.length + 1 by omega, show ((xs.length + 1 - m : Nat) : Int) = (xs.length : Int) + 1 - (m : Int) by omega] at hrz
    have hG := grownCap_need (w := w) (xs.length + 1) (env 0).2 33
    obtain ⟨G, hGe⟩ : ∃ G, G = grownCap w (xs.length + 1) (env 0).2 33 := ⟨_, rfl⟩
    rw [← hGe] at hG hrz
    obtain ⟨rest, hrest⟩ : ∃ rest : Array Value, rest = Builtin.zeroCells z.cells (xs.length + 1 - m) ++ Builtin.zeroCells z.cells (G - (xs.length + 1)) := ⟨_, rfl⟩
    obtain ⟨ROW, hROW⟩ : ∃ ROW : Array Value, ROW = (flat .body (xs.take m)).toArray ++ Builtin.zeroCells z.cells (xs.length + 1 - m) ++ Builtin.zeroCells z.cells (G - (xs.length + 1)) := ⟨_, rfl⟩
    rw [← hROW] at hrz
    have hsub : (xs.length - m) * 12 + m * 12 = xs.length * 12 := by rw [← Nat.add_mul]; congr 1; omega
    have htl : (flat .body (xs.take m)).length = m * 12 := by rw [flat_length, List.length_take, Nat.min_eq_left hm]; rfl
    have hRs : ROW.size = G * 12 := by
      rw [hROW]
      simp only [Array.size_append, List.size_toArray, htl, size_zeroCells, hzs]
      rw [← Nat.add_mul, ← Nat.add_mul]
      congr 1
      omega
    have hRl : ROW.toList = flat .body (xs.take m) ++ rest.toList := by rw [hROW, hrest]; simp
    have hk := lies_grow (U := .body) (ys := ys) (i := m) hRl hm (by rw [hy, hRs]; exact Nat.mul_le_mul_right _ hG)
    obtain ⟨row1, hrow1⟩ : ∃ row1 : Array Value, row1 = (ROW.toList.take (m * 12) ++ flat .body ys ++ ROW.toList.drop (m * 12 + (flat .body ys).length)).toArray := ⟨_, rfl⟩
    obtain ⟨row2, hrow2⟩ : ∃ row2 : Array Value, row2 = (row1.toList.take ((m + 1) * 12) ++ flat .body (xs.drop m) ++ row1.toList.drop ((m + 1) * 12 + (flat .body (xs.drop m)).length)).toArray := ⟨_, rfl⟩
    have hGm : (xs.length + 1) * 12 ≤ G * 12 := Nat.mul_le_mul_right _ hG
    have hs1 : row1.size = ROW.size := by
      rw [hrow1]
      simp only [List.size_toArray, List.length_append, List.length_take, List.length_drop, hyl, Array.length_toList]
      omega
    have hs2 : row2.size = ROW.size := by
      rw [hrow2]
      simp only [List.size_toArray, List.length_append, List.length_take, List.length_drop, hxl, Array.length_toList, hs1]
      omega
    have hlies2 : Lies .body (insL_Bodies xs m ys) row2 0 := by
      rw [hrow2, hrow1]
      rw [hy] at hk
      exact hk
    have hbN : b < w.heap.size := (Array.getElem?_eq_some_iff.1 hheap).1
    have hvN : vb < w.heap.size := (Array.getElem?_eq_some_iff.1 hvheap).1
    obtain ⟨A, hA⟩ : ∃ A, A = w.drew.alloc (.cells ROW 33) := ⟨_, rfl⟩
    rw [← hA] at hrz
    have hAN : A.heap[w.heap.size]? = some (.cells ROW 33 (0, 0)) := by rw [hA]; exact Array.getElem?_push_size
    have hAo : ∀ y, y < w.heap.size → A.heap[y]? = w.heap[y]? := fun y hy => by
      rw [hA]
      have : (w.drew.alloc (.cells ROW 33)).heap = w.heap.push (.cells ROW 33) := rfl
      rw [this, Array.getElem?_push, if_neg (by omega)]
    have hcpA : ∀ ty dc sc, (Builtin.copy_ #[23, 23] ty #[.slice (some ⟨w.heap.size, m * 12, none⟩) (xs.length + 1 - m) dc, .slice (some ⟨vb, voff, none⟩) 1 sc]).run Tryz.prog A = .ok (goInt (Nat.min 1 (xs.length + 1 - m))) (A.setRow w.heap.size row1) := fun ty dc sc => by
      rw [hrow1]
      exact run_copy_row_k A 23 23 ty 33 w.heap.size (m * 12) (xs.length + 1 - m) dc ⟨vb, voff, none⟩ 1 sc 12 ROW 33 (flat .body ys) tL hszk hAN
        (by rw [hyl, show Nat.min 1 (xs.length + 1 - m) = 1 from Nat.min_eq_left (by omega)]) (fun q v hq => by
          rw [add_addr, cell_row ((hAo vb hvN).trans hvheap)]
          exact lies_flat.1 hvlies q v hq) (by rw [hyl, hRs]; omega) (flat_one _ _)
    have hg1 : (A.setRow w.heap.size row1).drew.heap[w.heap.size]? = some (.cells row1 33 (0, 0)) := setRow_heap A w.heap.size ROW row1 33 (0, 0) hAN
    have hcpB : ∀ ty dc sc, (Builtin.copy_ #[23, 23] ty #[.slice (some ⟨w.heap.size, (m + 1) * 12, none⟩) (xs.length - m) dc, .slice (some ⟨b, off + m * 12, none⟩) (xs.length - m) sc]).run Tryz.prog (A.setRow w.heap.size row1).drew = .ok (goInt (Nat.min (xs.length - m) (xs.length - m))) ((A.setRow w.heap.size row1).drew.setRow w.heap.size row2) := fun ty dc sc => by
      rw [hrow2]
      exact run_copy_row_k (A.setRow w.heap.size row1).drew 23 23 ty 33 w.heap.size ((m + 1) * 12) (xs.length - m) dc ⟨b, off + m * 12, none⟩ (xs.length - m) sc 12 row1 33 (flat .body (xs.drop m)) tL hszk hg1
        (by rw [hxl]; congr 1; exact (Nat.min_self _).symm) (fun q v hq => by
          have : (A.setRow w.heap.size row1).drew.heap[b]? = some (.cells vs E (0, 0)) := by
            have := setRow_other A w.heap.size b row1 (by omega)
            exact this.trans ((hAo b hbN).trans hheap)
          rw [add_addr, cell_row this]
          exact hxc q v hq) (by rw [hxl, hs1, hRs]; omega) (flat_one _ _)
    have hw := insBodies_grow b off xs.length (env 0).2 m vb voff (env 1).2 w.heap.size G _ _ w A _ _ hlt l0 (by omega) hG hx hrz hcpA hcpB
    refine hw.mono ?_
    rintro e W ⟨rfl, rfl⟩
    have hAsz : A.heap.size = w.heap.size + 1 := by rw [hA]; exact Array.size_push _
    have := over_new (w' := (A.setRow w.heap.size row1).drew.setRow w.heap.size row2) hh c0 c2 hnew (gc := G) (row := row2)
      (fun y hy => by
        have e1 := setRow_other (A.setRow w.heap.size row1).drew w.heap.size y row2 (by omega)
        have e2 := setRow_other A w.heap.size y row1 (by omega)
        exact e1.trans (e2.trans (hAo y hy)))
      (setRow_heap _ w.heap.size row1 row2 33 (0, 0) hg1) (by change G * 12 ≤ row2.size; omega) (by rw [hzl]; exact hG) hlies2 (by rw [hA]; rfl) (by rw [hA]; rfl) (by rw [hA]; rfl) (by rw [size_setRow, drew_heap, size_setRow, hAsz]; omega)
    rw [hov3] at this
    exact fin this.2.1 this.2.2
theorem ok_insBodies : FsOk Tryz.prog 86 fs_insBodies := by
  refine ⟨fun w args => run_callFunc Tryz.func86 (by kernel_rfl) (by kernel_rfl) w args, ?_⟩
  intro args L p r L' h hp
  unfold fs_insBodies at h
  dsimp only at h
  split at h
  case h_2 => cases h
  rename_i i xs ys
  simp only [Option.some.injEq, Prod.mk.injEq] at h
  obtain ⟨rfl, rfl, rfl⟩ := h
  obtain ⟨h0, h1, h2, h3⟩ := hp _ rfl
  exact sem_insBodies h0 h1 h2 h3
end Go.Proofs.YtnahfbjdicjdpaaGreat.Sym

namespace Go.Proofs.YtnahfbjdicjdpaaGreat.Sym
open Go
set_option linter.unusedVariables false
set_option linter.unusedSimpArgs false
set_option maxRecDepth 100000

def insB (xs : List Body) (k : Nat) (b : Body) : List Body := xs.take k ++ [b] ++ xs.drop k
def putCode (ok : Bool) (xs : List Body) (b : Body) : Int := bif ok && bodyOk b then bif hasB xs b.Id then 2 else bif decide (xs.length ≥ 12) then 3 else 0 else 1
def putBodies (xs : List Body) (b : Body) : List Body := bif bodyOk b && !hasB xs b.Id && !decide (xs.length ≥ 12) then insB xs (atB xs b.Id) b else xs
theorem take_restB (xs : List Body) (k : Nat) : List.take (xs.length - k) (List.drop k xs) = xs.drop k := List.take_of_length_le (by simp)
theorem worldOk_len {t p : Int} {xs : List Body} {ps : List Pair} (h : worldOk t p xs ps = true) : xs.length ≤ 12 := by
  simp only [worldOk, Bool.and_eq_true] at h
  exact bodiesOk_len h.1.2
noncomputable def fs_specWorldPut : Fs := ⟨[], fun args H => match args, H with
  | [.agg [.int .i64 t, .int .i64 p, .vec 0, .vec 1], .agg [.int .i64 aI, .int .i64 aK, .int .i64 aW, .int .i64 aH, .int .i64 aX, .int .i64 aY, .int .i64 aU, .int .i64 aV, .int .i64 aM, .int .i64 aB, .int .i64 aR, .int .i64 aQ]], [(false, .vec .body xs), (false, .vec .pair ps)] => some ((some (xs.length ≤ 1048576 ∧ ps.length ≤ 1048576)), .tup [.agg [.int .i64 (orI (worldOk t p xs ps) t), .int .i64 (orI (worldOk t p xs ps) p), .vec 2, .vec 3], .int .i64 (putCode (worldOk t p xs ps) xs ⟨aI, ⟨aK, aW, aH⟩, ⟨aX, aY⟩, ⟨aU, aV⟩, aM, aB, aR, aQ⟩)], [(false, .vec .body xs), (false, .vec .pair ps), (true, .vec .body (orL (worldOk t p xs ps) (putBodies xs ⟨aI, ⟨aK, aW, aH⟩, ⟨aX, aY⟩, ⟨aU, aV⟩, aM, aB, aR, aQ⟩))), (true, .vec .pair (orL (worldOk t p xs ps) ps))])
  | _, _ => none⟩

theorem vc_specWorldPut (t : Int) (p : Int) (xs : List Body) (ps : List Pair) (aI : Int) (aK : Int) (aW : Int) (aH : Int) (aX : Int) (aY : Int) (aU : Int) (aV : Int) (aM : Int) (aB : Int) (aR : Int) (aQ : Int) (Q : SV → List Ent → Prop) :
    fnVC tt (look [(35, fs_specWorldOk), (78, fs_l10At), (68, fs_specBodyOk), (75, fs_specCopyW)]) L0 Tryz.f45 [.agg [.int .i64 t, .int .i64 p, .vec 0, .vec 1], .agg [.int .i64 aI, .int .i64 aK, .int .i64 aW, .int .i64 aH, .int .i64 aX, .int .i64 aY, .int .i64 aU, .int .i64 aV, .int .i64 aM, .int .i64 aB, .int .i64 aR, .int .i64 aQ]] [(false, .vec .body xs), (false, .vec .pair ps)] Q =
    ((List.length xs ≤ (1048576 : Nat) ∧ List.length ps ≤ (1048576 : Nat)) ∧ ifB (!worldOk t p xs ps) (Q (SV.tup [SV.agg [SV.int IntKind.i64 (0 : Int), SV.int IntKind.i64 (0 : Int), SV.vec (2 : Nat), SV.vec (3 : Nat)], SV.int IntKind.i64 (1 : Int)]) [(false, Blk.vec Ty.body xs), (false, Blk.vec Ty.pair ps), (true, Blk.vec Ty.body []), (true, Blk.vec Ty.pair [])]) (List.length xs ≤ (4611686018427387904 : Nat) ∧ ifB (!bodyOk (Body.mk aI (Shape.mk aK aW aH) (Vec.mk aX aY) (Vec.mk aU aV) aM aB aR aQ)) ((List.length xs ≤ (1048576 : Nat) ∧ List.length ps ≤ (1048576 : Nat)) ∧ Q (SV.tup [SV.agg [SV.int IntKind.i64 t, SV.int IntKind.i64 p, SV.vec (2 : Nat), SV.vec (3 : Nat)], SV.int IntKind.i64 (1 : Int)]) [(false, Blk.vec Ty.body xs), (false, Blk.vec Ty.pair ps), (true, Blk.vec Ty.body xs), (true, Blk.vec Ty.pair ps)]) (ifB (hasB xs aI) ((List.length xs ≤ (1048576 : Nat) ∧ List.length ps ≤ (1048576 : Nat)) ∧ Q (SV.tup [SV.agg [SV.int IntKind.i64 t, SV.int IntKind.i64 p, SV.vec (2 : Nat), SV.vec (3 : Nat)], SV.int IntKind.i64 (2 : Int)]) [(false, Blk.vec Ty.body xs), (false, Blk.vec Ty.pair ps), (true, Blk.vec Ty.body xs), (true, Blk.vec Ty.pair ps)]) (ifB (decide ((↑(List.length xs) : Int) ≥ (12 : Int))) ((List.length xs ≤ (1048576 : Nat) ∧ List.length ps ≤ (1048576 : Nat)) ∧ Q (SV.tup [SV.agg [SV.int IntKind.i64 t, SV.int IntKind.i64 p, SV.vec (2 : Nat), SV.vec (3 : Nat)], SV.int IntKind.i64 (3 : Int)]) [(false, Blk.vec Ty.body xs), (false, Blk.vec Ty.pair ps), (true, Blk.vec Ty.body xs), (true, Blk.vec Ty.pair ps)]) ((List.length xs ≤ (1048576 : Nat) ∧ List.length ps ≤ (1048576 : Nat)) ∧ ((0 : Int) ≤ (↑(atB xs aI) : Int) ∧ (↑(atB xs aI) : Int) ≤ (↑(List.length xs) : Int)) ∧ ((0 : Nat) + List.length (List.take (Int.toNat (↑(atB xs aI) : Int)) (List.drop (0 : Nat) xs))) * (96 : Nat) ≤ room ∧ (List.length ([] ++ List.take (Int.toNat (↑(atB xs aI) : Int)) (List.drop (0 : Nat) xs)) + List.length [Body.mk aI (Shape.mk aK aW aH) (Vec.mk aX aY) (Vec.mk aU aV) aM aB aR aQ]) * (96 : Nat) ≤ room ∧ ((0 : Int) ≤ (↑(atB xs aI) : Int) ∧ (↑(atB xs aI) : Int) ≤ (↑(List.length xs) : Int)) ∧ (List.length ([] ++ List.take (Int.toNat (↑(atB xs aI) : Int)) (List.drop (0 : Nat) xs) ++ [Body.mk aI (Shape.mk aK aW aH) (Vec.mk aX aY) (Vec.mk aU aV) aM aB aR aQ]) + List.length (List.take (List.length xs - Int.toNat (↑(atB xs aI) : Int)) (List.drop (Int.toNat (↑(atB xs aI) : Int)) xs))) * (96 : Nat) ≤ room ∧ Q (SV.tup [SV.agg [SV.int IntKind.i64 t, SV.int IntKind.i64 p, SV.vec (2 : Nat), SV.vec (3 : Nat)], SV.int IntKind.i64 (0 : Int)]) [(false, Blk.vec Ty.body xs), (false, Blk.vec Ty.pair ps), (true, Blk.vec Ty.body ([] ++ List.take (Int.toNat (↑(atB xs aI) : Int)) (List.drop (0 : Nat) xs) ++ [Body.mk aI (Shape.mk aK aW aH) (Vec.mk aX aY) (Vec.mk aU aV) aM aB aR aQ] ++ List.take (List.length xs - Int.toNat (↑(atB xs aI) : Int)) (List.drop (Int.toNat (↑(atB xs aI) : Int)) xs))), (true, Blk.vec Ty.pair ps)]))))) := by kernel_rfl

theorem ok_specWorldPut : FsOk Tryz.prog 45 fs_specWorldPut := fsOk_of tt_ok (tabFs_cons ok_specWorldOk (tabFs_cons ok_l10At (tabFs_cons ok_specBodyOk (tabFs_cons ok_specCopyW tabFs_nil)))) mixed Tryz.func45 (by kernel_rfl) (by kernel_rfl) (by
    intro args LL p r HH h hp
    unfold fs_specWorldPut at h
    dsimp only at h
    split at h
    case h_2 => cases h
    rename_i t p aI aK aW aH aX aY aU aV aM aB aR aQ xs ps
    simp only [Option.some.injEq, Prod.mk.injEq] at h
    obtain ⟨rfl, rfl, rfl⟩ := h
    refine ⟨by simp [Form, stays], L0, ?_⟩
    rw [vc_specWorldPut]
    try dsimp only
    obtain ⟨hb, hb2⟩ := hp _ rfl
    have hk := atB_le xs aI
    refine ⟨⟨hb, hb2⟩, ifB_of (fun c => ?_) (fun c => ⟨by omega, ifB_of (fun c2 => ⟨⟨hb, hb2⟩, ?_⟩) (fun c2 => ifB_of (fun c3 => ⟨⟨hb, hb2⟩, ?_⟩) (fun c3 => ifB_of (fun c4 => ⟨⟨hb, hb2⟩, ?_⟩) (fun c4 => ⟨⟨hb, hb2⟩, ?_⟩)))⟩)⟩
    · simp [orI, orL, putCode, putBodies, not_true c]
    · simp [orI, orL, putCode, putBodies, not_false c, not_true c2]
    · simp [orI, orL, putCode, putBodies, not_false c, not_false c2, c3]
    · have c4 := of_decide_eq_true c4
      simp [orI, orL, putCode, putBodies, not_false c, not_false c2, c3, show xs.length ≥ 12 by omega]
    · have c4 := of_decide_eq_false c4
      simp only [Int.toNat_natCast, List.drop_zero, take_restB, List.length_take, List.length_drop, List.length_append, List.length_nil, List.length_cons, room]
      refine ⟨⟨by omega, by omega⟩, by omega, by omega, ⟨by omega, by omega⟩, by omega, ?_⟩
      simp [orI, orL, putCode, putBodies, insB, not_false c, not_false c2, c3, show ¬ xs.length ≥ 12 by omega])

noncomputable def fs_implWorldPut : Fs := ⟨[], fun args H => match args, H with
  | [.agg [.int .i64 t, .int .i64 p, .vec 0, .vec 1], .agg [.int .i64 aI, .int .i64 aK, .int .i64 aW, .int .i64 aH, .int .i64 aX, .int .i64 aY, .int .i64 aU, .int .i64 aV, .int .i64 aM, .int .i64 aB, .int .i64 aR, .int .i64 aQ]], [(false, .vec .body xs), (false, .vec .pair ps)] => some ((some (xs.length ≤ 1048576 ∧ ps.length ≤ 1048576)), .tup [.agg [.int .i64 (orI (worldOk t p xs ps) t), .int .i64 (orI (worldOk t p xs ps) p), .vec 2, .vec 3], .int .i64 (putCode (worldOk t p xs ps) xs ⟨aI, ⟨aK, aW, aH⟩, ⟨aX, aY⟩, ⟨aU, aV⟩, aM, aB, aR, aQ⟩)], [(false, .vec .body xs), (false, .vec .pair ps), (true, .vec .body (orL (worldOk t p xs ps) (putBodies xs ⟨aI, ⟨aK, aW, aH⟩, ⟨aX, aY⟩, ⟨aU, aV⟩, aM, aB, aR, aQ⟩))), (true, .vec .pair (orL (worldOk t p xs ps) ps))])
  | _, _ => none⟩

theorem vc_implWorldPut (t : Int) (p : Int) (xs : List Body) (ps : List Pair) (aI : Int) (aK : Int) (aW : Int) (aH : Int) (aX : Int) (aY : Int) (aU : Int) (aV : Int) (aM : Int) (aB : Int) (aR : Int) (aQ : Int) (Q : SV → List Ent → Prop) :
    fnVC tt (look [(36, fs_implWorldOk), (73, fs_implCopyW), (80, fs_place), (66, fs_implBodyOk), (86, fs_insBodies)]) L0 Tryz.f43 [.agg [.int .i64 t, .int .i64 p, .vec 0, .vec 1], .agg [.int .i64 aI, .int .i64 aK, .int .i64 aW, .int .i64 aH, .int .i64 aX, .int .i64 aY, .int .i64 aU, .int .i64 aV, .int .i64 aM, .int .i64 aB, .int .i64 aR, .int .i64 aQ]] [(false, .vec .body xs), (false, .vec .pair ps)] Q =
    ((List.length xs ≤ (1048576 : Nat) ∧ List.length ps ≤ (1048576 : Nat)) ∧ ifB (!worldOk t p xs ps) (Q (SV.tup [SV.agg [SV.int IntKind.i64 (0 : Int), SV.int IntKind.i64 (0 : Int), SV.vec (2 : Nat), SV.vec (3 : Nat)], SV.int IntKind.i64 (1 : Int)]) [(false, Blk.vec Ty.body xs), (false, Blk.vec Ty.pair ps), (true, Blk.vec Ty.body []), (true, Blk.vec Ty.pair [])]) ((List.length xs ≤ (1048576 : Nat) ∧ List.length ps ≤ (1048576 : Nat)) ∧ List.length xs ≤ (4611686018427387904 : Nat) ∧ ifB (!bodyOk (Body.mk aI (Shape.mk aK aW aH) (Vec.mk aX aY) (Vec.mk aU aV) aM aB aR aQ)) (Q (SV.tup [SV.agg [SV.int IntKind.i64 t, SV.int IntKind.i64 p, SV.vec (2 : Nat), SV.vec (3 : Nat)], SV.int IntKind.i64 (1 : Int)]) [(false, Blk.vec Ty.body xs), (false, Blk.vec Ty.pair ps), (true, Blk.vec Ty.body xs), (true, Blk.vec Ty.pair ps)]) (ifB (hasB xs aI) (Q (SV.tup [SV.agg [SV.int IntKind.i64 t, SV.int IntKind.i64 p, SV.vec (2 : Nat), SV.vec (3 : Nat)], SV.int IntKind.i64 (2 : Int)]) [(false, Blk.vec Ty.body xs), (false, Blk.vec Ty.pair ps), (true, Blk.vec Ty.body xs), (true, Blk.vec Ty.pair ps)]) (ifB ((↑(List.length xs) : Int) == (12 : Int)) (Q (SV.tup [SV.agg [SV.int IntKind.i64 t, SV.int IntKind.i64 p, SV.vec (2 : Nat), SV.vec (3 : Nat)], SV.int IntKind.i64 (3 : Int)]) [(false, Blk.vec Ty.body xs), (false, Blk.vec Ty.pair ps), (true, Blk.vec Ty.body xs), (true, Blk.vec Ty.pair ps)]) (((0 : Int) ≤ (↑(atB xs aI) : Int) ∧ (↑(atB xs aI) : Int) ≤ (↑(List.length xs) : Int) ∧ List.length [Body.mk aI (Shape.mk aK aW aH) (Vec.mk aX aY) (Vec.mk aU aV) aM aB aR aQ] = (1 : Nat) ∧ List.length xs ≤ (1048576 : Nat)) ∧ Q (SV.tup [SV.agg [SV.int IntKind.i64 t, SV.int IntKind.i64 p, SV.vec (2 : Nat), SV.vec (3 : Nat)], SV.int IntKind.i64 (0 : Int)]) [(false, Blk.vec Ty.body xs), (false, Blk.vec Ty.pair ps), (true, Blk.vec Ty.body (insL_Bodies xs (Int.toNat (↑(atB xs aI) : Int)) [Body.mk aI (Shape.mk aK aW aH) (Vec.mk aX aY) (Vec.mk aU aV) aM aB aR aQ])), (true, Blk.vec Ty.pair ps)]))))) := by kernel_rfl

theorem ok_implWorldPut : FsOk Tryz.prog 43 fs_implWorldPut := fsOk_of tt_ok (tabFs_cons ok_implWorldOk (tabFs_cons ok_implCopyW (tabFs_cons ok_place (tabFs_cons ok_implBodyOk (tabFs_cons ok_insBodies tabFs_nil))))) mixed Tryz.func43 (by kernel_rfl) (by kernel_rfl) (by
    intro args LL p r HH h hp
    unfold fs_implWorldPut at h
    dsimp only at h
    split at h
    case h_2 => cases h
    rename_i t p aI aK aW aH aX aY aU aV aM aB aR aQ xs ps
    simp only [Option.some.injEq, Prod.mk.injEq] at h
    obtain ⟨rfl, rfl, rfl⟩ := h
    refine ⟨by simp [Form, stays], L0, ?_⟩
    rw [vc_implWorldPut]
    try dsimp only
    obtain ⟨hb, hb2⟩ := hp _ rfl
    have hk := atB_le xs aI
    refine ⟨⟨hb, hb2⟩, ifB_of (fun c => ?_) (fun c => ⟨⟨hb, hb2⟩, by omega, ifB_of (fun c2 => ?_) (fun c2 => ifB_of (fun c3 => ?_) (fun c3 => ifB_of (fun c4 => ?_) (fun c4 => ?_)))⟩)⟩
    · simp [orI, orL, putCode, putBodies, not_true c]
    · simp [orI, orL, putCode, putBodies, not_false c, not_true c2]
    · simp [orI, orL, putCode, putBodies, not_false c, not_false c2, c3]
    · have c4 : (xs.length : Int) = 12 := by simpa using c4
      simp [orI, orL, putCode, putBodies, not_false c, not_false c2, c3, show xs.length ≥ 12 by omega]
    · have c4 : ¬ (xs.length : Int) = 12 := by simpa using c4
      have hl := worldOk_len (not_false c)
      refine ⟨⟨by omega, by omega, rfl, hb⟩, ?_⟩
      simp [orI, orL, putCode, putBodies, insB, insL_Bodies, not_false c, not_false c2, c3, show ¬ xs.length ≥ 12 by omega])

theorem length_putW (ok : Bool) (xs : List Body) (b : Body) (h : xs.length ≤ 1048576) : (orL ok (putBodies xs b)).length ≤ 1048576 := by
  refine Nat.le_trans (length_orL _ _) ?_
  unfold putBodies
  cases q : bodyOk b && !hasB xs b.Id && !decide (xs.length ≥ 12) with
  | false => simp only [cond_false]; omega
  | true =>
    simp only [Bool.and_eq_true, Bool.not_eq_true', decide_eq_false_iff_not] at q
    simp only [insB, cond_true, List.length_append, List.length_take, List.length_drop, List.length_singleton]
    omega
end Go.Proofs.YtnahfbjdicjdpaaGreat.Sym

namespace Go.Proofs.YtnahfbjdicjdpaaGreat.Sym
open Go
set_option linter.unusedVariables false
set_option linter.unusedSimpArgs false
set_option maxRecDepth 100000

def zeroB : Body := ⟨0, ⟨0, 0, 0⟩, ⟨0, 0⟩, ⟨0, 0⟩, 0, 0, 0, 0⟩
def delB (xs : List Body) (k : Nat) : List Body := xs.take k ++ xs.drop (k + 1)
def delRawB (xs : List Body) (i : Nat) : List Body := spl (spl xs i (xs.drop (i + 1))) (xs.length - 1) [zeroB]
theorem length_delRawB {xs : List Body} {i : Nat} (h : i < xs.length) : (delRawB xs i).length = xs.length := by
  have h1 : (spl xs i (xs.drop (i + 1))).length = xs.length := length_spl (by simp; omega)
  unfold delRawB
  rw [length_spl (by rw [h1]; simp; omega), h1]
theorem delRawB_take {xs : List Body} {i : Nat} (h : i < xs.length) : (delRawB xs i).take (xs.length - 1) = delB xs i := by
  have h1 : (spl xs i (xs.drop (i + 1))).length = xs.length := length_spl (by simp; omega)
  unfold delRawB
  have e : spl (spl xs i (xs.drop (i + 1))) (xs.length - 1) [zeroB] = (spl xs i (xs.drop (i + 1))).take (xs.length - 1) ++ ([zeroB] ++ (spl xs i (xs.drop (i + 1))).drop (xs.length - 1 + 1)) := by
    simp [spl]
  rw [e, List.take_left' (by simp [h1])]
  unfold spl delB
  rw [List.take_left' (by simp; omega)]
theorem length_delB {xs : List Body} {k : Nat} (h : k < xs.length) : (delB xs k).length = xs.length - 1 := by
  simp only [delB, List.length_append, List.length_take, List.length_drop]
  omega
noncomputable def fs_delBodies0 : Fs := ⟨[true], fun args H => match args, H with
  | [.vec 0, .int .i64 i, .int .i64 j], [(true, .vec .body xs)] => some ((some (xs.length ≤ 1048576 ∧ 0 ≤ i ∧ i < xs.length ∧ j = i + 1)), .sl 0 0 (xs.length - 1), [(true, .vec .body (delRawB xs i.toNat))])
  | _, _ => none⟩

theorem vc_delBodies0 (i : Int) (j : Int) (xs : List Body) (Q : SV → List Ent → Prop) :
    fnVC tt (look []) L0 Tryz.f82 [.vec 0, .int .i64 i, .int .i64 j] [(true, .vec .body xs)] Q =
    (((0 : Int) ≤ i ∧ i ≤ j ∧ j ≤ (↑(List.length xs) : Int) ∧ (↑(List.length xs) : Int) ≤ (↑(List.length xs) : Int)) ∧ ifB (i == j) (Q (SV.sl (0 : Nat) (0 : Nat) (List.length xs)) [(true, Blk.vec Ty.body xs)]) (((0 : Int) ≤ i ∧ i ≤ (↑(List.length xs) : Int)) ∧ ((0 : Int) ≤ j ∧ j ≤ (↑(List.length xs) : Int)) ∧ (0 : Nat) + Int.toNat i + List.length (List.take (List.length xs - Int.toNat j) (List.drop (Int.toNat j) xs)) ≤ List.length xs ∧ ((0 : Int) ≤ (↑(Int.toNat i + List.length (List.take (List.length xs - Int.toNat j) (List.drop (Int.toNat j) xs))) : Int) ∧ (↑(Int.toNat i + List.length (List.take (List.length xs - Int.toNat j) (List.drop (Int.toNat j) xs))) : Int) ≤ (↑(List.length xs) : Int) ∧ (↑(0 : Nat) : Int) + (↑(List.length xs) : Int) ≤ (↑(List.length (spl xs ((0 : Nat) + Int.toNat i) (List.take (List.length xs - Int.toNat j) (List.drop (Int.toNat j) xs)))) : Int)) ∧ Q (SV.sl (0 : Nat) (0 : Nat) (Int.toNat i + List.length (List.take (List.length xs - Int.toNat j) (List.drop (Int.toNat j) xs)))) [(true, Blk.vec Ty.body (spl (spl xs ((0 : Nat) + Int.toNat i) (List.take (List.length xs - Int.toNat j) (List.drop (Int.toNat j) xs))) ((0 : Nat) + Int.toNat (↑(Int.toNat i + List.length (List.take (List.length xs - Int.toNat j) (List.drop (Int.toNat j) xs))) : Int)) (List.replicate (Int.toNat (↑(List.length xs) : Int) - Int.toNat (↑(Int.toNat i + List.length (List.take (List.length xs - Int.toNat j) (List.drop (Int.toNat j) xs))) : Int)) (Body.mk (0 : Int) (Shape.mk (0 : Int) (0 : Int) (0 : Int)) (Vec.mk (0 : Int) (0 : Int)) (Vec.mk (0 : Int) (0 : Int)) (0 : Int) (0 : Int) (0 : Int) (0 : Int)))))])) := by kernel_rfl

theorem ok_delBodies0 : FsOk Tryz.prog 82 fs_delBodies0 := fsOk_of tt_ok tabFs_nil mixed Tryz.func82 (by kernel_rfl) (by kernel_rfl) (by
    intro args LL p r HH h hp
    unfold fs_delBodies0 at h
    dsimp only at h
    split at h
    case h_2 => cases h
    rename_i i j xs
    simp only [Option.some.injEq, Prod.mk.injEq] at h
    obtain ⟨rfl, rfl, rfl⟩ := h
    refine ⟨by obtain ⟨hb, h0, h1, _⟩ := hp _ rfl; simp [Form, stays, length_delRawB (show i.toNat < xs.length by omega)], L0, ?_⟩
    rw [vc_delBodies0]
    try dsimp only
    obtain ⟨hb, h0, h1, rfl⟩ := hp _ rfl
    have e1 : (i + 1).toNat = i.toNat + 1 := by omega
    have e2 : i.toNat + (xs.length - (i.toNat + 1)) = xs.length - 1 := by omega
    have e3 : xs.length - (xs.length - 1) = 1 := by omega
    have h2 : (spl xs i.toNat (xs.drop (i.toNat + 1))).length = xs.length := length_spl (by simp; omega)
    simp only [e1, take_restB, List.length_drop, e2, Int.toNat_natCast, e3, Nat.zero_add, h2]
    refine ⟨⟨h0, by omega, by omega, by omega⟩, ifB_of (fun c => ?_) (fun c => ⟨⟨h0, by omega⟩, ⟨by omega, by omega⟩, by omega, ⟨by omega, by omega, by omega⟩, (by trivial), (by trivial)⟩)⟩
    simp at c
    omega)

def fs_delBodies : Fs := ⟨[true], fun args H => match args, H with
  | [.vec 0, .int .i64 i, .int .i64 j], [(true, .vec .body xs)] => some (some (xs.length ≤ 1048576 ∧ 0 ≤ i ∧ i < xs.length ∧ j = i + 1), .vec 1, [(true, .dead), (true, .vec .body ((delRawB xs i.toNat).take (xs.length - 1)))])
  | _, _ => none⟩
theorem ok_delBodies : FsOk Tryz.prog 82 fs_delBodies := by
  refine fsOk_retake ok_delBodies0 ?_
  intro args L p r L' h
  unfold fs_delBodies at h
  dsimp only at h
  split at h
  case h_2 => cases h
  rename_i i j xs
  simp only [Option.some.injEq, Prod.mk.injEq] at h
  obtain ⟨rfl, rfl, rfl⟩ := h
  exact ⟨.body, delRawB xs i.toNat, [], xs.length - 1, rfl, rfl, rfl⟩
def keepP (id : Int) (q : Pair) : Bool := !(q.A == id) && !(q.B == id)
def dropP (id : Int) (q : Pair) : Bool := !keepP id q
noncomputable def fs_ofBody : Fs := ⟨[], fun args H => match args, H with
  | [.agg [.int .i64 a, .int .i64 b], .ptr 0 0 0], [(true, .box [.int .i64 id])] => some (none, .bool (dropP id ⟨a, b⟩), [(true, .box [.int .i64 id])])
  | _, _ => none⟩

theorem vc_ofBody (a : Int) (b : Int) (id : Int) (Q : SV → List Ent → Prop) :
    fnVC tt (look []) L0 Tryz.f84 [.agg [.int .i64 a, .int .i64 b], .ptr 0 0 0] [(true, .box [.int .i64 id])] Q =
    (ifB (a == id) (Q (SV.bool true) [(true, Blk.box [SV.int IntKind.i64 id])]) (Q (SV.bool (b == id)) [(true, Blk.box [SV.int IntKind.i64 id])])) := by kernel_rfl

theorem ok_ofBody : FsOk Tryz.prog 84 fs_ofBody := fsOk_of tt_ok tabFs_nil mixed Tryz.func84 (by kernel_rfl) (by kernel_rfl) (by
    intro args LL p r HH h hp
    unfold fs_ofBody at h
    dsimp only at h
    split at h
    case h_2 => cases h
    rename_i a b id
    simp only [Option.some.injEq, Prod.mk.injEq] at h
    obtain ⟨rfl, rfl, rfl⟩ := h
    refine ⟨by simp [Form, stays], L0, ?_⟩
    rw [vc_ofBody]
    try dsimp only
    unfold dropP keepP
    refine ifB_of (fun c => ?_) (fun c => ?_)
    · simp only [c, Bool.not_true, Bool.false_and, Bool.not_false]; exact ⟨(by trivial), (by trivial)⟩
    · simp only [c, Bool.not_false, Bool.true_and, Bool.not_not]; exact ⟨(by trivial), (by trivial)⟩)

def LSidxGone  : LS where
  S := List Pair × Int × Unit × Unit × Int × Int
  live := [(0, [none]), (1, [none]), (7, [none]), (8, [none])]
  shape := fun s => ([.vec 0, .fn 84 (some 1), .int .i64 s.2.2.2.2.1, .int .i64 s.2.2.2.2.2], [(false, .vec .pair s.1), (true, .box [.int .i64 s.2.1])])
  get := fun v h => match v, h with
    | [.vec 0, .fn 84 (some 1), .int .i64 n, .int .i64 i], [(false, .vec .pair xs), (true, .box [.int .i64 id])] => some (xs, id, (), (), n, i)
    | _, _ => none
  inv := fun s0 s => Holds (s.1 = s0.1 ∧ s.2.1 = s0.2.1 ∧ s.2.2.2.2.1 = s0.1.length ∧ 0 ≤ s.2.2.2.2.2 ∧ s.2.2.2.2.2 ≤ s0.1.length ∧ (∀ k, k < s.2.2.2.2.2.toNat → dropP s0.2.1 (Ty.ix .pair s0.1 k) = false))
  mu := fun s => ((s.1.length : Int) - s.2.2.2.2.2).toNat
  ok := by
    intro v h s hg
    try dsimp only at hg
    split at hg <;> cases hg
    rfl

def L_idxGone : Loops := fun n => match n with
  | 2 => some LSidxGone
  | _ => none
def LSdelGone (zs : List Pair) : LS where
  S := List Pair × Int × Unit × Unit × Int × Int
  live := [(0, [none]), (1, [none]), (5, [none]), (6, [none])]
  shape := fun s => ([.vec 0, .fn 84 (some 1), .int .i64 s.2.2.2.2.1, .int .i64 s.2.2.2.2.2], [(true, .vec .pair s.1), (true, .box [.int .i64 s.2.1])])
  get := fun v h => match v, h with
    | [.vec 0, .fn 84 (some 1), .int .i64 i, .int .i64 j], [(true, .vec .pair ys), (true, .box [.int .i64 id])] => some (ys, id, (), (), i, j)
    | _, _ => none
  inv := fun s0 s => Holds (s.2.1 = s0.2.1 ∧ 0 ≤ s.2.2.2.2.1 ∧ s.2.2.2.2.1 < s.2.2.2.2.2 ∧ s.2.2.2.2.2 ≤ zs.length ∧ s.1.length = zs.length ∧ s.1.take s.2.2.2.2.1.toNat = (zs.take s.2.2.2.2.2.toNat).filter (keepP s0.2.1) ∧ s.1.drop s.2.2.2.2.2.toNat = zs.drop s.2.2.2.2.2.toNat)
  mu := fun s => ((zs.length : Int) - s.2.2.2.2.2).toNat
  ok := by
    intro v h s hg
    try dsimp only at hg
    split at hg <;> cases hg
    rfl

def L_delGone (zs : List Pair) : Loops := fun n => match n with
  | 5 => some (LSdelGone zs)
  | _ => none
noncomputable def fs_idxGone : Fs := ⟨[], fun args H => match args, H with
  | [.vec 0, .fn 84 (some 1)], [(false, .vec .pair xs), (true, .box [.int .i64 id])] => some ((some (xs.length ≤ 4611686018427387904)), .int .i64 (firstI (dropP id) xs), [(false, .vec .pair xs), (true, .box [.int .i64 id])])
  | _, _ => none⟩

theorem vc_idxGone (xs : List Pair) (id : Int) (Q : SV → List Ent → Prop) :
    fnVC tt (look [(84, fs_ofBody)]) (L_idxGone) Tryz.f120 [.vec 0, .fn 84 (some 1)] [(false, .vec .pair xs), (true, .box [.int .i64 id])] Q =
    (Holds (xs = xs ∧ id = id ∧ (↑(List.length xs) : Int) = (↑(List.length xs) : Int) ∧ (0 : Int) ≤ (0 : Int) ∧ (0 : Int) ≤ (↑(List.length xs) : Int) ∧ ∀ (k : Nat), k < Int.toNat (0 : Int) → dropP id (Ty.ix Ty.pair xs k) = false) ∧ ∀ (x : List Pair × Int × Unit × Unit × Int × Int), Holds (Prod.fst x = xs ∧ Prod.fst (Prod.snd x) = id ∧ Prod.fst (Prod.snd (Prod.snd (Prod.snd (Prod.snd x)))) = (↑(List.length xs) : Int) ∧ (0 : Int) ≤ Prod.snd (Prod.snd (Prod.snd (Prod.snd (Prod.snd x)))) ∧ Prod.snd (Prod.snd (Prod.snd (Prod.snd (Prod.snd x)))) ≤ (↑(List.length xs) : Int) ∧ ∀ (k : Nat), k < Int.toNat (Prod.snd (Prod.snd (Prod.snd (Prod.snd (Prod.snd x))))) → dropP id (Ty.ix Ty.pair xs k) = false) → ifB (decide (Prod.snd (Prod.snd (Prod.snd (Prod.snd (Prod.snd x)))) < Prod.fst (Prod.snd (Prod.snd (Prod.snd (Prod.snd x)))))) (((0 : Int) ≤ Prod.snd (Prod.snd (Prod.snd (Prod.snd (Prod.snd x)))) ∧ Prod.snd (Prod.snd (Prod.snd (Prod.snd (Prod.snd x)))) < (↑(List.length (Prod.fst x)) : Int)) ∧ ifB (dropP (Prod.fst (Prod.snd x)) (Ty.ix Ty.pair (Prod.fst x) (Int.toNat (Prod.snd (Prod.snd (Prod.snd (Prod.snd (Prod.snd x)))))))) (Q (SV.int IntKind.i64 (Prod.snd (Prod.snd (Prod.snd (Prod.snd (Prod.snd x)))))) [(false, Blk.vec Ty.pair (Prod.fst x)), (true, Blk.box [SV.int IntKind.i64 (Prod.fst (Prod.snd x))])]) (Holds (Prod.fst x = xs ∧ Prod.fst (Prod.snd x) = id ∧ Prod.fst (Prod.snd (Prod.snd (Prod.snd (Prod.snd x)))) = (↑(List.length xs) : Int) ∧ (0 : Int) ≤ IntKind.wrap IntKind.i64 (Prod.snd (Prod.snd (Prod.snd (Prod.snd (Prod.snd x)))) + (1 : Int)) ∧ IntKind.wrap IntKind.i64 (Prod.snd (Prod.snd (Prod.snd (Prod.snd (Prod.snd x)))) + (1 : Int)) ≤ (↑(List.length xs) : Int) ∧ ∀ (k : Nat), k < Int.toNat (IntKind.wrap IntKind.i64 (Prod.snd (Prod.snd (Prod.snd (Prod.snd (Prod.snd x)))) + (1 : Int))) → dropP id (Ty.ix Ty.pair xs k) = false) ∧ Int.toNat ((↑(List.length (Prod.fst x)) : Int) - IntKind.wrap IntKind.i64 (Prod.snd (Prod.snd (Prod.snd (Prod.snd (Prod.snd x)))) + (1 : Int))) < Int.toNat ((↑(List.length (Prod.fst x)) : Int) - Prod.snd (Prod.snd (Prod.snd (Prod.snd (Prod.snd x))))))) (Q (SV.int IntKind.i64 (-1 : Int)) [(false, Blk.vec Ty.pair (Prod.fst x)), (true, Blk.box [SV.int IntKind.i64 (Prod.fst (Prod.snd x))])])) := by kernel_rfl

theorem ok_idxGone : FsOk Tryz.prog 120 fs_idxGone := fsOk_of tt_ok (tabFs_cons ok_ofBody tabFs_nil) mixed Tryz.func120 (by kernel_rfl) (by kernel_rfl) (by
    intro args LL p r HH h hp
    unfold fs_idxGone at h
    dsimp only at h
    split at h
    case h_2 => cases h
    rename_i xs id
    simp only [Option.some.injEq, Prod.mk.injEq] at h
    obtain ⟨rfl, rfl, rfl⟩ := h
    refine ⟨by simp [Form, stays], (L_idxGone), ?_⟩
    rw [vc_idxGone]
    try dsimp only
    have hb := hp _ rfl
    refine ⟨⟨(by trivial), (by trivial), (by trivial), by omega, by omega, fun k hk => absurd hk (by simp)⟩, ?_⟩
    rintro ⟨xs', id', u, f, n, i⟩ ⟨h⟩
    dsimp only at h ⊢
    obtain ⟨rfl, rfl, rfl, h0, h1, h3⟩ := h
    refine ifB_of (fun c => ?_) (fun c => ?_)
    · have hi : i < xs'.length := of_decide_eq_true c
      have e1 : (i + 1).toNat = i.toNat + 1 := by omega
      refine ⟨⟨h0, hi⟩, ifB_of (fun c1 => ?_) (fun c1 => ?_)⟩
      · rw [firstI_at (T := .pair) (p := dropP id') (i := i.toNat) (by omega) c1 h3]
        refine ⟨?_, (by trivial)⟩
        congr 1
        omega
      · simp (disch := omega) only [wrap_small, e1]
        refine ⟨⟨(by trivial), (by trivial), (by trivial), by omega, by omega, fun k hk => ?_⟩, by omega⟩
        by_cases e : k = i.toNat
        · rw [e]; exact c1
        · exact h3 k (by omega)
    · have hi : ¬ i < xs'.length := of_decide_eq_false c
      rw [firstI_no (T := .pair) (p := dropP id') fun k hk => h3 k (by omega)]
      exact ⟨rfl, rfl⟩)

theorem firstI_m1 {α : Type} {p : α → Bool} {xs : List α} : (firstI p xs == -1) = !xs.any p := by
  cases h : xs.any p with
  | true =>
    have : ((xs.findIdx p : Nat) : Int) ≠ -1 := by omega
    simp [firstI, h, this]
  | false => simp [firstI, h]
theorem firstI_spec {T : Ty} {p : T.El → Bool} {xs : List T.El} (h : xs.any p = true) : ∃ i : Nat, firstI p xs = i ∧ i < xs.length ∧ p (T.ix xs i) = true ∧ ∀ k, k < i → p (T.ix xs k) = false := by
  obtain ⟨x, hx, hpx⟩ := List.any_eq_true.1 h
  have hlt : xs.findIdx p < xs.length := List.findIdx_lt_length_of_exists ⟨x, hx, hpx⟩
  refine ⟨xs.findIdx p, by simp [firstI, h], hlt, ?_, fun k hk => ?_⟩
  · have e : T.ix xs (xs.findIdx p) = xs[xs.findIdx p] := ix_eq (T := T) (List.getElem?_eq_getElem hlt)
    rw [e]
    exact List.findIdx_getElem
  · have hk2 : k < xs.length := by omega
    have e : T.ix xs k = xs[k] := ix_eq (T := T) (List.getElem?_eq_getElem hk2)
    rw [e]
    simpa using List.not_of_lt_findIdx hk
theorem take_ix {T : Ty} {xs : List T.El} {j : Nat} (h : j < xs.length) : xs.take (j + 1) = xs.take j ++ [T.ix xs j] := by
  rw [List.take_add_one, ix_get (T := T) h]
  rfl
theorem take_set_same {α : Type} (xs : List α) (i : Nat) (v : α) : (xs.set i v).take i = xs.take i := by
  apply List.ext_getElem?
  intro j
  simp only [List.getElem?_take]
  by_cases h : j < i
  · rw [if_pos h, if_pos h, List.getElem?_set_ne (by omega)]
  · rw [if_neg h, if_neg h]
theorem drop_set_lt {α : Type} (xs : List α) {i m : Nat} (v : α) (h : i < m) : (xs.set i v).drop m = xs.drop m := by
  apply List.ext_getElem?
  intro j
  simp only [List.getElem?_drop]
  rw [List.getElem?_set_ne (by omega)]
theorem ix_drop_eq {T : Ty} {xs ys : List T.El} {j : Nat} (h : ys.drop j = xs.drop j) (hj : j < xs.length) : T.ix ys j = T.ix xs j := by
  have := congrArg (fun l => l[0]?) h
  simp only [List.getElem?_drop, Nat.add_zero] at this
  exact ix_eq (T := T) (by rw [this, ix_get (T := T) hj])
theorem drop_succ_eq {α : Type} {xs ys : List α} {j : Nat} (h : ys.drop j = xs.drop j) : ys.drop (j + 1) = xs.drop (j + 1) := by
  rw [← List.drop_drop, ← List.drop_drop, h]
def keepRaw (id : Int) (xs : List Pair) : List Pair := bif xs.any (dropP id) then xs.filter (keepP id) ++ List.replicate (xs.length - (xs.filter (keepP id)).length) ⟨0, 0⟩ else xs
theorem keep_all {id : Int} {xs : List Pair} (h : xs.any (dropP id) = false) : xs.filter (keepP id) = xs := List.filter_eq_self.2 fun y hy => by simpa [dropP] using List.any_eq_false.1 h y hy
theorem length_keepRaw (id : Int) (xs : List Pair) : (keepRaw id xs).length = xs.length := by
  have := List.length_filter_le (keepP id) xs
  unfold keepRaw
  cases xs.any (dropP id) with
  | true => simp only [cond_true, List.length_append, List.length_replicate]; omega
  | false => rfl
noncomputable def fs_delGone0 : Fs := ⟨[true, false], fun args H => match args, H with
  | [.vec 0, .fn 84 (some 1)], [(true, .vec .pair xs), (true, .box [.int .i64 id])] => some ((some (xs.length ≤ 1048576)), .sl 0 0 (xs.filter (keepP id)).length, [(true, .vec .pair (keepRaw id xs)), (true, .box [.int .i64 id])])
  | _, _ => none⟩

theorem vc_delGone0 (xs : List Pair) (id : Int) (Q : SV → List Ent → Prop) :
    fnVC tt (look [(120, fs_idxGone), (84, fs_ofBody)]) (L_delGone xs) Tryz.f83 [.vec 0, .fn 84 (some 1)] [(true, .vec .pair xs), (true, .box [.int .i64 id])] Q =
    (let w_ := IntKind.wrap IntKind.i64; let n_ := Int.toNat; List.length xs ≤ (4611686018427387904 : Nat) ∧ ifB (firstI (dropP id) xs == (-1 : Int)) (Q (SV.sl (0 : Nat) (0 : Nat) (List.length xs)) [(true, Blk.vec Ty.pair xs), (true, Blk.box [SV.int IntKind.i64 id])]) (Holds (id = id ∧ (0 : Int) ≤ firstI (dropP id) xs ∧ firstI (dropP id) xs < w_ (firstI (dropP id) xs + (1 : Int)) ∧ w_ (firstI (dropP id) xs + (1 : Int)) ≤ (↑(List.length xs) : Int) ∧ List.length xs = List.length xs ∧ List.take (n_ (firstI (dropP id) xs)) xs = List.filter (keepP id) (List.take (n_ (w_ (firstI (dropP id) xs + (1 : Int)))) xs) ∧ List.drop (n_ (w_ (firstI (dropP id) xs + (1 : Int)))) xs = List.drop (n_ (w_ (firstI (dropP id) xs + (1 : Int)))) xs) ∧ ∀ (y1 : List Pair × Int × Unit × Unit × Int × Int), let y1f0_ := Prod.fst y1; let y1s1_ := Prod.snd y1; let y1f1_ := Prod.fst (Prod.snd y1); let y1s4_ := Prod.snd (Prod.snd (Prod.snd (Prod.snd y1))); let y1f4_ := Prod.fst (Prod.snd (Prod.snd (Prod.snd (Prod.snd y1)))); let y1s5_ := Prod.snd (Prod.snd (Prod.snd (Prod.snd (Prod.snd y1)))); let A6_ := (spl y1f0_ (n_ y1f4_) (List.replicate (List.length y1f0_ - n_ y1f4_) (Pair.mk (0 : Int) (0 : Int)))); let A5_ := (↑(List.length xs) : Int); let A4_ := (List.set y1f0_ (n_ y1f4_) (Ty.ix Ty.pair y1f0_ (n_ y1s5_))); let A3_ := (Prod.snd y1s4_ + (1 : Int)); let A2_ := (n_ (w_ A3_)); Holds (Prod.fst y1s1_ = id ∧ (0 : Int) ≤ y1f4_ ∧ y1f4_ < y1s5_ ∧ y1s5_ ≤ A5_ ∧ List.length y1f0_ = List.length xs ∧ List.take (n_ y1f4_) y1f0_ = List.filter (keepP id) (List.take (n_ y1s5_) xs) ∧ List.drop (n_ y1s5_) y1f0_ = List.drop (n_ y1s5_) xs) → ifB (decide (Prod.snd y1s4_ < (↑(List.length y1f0_) : Int))) (((0 : Int) ≤ y1s5_ ∧ y1s5_ < (↑(List.length y1f0_) : Int)) ∧ ifB (!dropP y1f1_ (Ty.ix Ty.pair y1f0_ (n_ y1s5_))) (((0 : Int) ≤ y1f4_ ∧ y1f4_ < (↑(List.length y1f0_) : Int)) ∧ Holds (Prod.fst y1s1_ = id ∧ (0 : Int) ≤ w_ (Prod.fst y1s4_ + (1 : Int)) ∧ w_ (Prod.fst y1s4_ + (1 : Int)) < w_ A3_ ∧ w_ A3_ ≤ A5_ ∧ List.length A4_ = List.length xs ∧ List.take (n_ (w_ (Prod.fst y1s4_ + (1 : Int)))) A4_ = List.filter (keepP id) (List.take A2_ xs) ∧ List.drop A2_ A4_ = List.drop A2_ xs) ∧ n_ (A5_ - w_ A3_) < n_ (A5_ - y1s5_)) (Holds (Prod.fst y1s1_ = id ∧ (0 : Int) ≤ y1f4_ ∧ y1f4_ < w_ A3_ ∧ w_ A3_ ≤ A5_ ∧ List.length y1f0_ = List.length xs ∧ List.take (n_ y1f4_) y1f0_ = List.filter (keepP id) (List.take A2_ xs) ∧ List.drop A2_ y1f0_ = List.drop A2_ xs) ∧ n_ (A5_ - w_ A3_) < n_ (A5_ - y1s5_))) (((0 : Int) ≤ y1f4_ ∧ y1f4_ ≤ (↑(List.length y1f0_) : Int)) ∧ ((0 : Int) ≤ y1f4_ ∧ y1f4_ ≤ (↑(List.length A6_) : Int)) ∧ Q (SV.sl (0 : Nat) (0 : Nat) (n_ y1f4_)) [(true, Blk.vec Ty.pair A6_), (true, Blk.box [SV.int IntKind.i64 y1f1_])]))) := by kernel_rfl

theorem ok_delGone0 : FsOk Tryz.prog 83 fs_delGone0 := fsOk_of tt_ok (tabFs_cons ok_idxGone (tabFs_cons ok_ofBody tabFs_nil)) mixed Tryz.func83 (by kernel_rfl) (by kernel_rfl) (by
    intro args LL p r HH h hp
    unfold fs_delGone0 at h
    dsimp only at h
    split at h
    case h_2 => cases h
    rename_i xs id
    simp only [Option.some.injEq, Prod.mk.injEq] at h
    obtain ⟨rfl, rfl, rfl⟩ := h
    refine ⟨by simp [Form, stays, length_keepRaw], (L_delGone xs), ?_⟩
    rw [vc_delGone0]
    try dsimp only
    have hb := hp _ rfl
    refine ⟨by omega, ?_⟩
    rw [firstI_m1]
    unfold keepRaw
    refine ifB_of (fun c => ?_) (fun c => ?_)
    · have c := not_true c
      rw [c, keep_all c]
      exact ⟨(by trivial), (by trivial)⟩
    have c := not_false c
    obtain ⟨i0, q0, q1, q2, q3⟩ := firstI_spec (T := .pair) c
    rw [c]
    simp only [cond_true]
    rw [q0]
    have w0 : IntKind.i64.wrap ((i0 : Int) + 1) = (i0 : Int) + 1 := wrap_small (by omega) (by omega)
    rw [w0]
    have hini : xs.take i0 = (xs.take (i0 + 1)).filter (keepP id) := by
      rw [take_ix (T := .pair) q1, List.filter_append]
      have e1 : List.filter (keepP id) [Ty.ix .pair xs i0] = [] := by
        have : keepP id (Ty.ix .pair xs i0) = false := by simpa [dropP] using q2
        simp [this]
      have e2 : List.filter (keepP id) (xs.take i0) = xs.take i0 := by
        refine List.filter_eq_self.2 fun y hy => ?_
        obtain ⟨k, hk, e⟩ := List.getElem_of_mem hy
        simp only [List.length_take] at hk
        have hk2 : k < xs.length := by omega
        have e3 : Ty.ix .pair xs k = y := ix_eq (T := .pair) (by rw [← e, List.getElem_take]; exact List.getElem?_eq_getElem hk2)
        have := q3 k (by omega)
        rw [e3] at this
        simpa [dropP] using this
      rw [e1, e2, List.append_nil]
    have hs0 : (xs.filter (keepP id)).length ≤ xs.length := List.length_filter_le _ _
    refine ⟨⟨(by trivial), by omega, by omega, by omega, (by trivial), ?_, (by trivial)⟩, ?_⟩
    · rw [show ((i0 : Nat) : Int).toNat = i0 by omega, show (((i0 : Nat) : Int) + 1).toNat = i0 + 1 by omega]
      exact hini
    clear hini
    rintro ⟨ys, id', u, f, i, j⟩ ⟨h⟩
    dsimp only at h ⊢
    obtain ⟨rfl, g0, g1, g2, g3, g4, g5⟩ := h
    refine ifB_of (fun c1 => ?_) (fun c1 => ?_)
    · have c1 := of_decide_eq_true c1
      have w1 : IntKind.i64.wrap (j + 1) = j + 1 := wrap_small (by omega) (by omega)
      have w2 : IntKind.i64.wrap (i + 1) = i + 1 := wrap_small (by omega) (by omega)
      have ej : (j + 1).toNat = j.toNat + 1 := by omega
      have ei : (i + 1).toNat = i.toNat + 1 := by omega
      have hx : Ty.ix .pair ys j.toNat = Ty.ix .pair xs j.toNat := ix_drop_eq (T := .pair) g5 (by omega)
      have g6 := drop_succ_eq g5
      rw [w1, w2, ej, ei, hx]
      refine ⟨⟨by omega, by omega⟩, ifB_of (fun c2 => ⟨⟨by omega, by omega⟩, ⟨(by trivial), by omega, by omega, by omega, by rw [List.length_set]; exact g3, ?_, ?_⟩, by omega⟩) (fun c2 => ⟨⟨(by trivial), by omega, by omega, by omega, g3, ?_, g6⟩, by omega⟩)⟩
      · have c2 : keepP id' (Ty.ix .pair xs j.toNat) = true := by simpa [dropP] using c2
        rw [take_ix (T := .pair) (xs := ys.set i.toNat (Ty.ix .pair xs j.toNat)) (by rw [List.length_set]; omega), take_set_same, ix_set_self (T := .pair) (by omega), g4, take_ix (T := .pair) (xs := xs) (show j.toNat < xs.length by omega), List.filter_append]
        simp [c2]
      · rw [drop_set_lt _ _ (by omega)]
        exact g6
      · have c2 : keepP id' (Ty.ix .pair xs j.toNat) = false := by simpa [dropP] using c2
        rw [take_ix (T := .pair) (xs := xs) (show j.toNat < xs.length by omega), List.filter_append, g4]
        simp [c2]
    · have c1 := of_decide_eq_false c1
      have ej : j.toNat = xs.length := by omega
      rw [ej, List.take_length] at g4
      have gl := congrArg List.length g4
      rw [List.length_take] at gl
      have ei : i.toNat = (xs.filter (keepP id')).length := by omega
      refine ⟨⟨g0, by omega⟩, ⟨g0, ?_⟩, ?_, ?_⟩
      · rw [length_spl (by simp; omega)]
        omega
      · rw [ei]
      · unfold spl
        rw [g4, List.drop_eq_nil_of_le (by simp; omega), List.append_nil, g3, ei])

def fs_delGone : Fs := ⟨[true, false], fun args H => match args, H with
  | [.vec 0, .fn 84 (some 1)], [(true, .vec .pair xs), (true, .box [.int .i64 id])] => some (some (xs.length ≤ 1048576), .vec 2, [(true, .dead), (true, .box [.int .i64 id]), (true, .vec .pair ((keepRaw id xs).take (xs.filter (keepP id)).length))])
  | _, _ => none⟩
theorem ok_delGone : FsOk Tryz.prog 83 fs_delGone := by
  refine fsOk_retake ok_delGone0 ?_
  intro args L p r L' h
  unfold fs_delGone at h
  dsimp only at h
  split at h
  case h_2 => cases h
  rename_i xs id
  simp only [Option.some.injEq, Prod.mk.injEq] at h
  obtain ⟨rfl, rfl, rfl⟩ := h
  exact ⟨.pair, keepRaw id xs, [(true, .box [.int .i64 id])], (xs.filter (keepP id)).length, rfl, rfl, rfl⟩
theorem keepRaw_take (id : Int) (xs : List Pair) : (keepRaw id xs).take (xs.filter (keepP id)).length = xs.filter (keepP id) := by
  unfold keepRaw
  cases q : xs.any (dropP id) with
  | true => exact List.take_left' rfl
  | false =>
    have e : xs.filter (keepP id) = xs := List.filter_eq_self.2 fun y hy => by simpa [dropP] using List.any_eq_false.1 q y hy
    rw [e]
    exact List.take_length
noncomputable def wake (b y : Body) : Body := bif (touchB b y).2 && y.Quiet == 8 then { y with Quiet := 0 } else y
noncomputable def wokeAt (xs : List Body) (k e : Nat) : Body := bif e == k then Ty.ix .body xs e else wake (Ty.ix .body xs k) (Ty.ix .body xs e)
theorem ix_fill {T : Ty} (f : Nat → T.El) (xs : List T.El) {i : Nat} (h : i < xs.length) : T.ix (fill f xs i) i = T.ix xs i := by
  apply ix_eq
  unfold fill
  rw [List.getElem?_append_right (by simp)]
  simp [ix_get (T := T) h]
theorem quiet_ok {xs : List Body} (h : bodiesOk xs = true) {k : Nat} (hk : k < xs.length) : decide ((Ty.ix .body xs k).Quiet ≥ 8) = ((Ty.ix .body xs k).Quiet == 8) := by
  have h1 := bodiesOk_each h hk
  simp only [bodyOk, isIn, Bool.and_eq_true, decide_eq_true_eq] at h1
  rw [Bool.eq_iff_iff, decide_eq_true_eq, beq_iff_eq]
  omega
theorem take_gen_map {f : Nat → Body} {g : Body → Body} {xs : List Body} {k : Nat} (h : ∀ e, e < k → e < xs.length → f e = g (Ty.ix .body xs e)) : (gen f xs.length).take k = (xs.take k).map g := by
  apply List.ext_getElem?
  intro j
  simp only [gen, List.getElem?_take, List.getElem?_map]
  by_cases hj : j < k
  · simp only [if_pos hj]
    by_cases hl : j < xs.length
    · rw [List.getElem?_range hl, ix_get (T := .body) hl]
      simp [h j hj hl]
    · rw [List.getElem?_eq_none (l := List.range _) (by simpa using hl), List.getElem?_eq_none (l := xs) (by omega)]
      rfl
  · simp only [if_neg hj]
    rfl
theorem drop_gen_map {f : Nat → Body} {g : Body → Body} {xs : List Body} {m : Nat} (h : ∀ e, m ≤ e → e < xs.length → f e = g (Ty.ix .body xs e)) : (gen f xs.length).drop m = (xs.drop m).map g := by
  apply List.ext_getElem?
  intro j
  simp only [gen, List.getElem?_drop, List.getElem?_map]
  by_cases hl : m + j < xs.length
  · rw [List.getElem?_range hl, ix_get (T := .body) hl]
    simp [h (m + j) (by omega) hl]
  · rw [List.getElem?_eq_none (l := List.range _) (by simpa using hl), List.getElem?_eq_none (l := xs) (by omega)]
    rfl
theorem gen_map (g : Body → Body) (xs : List Body) : gen (fun e => g (Ty.ix .body xs e)) xs.length = xs.map g := by
  have := drop_gen_map (f := fun e => g (Ty.ix .body xs e)) (g := g) (xs := xs) (m := 0) fun _ _ _ => rfl
  simpa using this
theorem del_woken {xs : List Body} {k : Nat} (h : k < xs.length) : delB (gen (wokeAt xs k) xs.length) k = (delB xs k).map (wake (Ty.ix .body xs k)) := by
  unfold delB
  rw [List.map_append, take_gen_map (g := wake (Ty.ix .body xs k)) fun e he _ => ?_, drop_gen_map (g := wake (Ty.ix .body xs k)) fun e he _ => ?_]
  · have : (e == k) = false := beq_eq_false_iff_ne.2 (by omega)
    simp only [wokeAt, this, cond_false]
  · have : (e == k) = false := beq_eq_false_iff_ne.2 (by omega)
    simp only [wokeAt, this, cond_false]
def LSwoken  : LS where
  S := List Body × Unit × Int × List Body × Int
  live := [(0, [none]), (1, [none]), (5, [some .body]), (6, [none])]
  shape := fun s => ([.vec 0, .int .i64 s.2.2.1, .vec 1, .int .i64 s.2.2.2.2], [(false, .vec .body s.1), (true, .vec .body s.2.2.2.1)])
  get := fun v h => match v, h with
    | [.vec 0, .int .i64 k, .vec 1, .int .i64 j], [(false, .vec .body xs), (true, .vec .body ys)] => some (xs, (), k, ys, j)
    | _, _ => none
  inv := fun s0 s => Holds (s.1 = s0.1 ∧ s.2.2.1 = s0.2.2.1 ∧ 0 ≤ s.2.2.2.2 ∧ s.2.2.2.2 ≤ s0.1.length ∧ s.2.2.2.1 = fill (wokeAt s0.1 s0.2.2.1.toNat) s0.1 s.2.2.2.2.toNat)
  mu := fun s => ((s.1.length : Int) - s.2.2.2.2).toNat
  ok := by
    intro v h s hg
    try dsimp only at hg
    split at hg <;> cases hg
    rfl

def L_woken : Loops := fun n => match n with
  | 3 => some LSwoken
  | _ => none
noncomputable def fs_specWoken : Fs := ⟨[], fun args H => match args, H with
  | [.vec 0, .int .i64 k], [(false, .vec .body xs)] => some ((some (bodiesOk xs = true ∧ 0 ≤ k ∧ k < xs.length)), .vec 1, [(false, .vec .body xs), (true, .vec .body (gen (wokeAt xs k.toNat) xs.length))])
  | _, _ => none⟩

theorem vc_specWoken (xs : List Body) (k : Int) (Q : SV → List Ent → Prop) :
    fnVC tt (look [(67, fs_specCopyB), (121, fs_l5Touch), (71, fs_l6Sleeps)]) (L_woken) Tryz.f85 [.vec 0, .int .i64 k] [(false, .vec .body xs)] Q =
    (let w_ := IntKind.wrap IntKind.i64; let n_ := Int.toNat; List.length xs ≤ (1048576 : Nat) ∧ Holds (xs = xs ∧ k = k ∧ (0 : Int) ≤ (0 : Int) ∧ (0 : Int) ≤ (↑(List.length xs) : Int) ∧ xs = fill (wokeAt xs (n_ k)) xs (n_ (0 : Int))) ∧ ∀ (y1 : List Body × Unit × Int × List Body × Int), let y1f0_ := Prod.fst y1; let y1s1_ := Prod.snd y1; let y1f2_ := Prod.fst (Prod.snd (Prod.snd y1)); let y1s3_ := Prod.snd (Prod.snd (Prod.snd y1)); let y1f3_ := Prod.fst (Prod.snd (Prod.snd (Prod.snd y1))); let y1s4_ := Prod.snd (Prod.snd (Prod.snd (Prod.snd y1))); let A6_ := (Ty.ix Ty.body y1f0_ (n_ y1s4_)); let A5_ := (Ty.ix Ty.body y1f0_ (n_ y1f2_)); let A3_ := (↑(List.length y1f0_) : Int); let A2_ := (Prod.snd y1s3_ + (1 : Int)); let A7_ := (A3_ - w_ A2_); let A4_ := (n_ (w_ A2_)); Holds (Prod.fst y1 = xs ∧ y1f2_ = k ∧ (0 : Int) ≤ y1s4_ ∧ y1s4_ ≤ (↑(List.length xs) : Int) ∧ y1f3_ = fill (wokeAt xs (n_ k)) xs (n_ y1s4_)) → ifB (decide (Prod.snd y1s3_ < (↑(List.length y1f3_) : Int))) (((0 : Int) ≤ y1f2_ ∧ y1f2_ < A3_) ∧ ((0 : Int) ≤ y1f2_ ∧ y1f2_ < A3_) ∧ ((0 : Int) ≤ y1s4_ ∧ y1s4_ < A3_) ∧ ((0 : Int) ≤ y1s4_ ∧ y1s4_ < A3_) ∧ (shapeOk (Body.Shape A5_) = true ∧ placeOk (Body.At A5_) = true ∧ shapeOk (Body.Shape A6_) = true ∧ placeOk (Body.At A6_) = true) ∧ ifB (Prod.snd y1s3_ != y1f2_) (ifB (Prod.snd (touchF (Body.Shape A5_) (Body.At A5_) (Body.Shape A6_) (Body.At A6_))) (((0 : Int) ≤ y1s4_ ∧ y1s4_ < (↑(List.length y1f3_) : Int)) ∧ ifB (decide (Body.Quiet (Ty.ix Ty.body y1f3_ (n_ y1s4_)) ≥ (8 : Int))) (((0 : Int) ≤ y1s4_ ∧ y1s4_ < (↑(List.length y1f3_) : Int)) ∧ Holds (Prod.fst y1 = xs ∧ y1f2_ = k ∧ (0 : Int) ≤ w_ A2_ ∧ w_ A2_ ≤ (↑(List.length xs) : Int) ∧ setC Ty.body y1f3_ (n_ y1s4_) ((0 : Nat) + (11 : Nat)) [SV.int IntKind.i64 (0 : Int)] = fill (wokeAt xs (n_ k)) xs A4_) ∧ n_ A7_ < n_ (A3_ - y1s4_)) (Holds (Prod.fst y1 = xs ∧ y1f2_ = k ∧ (0 : Int) ≤ w_ A2_ ∧ w_ A2_ ≤ (↑(List.length xs) : Int) ∧ y1f3_ = fill (wokeAt xs (n_ k)) xs A4_) ∧ n_ A7_ < n_ (A3_ - y1s4_))) (Holds (Prod.fst y1 = xs ∧ y1f2_ = k ∧ (0 : Int) ≤ w_ A2_ ∧ w_ A2_ ≤ (↑(List.length xs) : Int) ∧ y1f3_ = fill (wokeAt xs (n_ k)) xs A4_) ∧ n_ A7_ < n_ (A3_ - y1s4_))) (Holds (Prod.fst y1 = xs ∧ y1f2_ = k ∧ (0 : Int) ≤ w_ A2_ ∧ w_ A2_ ≤ (↑(List.length xs) : Int) ∧ y1f3_ = fill (wokeAt xs (n_ k)) xs A4_) ∧ n_ A7_ < n_ (A3_ - y1s4_))) (Q (SV.vec (1 : Nat)) [(false, Blk.vec Ty.body y1f0_), (true, Blk.vec Ty.body y1f3_)])) := by kernel_rfl

theorem ok_specWoken : FsOk Tryz.prog 85 fs_specWoken := fsOk_of tt_ok (tabFs_cons ok_specCopyB (tabFs_cons ok_l5Touch (tabFs_cons ok_l6Sleeps tabFs_nil))) mixed Tryz.func85 (by kernel_rfl) (by kernel_rfl) (by
    intro args LL p r HH h hp
    unfold fs_specWoken at h
    dsimp only at h
    split at h
    case h_2 => cases h
    rename_i k xs
    simp only [Option.some.injEq, Prod.mk.injEq] at h
    obtain ⟨rfl, rfl, rfl⟩ := h
    refine ⟨by simp [Form, stays], (L_woken), ?_⟩
    rw [vc_specWoken]
    try dsimp only
    obtain ⟨hok, k0, k1⟩ := hp _ rfl
    have hl := bodiesOk_len hok
    refine ⟨by omega, ⟨(by trivial), (by trivial), by omega, by omega, (fill_zero _ _).symm⟩, ?_⟩
    rintro ⟨xs', u, k', ys, j⟩ ⟨h⟩
    dsimp only at h ⊢
    obtain ⟨rfl, rfl, j0, j1, h2⟩ := h
    have hf : ys.length = xs'.length := by rw [h2]; exact length_fill _ _ (by omega)
    rw [hf]
    refine ifB_of (fun c1 => ?_) (fun c1 => ?_)
    · have c1 := of_decide_eq_true c1
      have e1 : (j + 1).toNat = j.toNat + 1 := by omega
      have w : IntKind.i64.wrap (j + 1) = j + 1 := wrap_small (by omega) (by omega)
      have ht := touch_ok hok (i := k'.toNat) (k := j.toNat) (by omega) (by omega)
      have hq := quiet_ok hok (k := j.toNat) (by omega)
      have hy : Ty.ix .body ys j.toNat = Ty.ix .body xs' j.toNat := by rw [h2]; exact ix_fill (T := .body) _ _ (by omega)
      have hstep := fill_step (wokeAt xs' k'.toNat) xs' (i := j.toNat) (by omega)
      rw [← h2] at hstep
      have stay : wokeAt xs' k'.toNat j.toNat = Ty.ix .body xs' j.toNat → ys = fill (wokeAt xs' k'.toNat) xs' (j.toNat + 1) := by
        intro q
        rw [← hstep, q, ← hy]
        exact (set_ix (T := .body) ys (by omega)).symm
      rw [w, e1, ← ht.1, hy, hq]
      refine ⟨⟨k0, k1⟩, ⟨k0, k1⟩, ⟨j0, c1⟩, ⟨j0, c1⟩, ht.2, ifB_of (fun d1 => ifB_of (fun d2 => ⟨⟨j0, c1⟩, ifB_of (fun d3 => ⟨⟨j0, c1⟩, ⟨(by trivial), (by trivial), by omega, by omega, ?_⟩, by omega⟩) (fun d3 => ⟨⟨(by trivial), (by trivial), by omega, by omega, stay ?_⟩, by omega⟩)⟩) (fun d2 => ⟨⟨(by trivial), (by trivial), by omega, by omega, stay ?_⟩, by omega⟩)) (fun d1 => ⟨⟨(by trivial), (by trivial), by omega, by omega, stay ?_⟩, by omega⟩)⟩
      · have e0 : (j.toNat == k'.toNat) = false := by
          simp only [bne_iff_ne] at d1
          exact beq_eq_false_iff_ne.2 (by omega)
        rw [setC_quiet, ← hstep, hy]
        unfold wokeAt wake
        rw [e0, d2, d3]
        rfl
      · have e0 : (j.toNat == k'.toNat) = false := by
          simp only [bne_iff_ne] at d1
          exact beq_eq_false_iff_ne.2 (by omega)
        unfold wokeAt wake
        rw [e0, d2, d3]
        rfl
      · have e0 : (j.toNat == k'.toNat) = false := by
          simp only [bne_iff_ne] at d1
          exact beq_eq_false_iff_ne.2 (by omega)
        unfold wokeAt wake
        rw [e0, d2]
        rfl
      · have e0 : (j.toNat == k'.toNat) = true := by
          simp only [bne_eq_false_iff_eq] at d1
          rw [d1]
          exact beq_self_eq_true _
        unfold wokeAt
        rw [e0]
        rfl
    · have c1 := of_decide_eq_false c1
      rw [h2, fill_end _ _ (by omega)]
      exact ⟨rfl, rfl⟩)

def goneCode (ok : Bool) (xs : List Body) (id : Int) : Int := bif ok then bif hasB xs id then 0 else 4 else 1
noncomputable def goneBodies (xs : List Body) (id : Int) : List Body := bif hasB xs id then (delB xs (atB xs id)).map (wake (Ty.ix .body xs (atB xs id))) else xs
def gonePairs (xs : List Body) (ps : List Pair) (id : Int) : List Pair := bif hasB xs id then ps.filter (keepP id) else ps
theorem gone_bodies {xs : List Body} {id : Int} (h : hasB xs id = true) : (gen (wokeAt xs (atB xs id)) xs.length).take (atB xs id) ++ (gen (wokeAt xs (atB xs id)) xs.length).drop (atB xs id + 1) = goneBodies xs id := by
  have := del_woken (hasB_lt h)
  unfold delB at this
  rw [this]
  unfold goneBodies
  rw [h]
  rfl
theorem filterP_drop {ps : List Pair} {i : Nat} {p : Pair → Bool} (h : i < ps.length) : (ps.drop i).filter p = (bif p (Ty.ix .pair ps i) then [Ty.ix .pair ps i] else []) ++ (ps.drop (i + 1)).filter p := by
  rw [drop_ix (T := .pair) h, List.filter_cons]
  cases p (Ty.ix .pair ps i) <;> simp
def LSsgone  : LS where
  S := List Body × List Pair × Int × (Int × Int) × (Int × Int) × (Int × Int × List Body × List Pair) × Int
  live := [(1, [none]), (2, [none]), (4, [none]), (8, [none]), (10, [none])]
  shape := fun s => ([.int .i64 s.2.2.1, .ptr 2 0 0, .ptr 3 0 0, .ptr 6 0 0, .int .i64 s.2.2.2.2.2.2], [(false, .vec .body s.1), (false, .vec .pair s.2.1), (true, .box [.int .i64 s.2.2.2.1.1, .int .i64 s.2.2.2.1.2, .vec 0, .vec 1]), (true, .box [.int .i64 s.2.2.2.2.1.1, .int .i64 s.2.2.2.2.1.2, .nilsl, .nilsl]), (true, .vec .body s.2.2.2.2.2.1.2.2.1), (true, .vec .pair s.2.2.2.2.2.1.2.2.2), (true, .box [.int .i64 s.2.2.2.2.2.1.1, .int .i64 s.2.2.2.2.2.1.2.1, .vec 4, .vec 5])])
  get := fun v h => match v, h with
    | [.int .i64 id, .ptr 2 0 0, .ptr 3 0 0, .ptr 6 0 0, .int .i64 i], [(false, .vec .body xs), (false, .vec .pair ps), (true, .box [.int .i64 w_0, .int .i64 w_1, .vec 0, .vec 1]), (true, .box [.int .i64 r_0, .int .i64 r_1, .nilsl, .nilsl]), (true, .vec .body v_2), (true, .vec .pair v_3), (true, .box [.int .i64 v_0, .int .i64 v_1, .vec 4, .vec 5])] => some (xs, ps, id, (w_0, w_1), (r_0, r_1), (v_0, v_1, v_2, v_3), i)
    | _, _ => none
  inv := fun s0 s => Holds (s.1 = s0.1 ∧ s.2.1 = s0.2.1 ∧ s.2.2.1 = s0.2.2.1 ∧ s.2.2.2.1 = s0.2.2.2.1 ∧ s.2.2.2.2.1 = s0.2.2.2.2.1 ∧ 0 ≤ s.2.2.2.2.2.2 ∧ s.2.2.2.2.2.2 ≤ s0.2.1.length ∧ s.2.2.2.2.2.1.1 = s0.2.2.2.2.2.1.1 ∧ s.2.2.2.2.2.1.2.1 = s0.2.2.2.2.2.1.2.1 ∧ s.2.2.2.2.2.1.2.2.1 = s0.2.2.2.2.2.1.2.2.1 ∧ s.2.2.2.2.2.1.2.2.2 ++ (s0.2.1.drop s.2.2.2.2.2.2.toNat).filter (keepP s0.2.2.1) = s0.2.1.filter (keepP s0.2.2.1))
  mu := fun s => ((s.2.1.length : Int) - s.2.2.2.2.2.2).toNat
  ok := by
    intro v h s hg
    try dsimp only at hg
    split at hg <;> cases hg
    rfl

def L_sgone : Loops := fun n => match n with
  | 11 => some LSsgone
  | _ => none
noncomputable def fs_specWorldGone : Fs := ⟨[], fun args H => match args, H with
  | [.agg [.int .i64 t, .int .i64 p, .vec 0, .vec 1], .int .i64 id], [(false, .vec .body xs), (false, .vec .pair ps)] => some ((some (xs.length ≤ 1048576 ∧ ps.length ≤ 1048576)), .tup [.agg [.int .i64 (orI (worldOk t p xs ps) t), .int .i64 (orI (worldOk t p xs ps) p), .vec 2, .vec 3], .int .i64 (goneCode (worldOk t p xs ps) xs id)], [(false, .vec .body xs), (false, .vec .pair ps), (true, .vec .body (orL (worldOk t p xs ps) (goneBodies xs id))), (true, .vec .pair (orL (worldOk t p xs ps) (gonePairs xs ps id)))])
  | _, _ => none⟩

theorem vc_specWorldGone (t : Int) (p : Int) (xs : List Body) (ps : List Pair) (id : Int) (Q : SV → List Ent → Prop) :
    fnVC tt (look [(35, fs_specWorldOk), (78, fs_l10At), (75, fs_specCopyW), (85, fs_specWoken)]) (L_sgone) Tryz.f41 [.agg [.int .i64 t, .int .i64 p, .vec 0, .vec 1], .int .i64 id] [(false, .vec .body xs), (false, .vec .pair ps)] Q =
    (let w_ := IntKind.wrap IntKind.i64; let s_ := SV.int IntKind.i64; let n_ := Int.toNat; let vb_ := Blk.vec Ty.body; let vp_ := Blk.vec Ty.pair; let A10_ := (w_ ((↑(atB xs id) : Int) + (1 : Int))); let A9_ := (gen (wokeAt xs (n_ (↑(atB xs id) : Int))) (List.length xs)); (List.length xs ≤ (1048576 : Nat) ∧ List.length ps ≤ (1048576 : Nat)) ∧ ifB (!worldOk t p xs ps) (Q (SV.tup [SV.agg [s_ (0 : Int), s_ (0 : Int), SV.vec (2 : Nat), SV.vec (3 : Nat)], s_ (1 : Int)]) [(false, vb_ xs), (false, vp_ ps), (true, vb_ []), (true, vp_ [])]) (List.length xs ≤ (4611686018427387904 : Nat) ∧ ifB (!hasB xs id) ((List.length xs ≤ (1048576 : Nat) ∧ List.length ps ≤ (1048576 : Nat)) ∧ Q (SV.tup [SV.agg [s_ t, s_ p, SV.vec (2 : Nat), SV.vec (3 : Nat)], s_ (4 : Int)]) [(false, vb_ xs), (false, vp_ ps), (true, vb_ xs), (true, vp_ ps)]) ((List.length xs ≤ (1048576 : Nat) ∧ List.length ps ≤ (1048576 : Nat)) ∧ (bodiesOk xs = true ∧ (0 : Int) ≤ (↑(atB xs id) : Int) ∧ (↑(atB xs id) : Int) < (↑(List.length xs) : Int)) ∧ ((0 : Int) ≤ (↑(atB xs id) : Int) ∧ (↑(atB xs id) : Int) ≤ (↑(List.length A9_) : Int)) ∧ ((0 : Nat) + List.length (List.take (n_ (↑(atB xs id) : Int)) (List.drop (0 : Nat) A9_))) * (96 : Nat) ≤ room ∧ ((0 : Int) ≤ w_ ((↑(atB xs id) : Int) + (1 : Int)) ∧ w_ ((↑(atB xs id) : Int) + (1 : Int)) ≤ (↑(List.length A9_) : Int)) ∧ (List.length ([] ++ List.take (n_ (↑(atB xs id) : Int)) (List.drop (0 : Nat) A9_)) + List.length (List.take (List.length A9_ - n_ A10_) (List.drop (n_ A10_) A9_))) * (96 : Nat) ≤ room ∧ Holds (xs = xs ∧ ps = ps ∧ id = id ∧ (t, p) = (t, p) ∧ ((0 : Int), (0 : Int)) = ((0 : Int), (0 : Int)) ∧ (0 : Int) ≤ (0 : Int) ∧ (0 : Int) ≤ (↑(List.length ps) : Int) ∧ t = t ∧ p = p ∧ [] ++ List.take (n_ (↑(atB xs id) : Int)) (List.drop (0 : Nat) A9_) ++ List.take (List.length A9_ - n_ A10_) (List.drop (n_ A10_) A9_) = [] ++ List.take (n_ (↑(atB xs id) : Int)) (List.drop (0 : Nat) A9_) ++ List.take (List.length A9_ - n_ A10_) (List.drop (n_ A10_) A9_) ∧ [] ++ List.filter (keepP id) (List.drop (n_ (0 : Int)) ps) = List.filter (keepP id) ps) ∧ ∀ (y1 : List Body × List Pair × Int × (Int × Int) × (Int × Int) × (Int × Int × List Body × List Pair) × Int), let y1f0_ := Prod.fst y1; let y1s1_ := Prod.snd y1; let y1f1_ := Prod.fst (Prod.snd y1); let y1f2_ := Prod.fst (Prod.snd (Prod.snd y1)); let y1f3_ := Prod.fst (Prod.snd (Prod.snd (Prod.snd y1))); let y1f4_ := Prod.fst (Prod.snd (Prod.snd (Prod.snd (Prod.snd y1)))); let y1s5_ := Prod.snd (Prod.snd (Prod.snd (Prod.snd (Prod.snd y1)))); let y1f5_ := Prod.fst (Prod.snd (Prod.snd (Prod.snd (Prod.snd (Prod.snd y1))))); let y1s6_ := Prod.snd (Prod.snd (Prod.snd (Prod.snd (Prod.snd (Prod.snd y1))))); let A7_ := (n_ (↑(atB xs id) : Int)); let A6_ := (↑(List.length y1f1_) : Int); let A5_ := (Prod.snd (Prod.snd y1f5_)); let A4_ := (Prod.snd y1s5_ + (1 : Int)); let A8_ := (List.drop (n_ (w_ A4_)) ps); let A3_ := A10_; let A2_ := (gen (wokeAt xs A7_) (List.length xs)); Holds (Prod.fst y1 = xs ∧ y1f1_ = ps ∧ y1f2_ = id ∧ y1f3_ = (t, p) ∧ y1f4_ = ((0 : Int), (0 : Int)) ∧ (0 : Int) ≤ y1s6_ ∧ y1s6_ ≤ (↑(List.length ps) : Int) ∧ Prod.fst y1f5_ = t ∧ Prod.fst (Prod.snd y1f5_) = p ∧ Prod.fst A5_ = [] ++ List.take A7_ (List.drop (0 : Nat) A2_) ++ List.take (List.length A2_ - n_ A3_) (List.drop (n_ A3_) A2_) ∧ Prod.snd A5_ ++ List.filter (keepP id) (List.drop (n_ y1s6_) ps) = List.filter (keepP id) ps) → ifB (decide (Prod.snd y1s5_ < A6_)) (((0 : Int) ≤ y1s6_ ∧ y1s6_ < A6_) ∧ ifB (Pair.A (Ty.ix Ty.pair y1f1_ (n_ y1s6_)) != y1f2_) (((0 : Int) ≤ y1s6_ ∧ y1s6_ < A6_) ∧ ifB (Pair.B (Ty.ix Ty.pair y1f1_ (n_ y1s6_)) != y1f2_) (((0 : Int) ≤ y1s6_ ∧ y1s6_ < A6_) ∧ (List.length (Prod.snd A5_) + List.length [Ty.ix Ty.pair y1f1_ (n_ y1s6_)]) * (16 : Nat) ≤ room ∧ Holds (Prod.fst y1 = xs ∧ y1f1_ = ps ∧ y1f2_ = id ∧ y1f3_ = (t, p) ∧ y1f4_ = ((0 : Int), (0 : Int)) ∧ (0 : Int) ≤ w_ A4_ ∧ w_ A4_ ≤ (↑(List.length ps) : Int) ∧ Prod.fst y1f5_ = t ∧ Prod.fst (Prod.snd y1f5_) = p ∧ Prod.fst A5_ = [] ++ List.take A7_ (List.drop (0 : Nat) A2_) ++ List.take (List.length A2_ - n_ A3_) (List.drop (n_ A3_) A2_) ∧ Prod.snd A5_ ++ [Ty.ix Ty.pair y1f1_ (n_ y1s6_)] ++ List.filter (keepP id) A8_ = List.filter (keepP id) ps) ∧ n_ (A6_ - w_ A4_) < n_ (A6_ - y1s6_)) (Holds (Prod.fst y1 = xs ∧ y1f1_ = ps ∧ y1f2_ = id ∧ y1f3_ = (t, p) ∧ y1f4_ = ((0 : Int), (0 : Int)) ∧ (0 : Int) ≤ w_ A4_ ∧ w_ A4_ ≤ (↑(List.length ps) : Int) ∧ Prod.fst y1f5_ = t ∧ Prod.fst (Prod.snd y1f5_) = p ∧ Prod.fst A5_ = [] ++ List.take A7_ (List.drop (0 : Nat) A2_) ++ List.take (List.length A2_ - n_ A3_) (List.drop (n_ A3_) A2_) ∧ Prod.snd A5_ ++ List.filter (keepP id) A8_ = List.filter (keepP id) ps) ∧ n_ (A6_ - w_ A4_) < n_ (A6_ - y1s6_))) (Holds (Prod.fst y1 = xs ∧ y1f1_ = ps ∧ y1f2_ = id ∧ y1f3_ = (t, p) ∧ y1f4_ = ((0 : Int), (0 : Int)) ∧ (0 : Int) ≤ w_ A4_ ∧ w_ A4_ ≤ (↑(List.length ps) : Int) ∧ Prod.fst y1f5_ = t ∧ Prod.fst (Prod.snd y1f5_) = p ∧ Prod.fst A5_ = [] ++ List.take A7_ (List.drop (0 : Nat) A2_) ++ List.take (List.length A2_ - n_ A3_) (List.drop (n_ A3_) A2_) ∧ Prod.snd A5_ ++ List.filter (keepP id) A8_ = List.filter (keepP id) ps) ∧ n_ (A6_ - w_ A4_) < n_ (A6_ - y1s6_))) (Q (SV.tup [SV.agg [s_ (Prod.fst y1f5_), s_ (Prod.fst (Prod.snd y1f5_)), SV.vec (2 : Nat), SV.vec (3 : Nat)], s_ (0 : Int)]) [(false, vb_ y1f0_), (false, vp_ y1f1_), (true, vb_ (Prod.fst A5_)), (true, vp_ (Prod.snd A5_))])))) := by kernel_rfl

theorem ok_specWorldGone : FsOk Tryz.prog 41 fs_specWorldGone := fsOk_of tt_ok (tabFs_cons ok_specWorldOk (tabFs_cons ok_l10At (tabFs_cons ok_specCopyW (tabFs_cons ok_specWoken tabFs_nil)))) mixed Tryz.func41 (by kernel_rfl) (by kernel_rfl) (by
    intro args LL p r HH h hp
    unfold fs_specWorldGone at h
    dsimp only at h
    split at h
    case h_2 => cases h
    rename_i t p id xs ps
    simp only [Option.some.injEq, Prod.mk.injEq] at h
    obtain ⟨rfl, rfl, rfl⟩ := h
    refine ⟨by simp [Form, stays], (L_sgone), ?_⟩
    rw [vc_specWorldGone]
    try dsimp only
    obtain ⟨hb, hb2⟩ := hp _ rfl
    have hk := atB_le xs id
    refine ⟨⟨hb, hb2⟩, ifB_of (fun c => ?_) (fun c => ⟨by omega, ifB_of (fun c2 => ⟨⟨hb, hb2⟩, ?_⟩) (fun c2 => ?_)⟩)⟩
    · simp [orI, orL, goneCode, not_true c]
    · simp [orI, orL, goneCode, goneBodies, gonePairs, not_false c, not_true c2]
    have hok := worldOk_bodies (not_false c)
    have hl := bodiesOk_len hok
    have hlt := hasB_lt (not_false c2)
    have w0 : IntKind.i64.wrap ((atB xs id : Int) + 1) = (atB xs id : Int) + 1 := wrap_small (by omega) (by omega)
    have e0 : ((atB xs id : Int) + 1).toNat = atB xs id + 1 := by omega
    simp only [w0, e0, Int.toNat_natCast, List.drop_zero, List.nil_append, take_restB, gone_bodies (not_false c2)]
    refine ⟨⟨hb, hb2⟩, ⟨hok, by omega, by omega⟩, ⟨by omega, by rw [length_gen]; omega⟩, by simp only [room, List.length_take, length_gen]; omega, ⟨by omega, by rw [length_gen]; omega⟩, by simp only [room, List.length_take, List.length_drop, length_gen]; omega, ⟨(by trivial), (by trivial), (by trivial), (by trivial), (by trivial), by omega, by omega, (by trivial), (by trivial), (by trivial), (by trivial)⟩, ?_⟩
    rintro ⟨xs', ps', id', w, r, ⟨a, b, us, out⟩, i⟩ ⟨h⟩
    dsimp only at h ⊢
    obtain ⟨rfl, rfl, rfl, rfl, rfl, i0, i1, rfl, rfl, rfl, i2⟩ := h
    have hs2 := congrArg List.length i2
    rw [List.length_append] at hs2
    have hs := List.length_filter_le (keepP id') ps'
    refine ifB_of (fun c3 => ?_) (fun c3 => ?_)
    · have c3 := of_decide_eq_true c3
      have e1 : (i + 1).toNat = i.toNat + 1 := by omega
      have w1 : IntKind.i64.wrap (i + 1) = i + 1 := wrap_small (by omega) (by omega)
      rw [filterP_drop (show i.toNat < ps'.length by omega)] at i2
      rw [w1, e1]
      have stay : keepP id' (Ty.ix .pair ps' i.toNat) = false → out ++ (ps'.drop (i.toNat + 1)).filter (keepP id') = ps'.filter (keepP id') := by
        intro q
        rw [q] at i2
        simpa using i2
      refine ⟨⟨i0, c3⟩, ifB_of (fun d1 => ⟨⟨i0, c3⟩, ifB_of (fun d2 => ⟨⟨i0, c3⟩, by simp only [room, List.length_singleton]; omega, ⟨(by trivial), (by trivial), (by trivial), (by trivial), (by trivial), by omega, by omega, (by trivial), (by trivial), (by trivial), ?_⟩, by omega⟩) (fun d2 => ⟨⟨(by trivial), (by trivial), (by trivial), (by trivial), (by trivial), by omega, by omega, (by trivial), (by trivial), (by trivial), stay ?_⟩, by omega⟩)⟩) (fun d1 => ⟨⟨(by trivial), (by trivial), (by trivial), (by trivial), (by trivial), by omega, by omega, (by trivial), (by trivial), (by trivial), stay ?_⟩, by omega⟩)⟩
      · have d1 : (!((Ty.ix .pair ps' i.toNat).A == id')) = true := d1
        have d2 : (!((Ty.ix .pair ps' i.toNat).B == id')) = true := d2
        have q : keepP id' (Ty.ix .pair ps' i.toNat) = true := by unfold keepP; rw [d1, d2]; rfl
        rw [q] at i2
        rw [← i2, List.append_assoc]
        rfl
      · have d2 : (!((Ty.ix .pair ps' i.toNat).B == id')) = false := d2
        unfold keepP
        rw [d2, Bool.and_false]
      · have d1 : (!((Ty.ix .pair ps' i.toNat).A == id')) = false := d1
        unfold keepP
        rw [d1, Bool.false_and]
    · have c3 := of_decide_eq_false c3
      rw [drop_end (by omega)] at i2
      have i2 : out = ps'.filter (keepP id') := by simpa using i2
      rw [i2]
      simp [orI, orL, goneCode, gonePairs, not_false c, not_false c2])

def LSigone  : LS where
  S := List Body × List Pair × (Int × Int) × (Int × Int × List Body × List Pair) × Body × Int × Int
  live := [(4, [none]), (6, [none]), (9, [none]), (49, [none]), (50, [none])]
  shape := fun s => ([.ptr 2 0 0, .ptr 5 0 0, .ptr 6 0 0, .int .i64 s.2.2.2.2.2.1, .int .i64 s.2.2.2.2.2.2], [(false, .vec .body s.1), (false, .vec .pair s.2.1), (true, .box [.int .i64 s.2.2.1.1, .int .i64 s.2.2.1.2, .nilsl, .nilsl]), (true, .vec .body s.2.2.2.1.2.2.1), (true, .vec .pair s.2.2.2.1.2.2.2), (true, .box [.int .i64 s.2.2.2.1.1, .int .i64 s.2.2.2.1.2.1, .vec 3, .vec 4]), (true, .box [.int .i64 s.2.2.2.2.1.Id, .int .i64 s.2.2.2.2.1.Shape.Kind, .int .i64 s.2.2.2.2.1.Shape.Wide, .int .i64 s.2.2.2.2.1.Shape.High, .int .i64 s.2.2.2.2.1.At.X, .int .i64 s.2.2.2.2.1.At.Y, .int .i64 s.2.2.2.2.1.Drive.X, .int .i64 s.2.2.2.2.1.Drive.Y, .int .i64 s.2.2.2.2.1.Mass, .int .i64 s.2.2.2.2.1.Bounce, .int .i64 s.2.2.2.2.1.Rub, .int .i64 s.2.2.2.2.1.Quiet])])
  get := fun v h => match v, h with
    | [.ptr 2 0 0, .ptr 5 0 0, .ptr 6 0 0, .int .i64 n, .int .i64 k], [(false, .vec .body xs), (false, .vec .pair ps), (true, .box [.int .i64 r_0, .int .i64 r_1, .nilsl, .nilsl]), (true, .vec .body v_2), (true, .vec .pair v_3), (true, .box [.int .i64 v_0, .int .i64 v_1, .vec 3, .vec 4]), (true, .box [.int .i64 bI, .int .i64 bK, .int .i64 bW, .int .i64 bH, .int .i64 bX, .int .i64 bY, .int .i64 bU, .int .i64 bV, .int .i64 bM, .int .i64 bB, .int .i64 bR, .int .i64 bQ])] => some (xs, ps, (r_0, r_1), (v_0, v_1, v_2, v_3), (Body.mk bI (Shape.mk bK bW bH) (Vec.mk bX bY) (Vec.mk bU bV) bM bB bR bQ), n, k)
    | _, _ => none
  inv := fun s0 s => Holds (s.1 = s0.1 ∧ s.2.1 = s0.2.1 ∧ s.2.2.1 = s0.2.2.1 ∧ s.2.2.2.2.1 = s0.2.2.2.2.1 ∧ s.2.2.2.2.2.1 = s0.2.2.2.1.2.2.1.length ∧ s.2.2.2.1.1 = s0.2.2.2.1.1 ∧ s.2.2.2.1.2.1 = s0.2.2.2.1.2.1 ∧ s.2.2.2.1.2.2.2 = s0.2.2.2.1.2.2.2 ∧ 0 ≤ s.2.2.2.2.2.2 ∧ s.2.2.2.2.2.2 ≤ s0.2.2.2.1.2.2.1.length ∧ s.2.2.2.1.2.2.1 = fill (fun e => wake s0.2.2.2.2.1 (Ty.ix .body s0.2.2.2.1.2.2.1 e)) s0.2.2.2.1.2.2.1 s.2.2.2.2.2.2.toNat)
  mu := fun s => (s.2.2.2.2.2.1 - s.2.2.2.2.2.2).toNat
  ok := by
    intro v h s hg
    try dsimp only at hg
    split at hg <;> cases hg
    rfl

def L_igone : Loops := fun n => match n with
  | 11 => some LSigone
  | _ => none
noncomputable def fs_implWorldGone : Fs := ⟨[], fun args H => match args, H with
  | [.agg [.int .i64 t, .int .i64 p, .vec 0, .vec 1], .int .i64 id], [(false, .vec .body xs), (false, .vec .pair ps)] => some ((some (xs.length ≤ 1048576 ∧ ps.length ≤ 1048576)), .tup [.agg [.int .i64 (orI (worldOk t p xs ps) t), .int .i64 (orI (worldOk t p xs ps) p), .vec 2, .vec 3], .int .i64 (goneCode (worldOk t p xs ps) xs id)], [(false, .vec .body xs), (false, .vec .pair ps), (true, .vec .body (orL (worldOk t p xs ps) (goneBodies xs id))), (true, .vec .pair (orL (worldOk t p xs ps) (gonePairs xs ps id)))])
  | _, _ => none⟩

theorem vc_implWorldGone (t : Int) (p : Int) (xs : List Body) (ps : List Pair) (id : Int) (Q : SV → List Ent → Prop) :
    fnVC tt (look [(36, fs_implWorldOk), (73, fs_implCopyW), (80, fs_place), (82, fs_delBodies), (83, fs_delGone), (65, fs_implBodyTouch), (54, fs_bodySleeps)]) (L_igone) Tryz.f40 [.agg [.int .i64 t, .int .i64 p, .vec 0, .vec 1], .int .i64 id] [(false, .vec .body xs), (false, .vec .pair ps)] Q =
    (let w_ := IntKind.wrap IntKind.i64; let s_ := SV.int IntKind.i64; let n_ := Int.toNat; let ib_ := Ty.ix Ty.body; let vb_ := Blk.vec Ty.body; let vp_ := Blk.vec Ty.pair; let A8_ := (List.take (List.length xs - (1 : Nat)) (delRawB xs (n_ (↑(atB xs id) : Int)))); (List.length xs ≤ (1048576 : Nat) ∧ List.length ps ≤ (1048576 : Nat)) ∧ ifB (!worldOk t p xs ps) (Q (SV.tup [SV.agg [s_ (0 : Int), s_ (0 : Int), SV.vec (2 : Nat), SV.vec (3 : Nat)], s_ (1 : Int)]) [(false, vb_ xs), (false, vp_ ps), (true, vb_ []), (true, vp_ [])]) ((List.length xs ≤ (1048576 : Nat) ∧ List.length ps ≤ (1048576 : Nat)) ∧ List.length xs ≤ (4611686018427387904 : Nat) ∧ ifB (!hasB xs id) (Q (SV.tup [SV.agg [s_ t, s_ p, SV.vec (2 : Nat), SV.vec (3 : Nat)], s_ (4 : Int)]) [(false, vb_ xs), (false, vp_ ps), (true, vb_ xs), (true, vp_ ps)]) (((0 : Int) ≤ (↑(atB xs id) : Int) ∧ (↑(atB xs id) : Int) < (↑(List.length xs) : Int)) ∧ (List.length xs ≤ (1048576 : Nat) ∧ (0 : Int) ≤ (↑(atB xs id) : Int) ∧ (↑(atB xs id) : Int) < (↑(List.length xs) : Int) ∧ w_ ((↑(atB xs id) : Int) + (1 : Int)) = (↑(atB xs id) : Int) + (1 : Int)) ∧ List.length ps ≤ (1048576 : Nat) ∧ Holds (xs = xs ∧ ps = ps ∧ ((0 : Int), (0 : Int)) = ((0 : Int), (0 : Int)) ∧ ib_ xs (n_ (↑(atB xs id) : Int)) = ib_ xs (n_ (↑(atB xs id) : Int)) ∧ (↑(List.length A8_) : Int) = (↑(List.length A8_) : Int) ∧ t = t ∧ p = p ∧ List.take (List.length (List.filter (keepP id) ps)) (keepRaw id ps) = List.take (List.length (List.filter (keepP id) ps)) (keepRaw id ps) ∧ (0 : Int) ≤ (0 : Int) ∧ (0 : Int) ≤ (↑(List.length A8_) : Int) ∧ List.take (List.length xs - (1 : Nat)) (delRawB xs (n_ (↑(atB xs id) : Int))) = fill (fun e => wake (ib_ xs (n_ (↑(atB xs id) : Int))) (ib_ A8_ e)) A8_ (n_ (0 : Int))) ∧ ∀ (y1 : List Body × List Pair × (Int × Int) × (Int × Int × List Body × List Pair) × Body × Int × Int), let y1f0_ := Prod.fst y1; let y1s1_ := Prod.snd y1; let y1f1_ := Prod.fst (Prod.snd y1); let y1f2_ := Prod.fst (Prod.snd (Prod.snd y1)); let y1f3_ := Prod.fst (Prod.snd (Prod.snd (Prod.snd y1))); let y1f4_ := Prod.fst (Prod.snd (Prod.snd (Prod.snd (Prod.snd y1)))); let y1s5_ := Prod.snd (Prod.snd (Prod.snd (Prod.snd (Prod.snd y1)))); let y1f5_ := Prod.fst (Prod.snd (Prod.snd (Prod.snd (Prod.snd (Prod.snd y1))))); let y1s6_ := Prod.snd (Prod.snd (Prod.snd (Prod.snd (Prod.snd (Prod.snd y1))))); let A7_ := (List.length (List.filter (keepP id) ps)); let A5_ := (n_ (↑(atB xs id) : Int)); let A4_ := (Prod.snd y1s5_ + (1 : Int)); let A3_ := (Prod.snd (Prod.snd y1f3_)); let A2_ := (List.take (List.length xs - (1 : Nat)) (delRawB xs A5_)); let A6_ := (↑(List.length A2_) : Int); Holds (Prod.fst y1 = xs ∧ y1f1_ = ps ∧ y1f2_ = ((0 : Int), (0 : Int)) ∧ y1f4_ = ib_ xs A5_ ∧ y1f5_ = A6_ ∧ Prod.fst y1f3_ = t ∧ Prod.fst (Prod.snd y1f3_) = p ∧ Prod.snd A3_ = List.take A7_ (keepRaw id ps) ∧ (0 : Int) ≤ y1s6_ ∧ y1s6_ ≤ A6_ ∧ Prod.fst A3_ = fill (fun e => wake (ib_ xs A5_) (ib_ A2_ e)) A2_ (n_ y1s6_)) → ifB (decide (Prod.snd y1s5_ < y1f5_)) (((0 : Int) ≤ y1s6_ ∧ y1s6_ < (↑(List.length (Prod.fst A3_)) : Int)) ∧ ifB (Prod.snd (touchAll (Body.Shape y1f4_) (Body.At y1f4_) (Body.Shape (ib_ (Prod.fst A3_) (n_ y1s6_))) (Body.At (ib_ (Prod.fst A3_) (n_ y1s6_))))) (ifB (Body.Quiet (ib_ (Prod.fst A3_) (n_ y1s6_)) == (8 : Int)) (Holds (Prod.fst y1 = xs ∧ y1f1_ = ps ∧ y1f2_ = ((0 : Int), (0 : Int)) ∧ y1f4_ = ib_ xs A5_ ∧ y1f5_ = A6_ ∧ Prod.fst y1f3_ = t ∧ Prod.fst (Prod.snd y1f3_) = p ∧ Prod.snd A3_ = List.take A7_ (keepRaw id ps) ∧ (0 : Int) ≤ w_ A4_ ∧ w_ A4_ ≤ A6_ ∧ setC Ty.body (Prod.fst A3_) (n_ y1s6_) ((0 : Nat) + (11 : Nat)) [s_ (0 : Int)] = fill (fun e => wake (ib_ xs A5_) (ib_ A2_ e)) A2_ (n_ (w_ A4_))) ∧ n_ (Prod.fst y1s5_ - w_ A4_) < n_ (Prod.fst y1s5_ - y1s6_)) (Holds (Prod.fst y1 = xs ∧ y1f1_ = ps ∧ y1f2_ = ((0 : Int), (0 : Int)) ∧ y1f4_ = ib_ xs A5_ ∧ y1f5_ = A6_ ∧ Prod.fst y1f3_ = t ∧ Prod.fst (Prod.snd y1f3_) = p ∧ Prod.snd A3_ = List.take A7_ (keepRaw id ps) ∧ (0 : Int) ≤ w_ A4_ ∧ w_ A4_ ≤ A6_ ∧ Prod.fst A3_ = fill (fun e => wake (ib_ xs A5_) (ib_ A2_ e)) A2_ (n_ (w_ A4_))) ∧ n_ (Prod.fst y1s5_ - w_ A4_) < n_ (Prod.fst y1s5_ - y1s6_))) (Holds (Prod.fst y1 = xs ∧ y1f1_ = ps ∧ y1f2_ = ((0 : Int), (0 : Int)) ∧ y1f4_ = ib_ xs A5_ ∧ y1f5_ = A6_ ∧ Prod.fst y1f3_ = t ∧ Prod.fst (Prod.snd y1f3_) = p ∧ Prod.snd A3_ = List.take A7_ (keepRaw id ps) ∧ (0 : Int) ≤ w_ A4_ ∧ w_ A4_ ≤ A6_ ∧ Prod.fst A3_ = fill (fun e => wake (ib_ xs A5_) (ib_ A2_ e)) A2_ (n_ (w_ A4_))) ∧ n_ (Prod.fst y1s5_ - w_ A4_) < n_ (Prod.fst y1s5_ - y1s6_))) (Q (SV.tup [SV.agg [s_ (Prod.fst y1f3_), s_ (Prod.fst (Prod.snd y1f3_)), SV.vec (2 : Nat), SV.vec (3 : Nat)], s_ (0 : Int)]) [(false, vb_ y1f0_), (false, vp_ y1f1_), (true, vb_ (Prod.fst A3_)), (true, vp_ (Prod.snd A3_))])))) := by kernel_rfl

theorem ok_implWorldGone : FsOk Tryz.prog 40 fs_implWorldGone := fsOk_of tt_ok (tabFs_cons ok_implWorldOk (tabFs_cons ok_implCopyW (tabFs_cons ok_place (tabFs_cons ok_delBodies (tabFs_cons ok_delGone (tabFs_cons ok_implBodyTouch (tabFs_cons ok_bodySleeps tabFs_nil))))))) mixed Tryz.func40 (by kernel_rfl) (by kernel_rfl) (by
    intro args LL p r HH h hp
    unfold fs_implWorldGone at h
    dsimp only at h
    split at h
    case h_2 => cases h
    rename_i t p id xs ps
    simp only [Option.some.injEq, Prod.mk.injEq] at h
    obtain ⟨rfl, rfl, rfl⟩ := h
    refine ⟨by simp [Form, stays], (L_igone), ?_⟩
    rw [vc_implWorldGone]
    try dsimp only
    obtain ⟨hb, hb2⟩ := hp _ rfl
    have hk := atB_le xs id
    refine ⟨⟨hb, hb2⟩, ifB_of (fun c => ?_) (fun c => ⟨⟨hb, hb2⟩, by omega, ifB_of (fun c2 => ?_) (fun c2 => ?_)⟩)⟩
    · simp [orI, orL, goneCode, not_true c]
    · simp [orI, orL, goneCode, goneBodies, gonePairs, not_false c, not_true c2]
    have hok := worldOk_bodies (not_false c)
    have hl := bodiesOk_len hok
    have hlt := hasB_lt (not_false c2)
    have hd := length_delB hlt
    simp only [Int.toNat_natCast, delRawB_take hlt, keepRaw_take]
    refine ⟨⟨by omega, by omega⟩, ⟨hb, by omega, by omega, wrap_small (by omega) (by omega)⟩, hb2, ⟨(by trivial), (by trivial), (by trivial), (by trivial), (by trivial), (by trivial), (by trivial), (by trivial), by omega, by omega, (fill_zero _ _).symm⟩, ?_⟩
    rintro ⟨xs', ps', r, ⟨a, b, us, qs⟩, v, n, k⟩ ⟨h⟩
    dsimp only at h ⊢
    obtain ⟨rfl, rfl, rfl, rfl, rfl, rfl, rfl, rfl, k0, k1, h2⟩ := h
    have hf : us.length = (delB xs' (atB xs' id)).length := by rw [h2]; exact length_fill _ _ (by omega)
    refine ifB_of (fun c1 => ?_) (fun c1 => ?_)
    · have c1 := of_decide_eq_true c1
      have e1 : (k + 1).toNat = k.toNat + 1 := by omega
      have w : IntKind.i64.wrap (k + 1) = k + 1 := wrap_small (by omega) (by omega)
      have hy : Ty.ix .body us k.toNat = Ty.ix .body (delB xs' (atB xs' id)) k.toNat := by rw [h2]; exact ix_fill (T := .body) _ _ (by omega)
      have hstep := fill_step (fun e => wake (Ty.ix .body xs' (atB xs' id)) (Ty.ix .body (delB xs' (atB xs' id)) e)) (delB xs' (atB xs' id)) (i := k.toNat) (by omega)
      rw [← h2] at hstep
      have stay : wake (Ty.ix .body xs' (atB xs' id)) (Ty.ix .body (delB xs' (atB xs' id)) k.toNat) = Ty.ix .body (delB xs' (atB xs' id)) k.toNat → us = fill (fun e => wake (Ty.ix .body xs' (atB xs' id)) (Ty.ix .body (delB xs' (atB xs' id)) e)) (delB xs' (atB xs' id)) (k.toNat + 1) := by
        intro q
        rw [← hstep, q, ← hy]
        exact (set_ix (T := .body) us (by omega)).symm
      rw [w, e1, hy]
      refine ⟨⟨k0, by omega⟩, ifB_of (fun d2 => ifB_of (fun d3 => ⟨⟨(by trivial), (by trivial), (by trivial), (by trivial), (by trivial), (by trivial), (by trivial), (by trivial), by omega, by omega, ?_⟩, by omega⟩) (fun d3 => ⟨⟨(by trivial), (by trivial), (by trivial), (by trivial), (by trivial), (by trivial), (by trivial), (by trivial), by omega, by omega, stay ?_⟩, by omega⟩)) (fun d2 => ⟨⟨(by trivial), (by trivial), (by trivial), (by trivial), (by trivial), (by trivial), (by trivial), (by trivial), by omega, by omega, stay ?_⟩, by omega⟩)⟩
      · rw [setC_quiet, ← hstep, hy]
        unfold wake touchB
        rw [d2, d3]
        rfl
      · unfold wake touchB
        rw [d2, d3]
        rfl
      · unfold wake touchB
        rw [d2]
        rfl
    · have c1 := of_decide_eq_false c1
      rw [fill_end _ _ (by omega), gen_map] at h2
      rw [h2]
      simp [orI, orL, goneCode, goneBodies, gonePairs, not_false c, not_false c2])

theorem length_goneW (ok : Bool) (xs : List Body) (id : Int) : (orL ok (goneBodies xs id)).length ≤ xs.length := by
  refine Nat.le_trans (length_orL _ _) ?_
  unfold goneBodies delB
  cases hasB xs id
  · simp
  · simp only [cond_true, List.length_map, List.length_append, List.length_take, List.length_drop]
    omega
theorem length_goneP (ok : Bool) (xs : List Body) (ps : List Pair) (id : Int) : (orL ok (gonePairs xs ps id)).length ≤ ps.length := by
  refine Nat.le_trans (length_orL _ _) ?_
  unfold gonePairs
  cases hasB xs id
  · simp
  · exact List.length_filter_le _ _
end Go.Proofs.YtnahfbjdicjdpaaGreat.Sym

namespace Go.Proofs.YtnahfbjdicjdpaaGreat.Sym
open Go
set_option linter.unusedVariables false
set_option linter.unusedSimpArgs false
set_option maxRecDepth 100000
noncomputable section
theorem square_turn {a b : Vec} (ha : placeV a) (hb : placeV b) : square (minus b a) = square (minus a b) := by
  rw [(minus_place ha hb).1, (minus_place hb ha).1]
  unfold square
  dsimp only
  rw [show a.X - b.X = -(b.X - a.X) by omega, show a.Y - b.Y = -(b.Y - a.Y) by omega, Int.neg_mul_neg, Int.neg_mul_neg]
theorem rounds_turn {a b : Vec} (m : Int) (ha : placeV a) (hb : placeV b) : (roundsF (minus b a) m).2 = (roundsF (minus a b) m).2 := by
  unfold roundsF
  rw [square_turn ha hb]
  split <;> rfl
theorem meets_turn (a b : Box) : boxMeets a b = boxMeets b a := by
  unfold boxMeets
  rw [Bool.and_comm (decide (a.Low.X ≤ b.High.X)), Bool.and_assoc, Bool.and_assoc, Bool.and_assoc, Bool.and_assoc, Bool.and_comm (decide (a.Low.Y ≤ b.High.Y))]
theorem touchF_turn {a b : Shape} {p q : Vec} (ha : shapeOk a = true) (hb : shapeOk b = true) (hp : placeV p) (hq : placeV q) : (touchF a p b q).2 = (touchF b q a p).2 := by
  obtain ⟨_, _, ka, _⟩ := shapeOk_le ha
  obtain ⟨_, _, kb, _⟩ := shapeOk_le hb
  unfold touchF
  rcases ka with ka | ka <;> rcases kb with kb | kb
  · rw [ka, kb, Int.add_comm b.Wide]
    exact rounds_turn _ hp hq
  · rw [ka, kb]
    show (bif (mixedF (bounds b q) p a.Wide).2 then (turnH (mixedF (bounds b q) p a.Wide).1, true) else (⟨⟨0, 0⟩, 0⟩, false)).2 = (mixedF (bounds b q) p a.Wide).2
    cases (mixedF (bounds b q) p a.Wide).2 <;> rfl
  · rw [ka, kb]
    show (mixedF (bounds a p) q b.Wide).2 = (bif (mixedF (bounds a p) q b.Wide).2 then (turnH (mixedF (bounds a p) q b.Wide).1, true) else (⟨⟨0, 0⟩, 0⟩, false)).2
    cases (mixedF (bounds a p) q b.Wide).2 <;> rfl
  · rw [ka, kb]
    show (boxesF (bounds a p) (bounds b q)).2 = (boxesF (bounds b q) (bounds a p)).2
    unfold boxesF
    rw [meets_turn (bounds a p)]
    cases boxMeets (bounds b q) (bounds a p) <;> rfl
theorem touchB_turn {a b : Body} (ha : bodyOk a = true) (hb : bodyOk b = true) : (touchB a b).2 = (touchB b a).2 := by
  rw [touch_all ha hb, touch_all hb ha]
  have h1 := bok_iff.1 ha
  have h2 := bok_iff.1 hb
  exact touchF_turn h1.2.1 h2.2.1 h1.2.2.1 h2.2.2.1
theorem id_inj {xs : List Body} (h : bodiesOk xs = true) {a b : Nat} (ha : a < xs.length) (hb : b < xs.length) (e : (Ty.ix .body xs a).Id = (Ty.ix .body xs b).Id) : a = b := by
  rcases Nat.lt_trichotomy a b with q | q | q
  · have := bodies_lt h q hb
    omega
  · exact q
  · have := bodies_lt h q ha
    omega
theorem hasB_iff {xs : List Body} (h : bodiesOk xs = true) {id : Int} : hasB xs id = true ↔ ∃ e, e < xs.length ∧ (Ty.ix .body xs e).Id = id := by
  constructor
  · intro q
    exact ⟨_, hasB_id q⟩
  · rintro ⟨e, he, rfl⟩
    exact (hasB_self h he).1
theorem ix_delB {xs : List Body} {k e : Nat} (hk : k < xs.length) (he : e < (delB xs k).length) : Ty.ix .body (delB xs k) e = Ty.ix .body xs (if e < k then e else e + 1) := by
  have hl : (xs.take k).length = k := by simp; omega
  unfold delB
  simp only [Ty.ix, List.getD_eq_getElem?_getD]
  by_cases c : e < k
  · rw [if_pos c, List.getElem?_append_left (by omega), List.getElem?_take_of_lt c]
  · rw [if_neg c, List.getElem?_append_right (by omega), hl, List.getElem?_drop]
    congr 2
    omega
theorem ix_mapB {xs : List Body} {f : Body → Body} {e : Nat} (he : e < xs.length) : Ty.ix .body (xs.map f) e = f (Ty.ix .body xs e) := by
  apply ix_eq (T := .body)
  rw [List.getElem?_map, ix_get (T := .body) he]
  rfl
theorem wake_id (b y : Body) : (wake b y).Id = y.Id := by
  unfold wake
  cases (touchB b y).2 && y.Quiet == 8 <;> rfl
theorem wake_ok {b y : Body} (h : bodyOk y = true) : bodyOk (wake b y) = true := by
  unfold wake
  cases (touchB b y).2 && y.Quiet == 8
  · exact h
  · simp only [cond_true]
    rw [bok_iff] at h ⊢
    obtain ⟨h1, h2, h3, h4, h5, h6, h7, h8, h9, h10⟩ := h
    exact ⟨h1, h2, h3, h4, h5, h6, h7, ⟨by dsimp only; omega, by dsimp only; omega⟩, fun e => ⟨(h9 e).1, (h9 e).2.1, rfl⟩, fun _ => .inl (by dsimp only; omega)⟩
theorem wake_up {b y : Body} (h : (touchB b y).2 = true) : (wake b y).Quiet ≠ 8 := by
  unfold wake
  rw [h, Bool.true_and]
  cases q : y.Quiet == 8 with
  | false => exact beq_eq_false_iff_ne.1 q
  | true =>
    simp only [cond_true]
    omega
theorem gone_eq {xs : List Body} {id : Int} (h : hasB xs id = true) : goneBodies xs id = (delB xs (atB xs id)).map (wake (Ty.ix .body xs (atB xs id))) := by
  unfold goneBodies
  rw [h]
  rfl
theorem length_gone {xs : List Body} {id : Int} (h : hasB xs id = true) : (goneBodies xs id).length = xs.length - 1 := by
  rw [gone_eq h, List.length_map, length_delB (hasB_id h).1]
theorem ix_gone {xs : List Body} {id : Int} (h : hasB xs id = true) {e : Nat} (he : e < (goneBodies xs id).length) : Ty.ix .body (goneBodies xs id) e = wake (Ty.ix .body xs (atB xs id)) (Ty.ix .body xs (if e < atB xs id then e else e + 1)) := by
  have he2 : e < (delB xs (atB xs id)).length := by rwa [gone_eq h, List.length_map] at he
  rw [gone_eq h, ix_mapB he2, ix_delB (hasB_id h).1 he2]
theorem gone_ok {xs : List Body} {id : Int} (hok : bodiesOk xs = true) (h : hasB xs id = true) : bodiesOk (goneBodies xs id) = true := by
  have hl := length_gone h
  have hk := (hasB_id h).1
  obtain ⟨h1, h2, h3⟩ := bodiesOk_iff.1 hok
  refine bodiesOk_iff.2 ⟨by omega, fun e he => ?_, fun e he => ?_⟩
  · rw [ix_gone h he]
    exact wake_ok (h2 _ (by split <;> omega))
  · rw [ix_gone h he, ix_gone h (show e < _ by omega), wake_id, wake_id]
    refine bodies_lt hok ?_ ?_ <;> (repeat' split) <;> omega
theorem gone_has {xs : List Body} {id n : Int} (hok : bodiesOk xs = true) (h : hasB xs id = true) : hasB (goneBodies xs id) n = true ↔ (hasB xs n = true ∧ n ≠ id) := by
  have hl := length_gone h
  obtain ⟨hk, hi⟩ := hasB_id h
  rw [hasB_iff (gone_ok hok h), hasB_iff hok]
  constructor
  · rintro ⟨e, he, q⟩
    rw [ix_gone h he, wake_id] at q
    have hlt : (if e < atB xs id then e else e + 1) < xs.length := by split <;> omega
    refine ⟨⟨_, hlt, q⟩, fun z => ?_⟩
    have := id_inj hok hlt hk (by rw [q, hi, z])
    split at this <;> omega
  · rintro ⟨⟨e, he, q⟩, z⟩
    have hne : e ≠ atB xs id := fun w => z (by rw [← q, w, hi])
    by_cases c : e < atB xs id
    · refine ⟨e, by omega, ?_⟩
      rw [ix_gone h (by omega), wake_id, if_pos c, q]
    · refine ⟨e - 1, by omega, ?_⟩
      rw [ix_gone h (by omega), wake_id, if_neg (by omega), show e - 1 + 1 = e by omega, q]
theorem gone_world {t p : Int} {xs : List Body} {ps : List Pair} {id : Int} (hw : worldOk t p xs ps = true) (h : hasB xs id = true) : worldOk t p (goneBodies xs id) (ps.filter (keepP id)) = true := by
  have hok := worldOk_bodies hw
  obtain ⟨t0, t1, p0, p1⟩ := worldOk_t hw
  refine worldOk_of ⟨t0, t1⟩ ⟨p0, p1⟩ (gone_ok hok h) (fun q hq => ?_) ((sorted_of hw).filter _)
  obtain ⟨q1, q2⟩ := List.mem_filter.1 hq
  obtain ⟨r1, r2, r3⟩ := in_of hw q1
  unfold keepP at q2
  simp only [Bool.and_eq_true, Bool.not_eq_true', beq_eq_false_iff_ne] at q2
  exact ⟨(gone_has hok h).2 ⟨r1, q2.1⟩, (gone_has hok h).2 ⟨r2, q2.2⟩, r3⟩
/-- Who touched what was taken out is awake. -/
theorem gone_awake {xs : List Body} {id : Int} (hok : bodiesOk xs = true) (h : hasB xs id = true) {q : Pair} (hq : q ∈ stepPairs xs) {o : Int} (ho : (q.A = id ∧ o = q.B) ∨ (q.B = id ∧ o = q.A)) {e : Nat} (he : e < (goneBodies xs id).length) (hi : (Ty.ix .body (goneBodies xs id) e).Id = o) :
    (Ty.ix .body (goneBodies xs id) e).Quiet ≠ 8 := by
  obtain ⟨_, c, hc, e1⟩ := step_pairs_of hq
  obtain ⟨a, b, q1, q2, q3, q4, q5⟩ := mem_contactsF hc
  rw [q3] at e1
  have eA : q.A = (Ty.ix .body xs a).Id := by rw [e1]; rfl
  have eB : q.B = (Ty.ix .body xs b).Id := by rw [e1]; rfl
  obtain ⟨hk, hid⟩ := hasB_id h
  have hl := length_gone h
  rw [ix_gone h he] at hi ⊢
  rw [wake_id] at hi
  have hlt : (if e < atB xs id then e else e + 1) < xs.length := by split <;> omega
  apply wake_up
  rcases ho with ⟨w1, w2⟩ | ⟨w1, w2⟩
  · rw [id_inj hok hlt q2 (by omega), id_inj hok hk (show a < xs.length by omega) (by omega)]
    exact q4
  · rw [id_inj hok hlt (show a < xs.length by omega) (by omega), id_inj hok hk q2 (by omega), touchB_turn (bodiesOk_each hok q2) (bodiesOk_each hok (by omega))]
    exact q4
theorem ix_insB {xs : List Body} {k : Nat} {b : Body} (hk : k ≤ xs.length) (e : Nat) : Ty.ix .body (insB xs k b) e = if e < k then Ty.ix .body xs e else if e = k then b else Ty.ix .body xs (e - 1) := by
  have hl : (xs.take k).length = k := by simp; omega
  have e1 : insB xs k b = xs.take k ++ b :: xs.drop k := by simp [insB]
  rw [e1]
  simp only [Ty.ix, List.getD_eq_getElem?_getD]
  by_cases c : e < k
  · rw [if_pos c, List.getElem?_append_left (by omega), List.getElem?_take_of_lt c]
  · rw [if_neg c, List.getElem?_append_right (by omega), hl]
    by_cases c2 : e = k
    · rw [if_pos c2, show e - k = 0 by omega]
      rfl
    · rw [if_neg c2, show e - k = (e - k - 1) + 1 by omega, List.getElem?_cons_succ, List.getElem?_drop]
      congr 2
      omega
theorem length_insB {xs : List Body} {k : Nat} {b : Body} (hk : k ≤ xs.length) : (insB xs k b).length = xs.length + 1 := by
  simp only [insB, List.length_append, List.length_take, List.length_drop, List.length_singleton]
  omega
theorem atB_lo {xs : List Body} {id : Int} {e : Nat} (he : e < atB xs id) : (Ty.ix .body xs e).Id < id := by
  have := (pref_spec (T := .body) (p := fun y : Body => decide (y.Id < id)) xs).2.1 e he
  exact of_decide_eq_true this
theorem atB_hi {xs : List Body} {id : Int} (hok : bodiesOk xs = true) (hn : hasB xs id = false) {e : Nat} (he : atB xs id ≤ e) (hl : e < xs.length) : id < (Ty.ix .body xs e).Id := by
  have h1 := (pref_spec (T := .body) (p := fun y : Body => decide (y.Id < id)) xs).2.2 (show atB xs id < xs.length by omega)
  have h1 : ¬ (Ty.ix .body xs (atB xs id)).Id < id := of_decide_eq_false h1
  have h2 : (Ty.ix .body xs (atB xs id)).Id ≠ id := fun q => by
    have := (hasB_iff hok).2 ⟨_, show atB xs id < xs.length by omega, q⟩
    rw [hn] at this
    cases this
  by_cases c : e = atB xs id
  · rw [c]
    omega
  · have := bodies_lt hok (show atB xs id < e by omega) hl
    omega
theorem ins_ok {xs : List Body} {b : Body} (hok : bodiesOk xs = true) (hn : hasB xs b.Id = false) (hb : bodyOk b = true) (hl : xs.length < 12) : bodiesOk (insB xs (atB xs b.Id) b) = true := by
  have hk := atB_le xs b.Id
  have hlen := length_insB (b := b) hk
  obtain ⟨h1, h2, h3⟩ := bodiesOk_iff.1 hok
  refine bodiesOk_iff.2 ⟨by omega, fun e he => ?_, fun e he => ?_⟩
  · rw [ix_insB hk]
    by_cases c : e < atB xs b.Id
    · rw [if_pos c]; exact h2 _ (by omega)
    · rw [if_neg c]
      by_cases c2 : e = atB xs b.Id
      · rw [if_pos c2]; exact hb
      · rw [if_neg c2]; exact h2 _ (by omega)
  · rw [ix_insB hk, ix_insB hk]
    by_cases c : e + 1 < atB xs b.Id
    · rw [if_pos c, if_pos (by omega)]
      exact h3 e (by omega)
    · rw [if_neg c]
      by_cases c2 : e + 1 = atB xs b.Id
      · rw [if_pos c2, if_pos (by omega)]
        exact atB_lo (by omega)
      · rw [if_neg c2, if_neg (by omega)]
        by_cases c3 : e = atB xs b.Id
        · rw [if_pos c3]
          exact atB_hi hok hn (by omega) (by omega)
        · rw [if_neg c3]
          exact bodies_lt hok (by omega) (by omega)
theorem ins_has {xs : List Body} {b : Body} (hok : bodiesOk xs = true) (hn : hasB xs b.Id = false) (hb : bodyOk b = true) (hl : xs.length < 12) : hasB (insB xs (atB xs b.Id) b) b.Id = true ∧ atB (insB xs (atB xs b.Id) b) b.Id = atB xs b.Id ∧ ∀ n, hasB xs n = true → hasB (insB xs (atB xs b.Id) b) n = true := by
  have hk := atB_le xs b.Id
  have hlen := length_insB (b := b) hk
  have hio := ins_ok hok hn hb hl
  have e0 : Ty.ix .body (insB xs (atB xs b.Id) b) (atB xs b.Id) = b := by
    rw [ix_insB hk, if_neg (by omega), if_pos rfl]
  have h0 := hasB_self hio (a := atB xs b.Id) (by omega)
  rw [e0] at h0
  refine ⟨h0.1, h0.2, fun n h => ?_⟩
  obtain ⟨q1, q2⟩ := hasB_id h
  by_cases c : atB xs n < atB xs b.Id
  · exact (hasB_iff hio).2 ⟨atB xs n, by omega, by rw [ix_insB hk, if_pos c]; exact q2⟩
  · exact (hasB_iff hio).2 ⟨atB xs n + 1, by omega, by rw [ix_insB hk, if_neg (by omega), if_neg (by omega), show atB xs n + 1 - 1 = atB xs n by omega]; exact q2⟩
theorem del_ins {xs : List Body} {k : Nat} {b : Body} (hk : k ≤ xs.length) : delB (insB xs k b) k = xs := by
  have hl : (xs.take k).length = k := by simp; omega
  have hl2 : (xs.take k ++ [b]).length = k + 1 := by simp; omega
  unfold delB insB
  rw [List.drop_left' hl2, List.append_assoc, List.take_left' hl, List.take_append_drop]
theorem ins_world {t p : Int} {xs : List Body} {ps : List Pair} {b : Body} (hw : worldOk t p xs ps = true) (hn : hasB xs b.Id = false) (hb : bodyOk b = true) (hl : xs.length < 12) : worldOk t p (insB xs (atB xs b.Id) b) ps = true := by
  have hok := worldOk_bodies hw
  obtain ⟨t0, t1, p0, p1⟩ := worldOk_t hw
  refine worldOk_of ⟨t0, t1⟩ ⟨p0, p1⟩ (ins_ok hok hn hb hl) (fun q hq => ?_) (sorted_of hw)
  obtain ⟨r1, r2, r3⟩ := in_of hw hq
  have := (ins_has hok hn hb hl).2.2
  exact ⟨this _ r1, this _ r2, r3⟩
theorem put_eq {xs : List Body} {b : Body} (hn : hasB xs b.Id = false) (hb : bodyOk b = true) (hl : xs.length < 12) : putBodies xs b = insB xs (atB xs b.Id) b := by
  unfold putBodies
  rw [hb, hn, decide_eq_false (show ¬ xs.length ≥ 12 by omega)]
  rfl
/-- Put and taken out again: all others are as they were, but for being awake. -/
theorem put_gone {xs : List Body} {b : Body} (hok : bodiesOk xs = true) (hn : hasB xs b.Id = false) (hb : bodyOk b = true) (hl : xs.length < 12) : goneBodies (insB xs (atB xs b.Id) b) b.Id = xs.map (wake b) := by
  have hk := atB_le xs b.Id
  obtain ⟨h1, h2, _⟩ := ins_has hok hn hb hl
  rw [gone_eq h1, h2, del_ins hk, ix_insB hk, if_neg (by omega), if_pos rfl]
end
end Go.Proofs.YtnahfbjdicjdpaaGreat.Sym

namespace Go.Proofs.YtnahfbjdicjdpaaGreat.Sym
open Go
set_option linter.unusedVariables false
set_option linter.unusedSimpArgs false
set_option maxRecDepth 100000

noncomputable def fs_lawsPqWorld : Fs := ⟨[], fun args H => match args, H with
  | [.agg [.int .i64 t, .int .i64 p, .vec 0, .vec 1], .agg [.int .i64 t', .int .i64 p', .vec 2, .vec 3]], [(false, .vec .body xs), (false, .vec .pair ps), (false, .vec .body ys), (false, .vec .pair qs)] => some ((some (xs.length ≤ 4611686018427387904 ∧ ps.length ≤ 4611686018427387904)), .bool (eqW4 t p xs ps t' p' ys qs), [(false, .vec .body xs), (false, .vec .pair ps), (false, .vec .body ys), (false, .vec .pair qs)])
  | _, _ => none⟩

theorem vc_lawsPqWorld (t : Int) (p : Int) (t' : Int) (p' : Int) (xs : List Body) (ps : List Pair) (ys : List Body) (qs : List Pair) (Q : SV → List Ent → Prop) :
    fnVC tt (look [(17, fs_lawsPqBodies), (37, fs_lawsPqPairs)]) L0 Tryz.f34 [.agg [.int .i64 t, .int .i64 p, .vec 0, .vec 1], .agg [.int .i64 t', .int .i64 p', .vec 2, .vec 3]] [(false, .vec .body xs), (false, .vec .pair ps), (false, .vec .body ys), (false, .vec .pair qs)] Q =
    (ifB (t == t') (ifB (p == p') (List.length xs ≤ (4611686018427387904 : Nat) ∧ ifB (same xs ys) (List.length ps ≤ (4611686018427387904 : Nat) ∧ Q (SV.bool (same ps qs)) [(false, Blk.vec Ty.body xs), (false, Blk.vec Ty.pair ps), (false, Blk.vec Ty.body ys), (false, Blk.vec Ty.pair qs)]) (Q (SV.bool false) [(false, Blk.vec Ty.body xs), (false, Blk.vec Ty.pair ps), (false, Blk.vec Ty.body ys), (false, Blk.vec Ty.pair qs)])) (Q (SV.bool false) [(false, Blk.vec Ty.body xs), (false, Blk.vec Ty.pair ps), (false, Blk.vec Ty.body ys), (false, Blk.vec Ty.pair qs)])) (Q (SV.bool false) [(false, Blk.vec Ty.body xs), (false, Blk.vec Ty.pair ps), (false, Blk.vec Ty.body ys), (false, Blk.vec Ty.pair qs)])) := by kernel_rfl

theorem ok_lawsPqWorld : FsOk Tryz.prog 34 fs_lawsPqWorld := fsOk_of tt_ok (tabFs_cons ok_lawsPqBodies (tabFs_cons ok_lawsPqPairs tabFs_nil)) mixed Tryz.func34 (by kernel_rfl) (by kernel_rfl) (by
    intro args LL p r HH h hp
    unfold fs_lawsPqWorld at h
    dsimp only at h
    split at h
    case h_2 => cases h
    rename_i t p t' p' xs ps ys qs
    simp only [Option.some.injEq, Prod.mk.injEq] at h
    obtain ⟨rfl, rfl, rfl⟩ := h
    refine ⟨by simp [Form, stays], L0, ?_⟩
    rw [vc_lawsPqWorld]
    try dsimp only
    obtain ⟨hb, hb2⟩ := hp _ rfl
    refine ifB_of (fun c => ifB_of (fun c2 => ⟨hb, ifB_of (fun c3 => ⟨hb2, ?_⟩) (fun c3 => ?_)⟩) (fun c2 => ?_)) (fun c => ?_)
    · simp [eqW4, c, c2, c3]
    · simp [eqW4, c, c2, c3]
    · simp [eqW4, c, c2]
    · simp [eqW4, c])

end Go.Proofs.YtnahfbjdicjdpaaGreat.Sym

namespace Go.Proofs.YtnahfbjdicjdpaaGreat.Sym
open Go
set_option linter.unusedVariables false
set_option linter.unusedSimpArgs false
set_option maxRecDepth 100000
noncomputable section
def LSlwg1  : LS where
  S := List Int × (Int × Int × List Body × List Pair) × Int × (Int × Int × List Body × List Pair) × Int × Int
  live := [(3, [none]), (4, [none]), (5, [none]), (10, [none]), (11, [none])]
  shape := fun s => ([.ptr 3 0 0, .int .i64 s.2.2.1, .ptr 6 0 0, .int .i64 s.2.2.2.2.1, .int .i64 s.2.2.2.2.2], [(false, .vec .byte s.1), (true, .vec .body s.2.1.2.2.1), (true, .vec .pair s.2.1.2.2.2), (true, .box [.int .i64 s.2.1.1, .int .i64 s.2.1.2.1, .vec 1, .vec 2]), (true, .vec .body s.2.2.2.1.2.2.1), (true, .vec .pair s.2.2.2.1.2.2.2), (true, .box [.int .i64 s.2.2.2.1.1, .int .i64 s.2.2.2.1.2.1, .vec 4, .vec 5])])
  get := fun v h => match v, h with
    | [.ptr 3 0 0, .int .i64 id, .ptr 6 0 0, .int .i64 ag, .int .i64 i], [(false, .vec .byte b), (true, .vec .body wd_2), (true, .vec .pair wd_3), (true, .box [.int .i64 wd_0, .int .i64 wd_1, .vec 1, .vec 2]), (true, .vec .body wx_2), (true, .vec .pair wx_3), (true, .box [.int .i64 wx_0, .int .i64 wx_1, .vec 4, .vec 5])] => some (b, (wd_0, wd_1, wd_2, wd_3), id, (wx_0, wx_1, wx_2, wx_3), ag, i)
    | _, _ => none
  inv := fun s0 s => Holds (s.1 = s0.1 ∧ s.2.1 = s0.2.1 ∧ s.2.2.1 = s0.2.2.1 ∧ s.2.2.2.1 = s0.2.2.2.1 ∧ s.2.2.2.2.1 = s0.2.2.2.2.1 ∧ 0 ≤ s.2.2.2.2.2 ∧ s.2.2.2.2.2 ≤ s0.2.2.2.1.2.2.2.length)
  mu := fun s => ((s.2.2.2.1.2.2.2.length : Int) - s.2.2.2.2.2).toNat
  ok := by
    intro v h s hg
    try dsimp only at hg
    split at hg <;> cases hg
    rfl

def LSlwg2  : LS where
  S := List Int × (Int × Int × List Body × List Pair) × Int × (Int × Int × List Body × List Pair) × Int × List Pair × Int
  live := [(3, [none]), (4, [none]), (5, [none]), (10, [none]), (12, [some .pair]), (13, [none])]
  shape := fun s => ([.ptr 3 0 0, .int .i64 s.2.2.1, .ptr 6 0 0, .int .i64 s.2.2.2.2.1, .vec 7, .int .i64 s.2.2.2.2.2.2], [(false, .vec .byte s.1), (true, .vec .body s.2.1.2.2.1), (true, .vec .pair s.2.1.2.2.2), (true, .box [.int .i64 s.2.1.1, .int .i64 s.2.1.2.1, .vec 1, .vec 2]), (true, .vec .body s.2.2.2.1.2.2.1), (true, .vec .pair s.2.2.2.1.2.2.2), (true, .box [.int .i64 s.2.2.2.1.1, .int .i64 s.2.2.2.1.2.1, .vec 4, .vec 5]), (true, .vec .pair s.2.2.2.2.2.1)])
  get := fun v h => match v, h with
    | [.ptr 3 0 0, .int .i64 id, .ptr 6 0 0, .int .i64 ag, .vec 7, .int .i64 i], [(false, .vec .byte b), (true, .vec .body wd_2), (true, .vec .pair wd_3), (true, .box [.int .i64 wd_0, .int .i64 wd_1, .vec 1, .vec 2]), (true, .vec .body wx_2), (true, .vec .pair wx_3), (true, .box [.int .i64 wx_0, .int .i64 wx_1, .vec 4, .vec 5]), (true, .vec .pair qs)] => some (b, (wd_0, wd_1, wd_2, wd_3), id, (wx_0, wx_1, wx_2, wx_3), ag, qs, i)
    | _, _ => none
  inv := fun s0 s => Holds (s.1 = s0.1 ∧ s.2.1 = s0.2.1 ∧ s.2.2.1 = s0.2.2.1 ∧ s.2.2.2.1 = s0.2.2.2.1 ∧ s.2.2.2.2.1 = s0.2.2.2.2.1 ∧ s.2.2.2.2.2.1 = s0.2.2.2.2.2.1 ∧ 0 ≤ s.2.2.2.2.2.2 ∧ s.2.2.2.2.2.2 ≤ s0.2.2.2.2.2.1.length)
  mu := fun s => ((s.2.2.2.2.2.1.length : Int) - s.2.2.2.2.2.2).toNat
  ok := by
    intro v h s hg
    try dsimp only at hg
    split at hg <;> cases hg
    rfl

def LSlwg3  : LS where
  S := List Int × (Int × Int × List Body × List Pair) × Int × (Int × Int × List Body × List Pair) × Int × List Pair × Int × Int × Int
  live := [(3, [none]), (4, [none]), (5, [none]), (10, [none]), (12, [some .pair]), (13, [none]), (14, [none]), (15, [none])]
  shape := fun s => ([.ptr 3 0 0, .int .i64 s.2.2.1, .ptr 6 0 0, .int .i64 s.2.2.2.2.1, .vec 7, .int .i64 s.2.2.2.2.2.2.1, .int .i64 s.2.2.2.2.2.2.2.1, .int .i64 s.2.2.2.2.2.2.2.2], [(false, .vec .byte s.1), (true, .vec .body s.2.1.2.2.1), (true, .vec .pair s.2.1.2.2.2), (true, .box [.int .i64 s.2.1.1, .int .i64 s.2.1.2.1, .vec 1, .vec 2]), (true, .vec .body s.2.2.2.1.2.2.1), (true, .vec .pair s.2.2.2.1.2.2.2), (true, .box [.int .i64 s.2.2.2.1.1, .int .i64 s.2.2.2.1.2.1, .vec 4, .vec 5]), (true, .vec .pair s.2.2.2.2.2.1)])
  get := fun v h => match v, h with
    | [.ptr 3 0 0, .int .i64 id, .ptr 6 0 0, .int .i64 ag, .vec 7, .int .i64 i, .int .i64 o, .int .i64 j], [(false, .vec .byte b), (true, .vec .body wd_2), (true, .vec .pair wd_3), (true, .box [.int .i64 wd_0, .int .i64 wd_1, .vec 1, .vec 2]), (true, .vec .body wx_2), (true, .vec .pair wx_3), (true, .box [.int .i64 wx_0, .int .i64 wx_1, .vec 4, .vec 5]), (true, .vec .pair qs)] => some (b, (wd_0, wd_1, wd_2, wd_3), id, (wx_0, wx_1, wx_2, wx_3), ag, qs, i, o, j)
    | _, _ => none
  inv := fun s0 s => Holds (s.1 = s0.1 ∧ s.2.1 = s0.2.1 ∧ s.2.2.1 = s0.2.2.1 ∧ s.2.2.2.1 = s0.2.2.2.1 ∧ s.2.2.2.2.1 = s0.2.2.2.2.1 ∧ s.2.2.2.2.2.1 = s0.2.2.2.2.2.1 ∧ s.2.2.2.2.2.2.1 = s0.2.2.2.2.2.2.1 ∧ s.2.2.2.2.2.2.2.1 = s0.2.2.2.2.2.2.2.1 ∧ 0 ≤ s.2.2.2.2.2.2.2.2 ∧ s.2.2.2.2.2.2.2.2 ≤ s0.2.2.2.1.2.2.1.length)
  mu := fun s => ((s.2.2.2.1.2.2.1.length : Int) - s.2.2.2.2.2.2.2.2).toNat
  ok := by
    intro v h s hg
    try dsimp only at hg
    split at hg <;> cases hg
    rfl

def L_lawWorldGone : Loops := fun n => match n with
  | 10 => some LSlwg1
  | 16 => some LSlwg2
  | 24 => some LSlwg3
  | _ => none
noncomputable def fs_lawWorldGone : Fs := ⟨[], fun args H => match args, H with
  | [.vec 0], [(false, .vec .byte b)] => some ((some (LOk .byte b)), .bool (true), [(false, .vec .byte b)])
  | _, _ => none⟩

theorem vc_lawWorldGone (b : List Int) (Q : SV → List Ent → Prop) :
    fnVC tt (look [(39, fs_DrawWorldGone), (40, fs_implWorldGone), (41, fs_specWorldGone), (34, fs_lawsPqWorld), (35, fs_specWorldOk), (38, fs_implStepPairs), (22, fs_implBodySleeps), (36, fs_implWorldOk)]) (L_lawWorldGone) Tryz.f10 [.vec 0] [(false, .vec .byte b)] Q =
    (let w_ := IntKind.wrap IntKind.i64; let n_ := Int.toNat; let ip_ := Ty.ix Ty.pair; let vy_ := Blk.vec Ty.byte; let A58_ := (4611686018427387904 : Nat); let A57_ := (false, vy_ b); let A52_ := (Subtype.val (g_DrawWorldGone b)); let A56_ := (Prod.fst (Prod.fst A52_)); let A55_ := (Prod.fst (Prod.snd (Prod.fst A52_))); let A51_ := (Prod.snd (Prod.snd (Prod.fst A52_))); let A62_ := (!worldOk A56_ A55_ (Prod.fst A51_) (Prod.snd A51_)); let A50_ := (worldOk A56_ A55_ (Prod.fst A51_) (Prod.snd A51_)); let A63_ := (goneCode A50_ (Prod.fst A51_) (Prod.snd A52_) == (0 : Int)); let A59_ := (goneCode A50_ (Prod.fst A51_) (Prod.snd A52_) == goneCode A50_ (Prod.fst A51_) (Prod.snd A52_)); let A54_ := (orL A50_ (goneBodies (Prod.fst A51_) (Prod.snd A52_))); let A53_ := (orL A50_ (gonePairs (Prod.fst A51_) (Prod.snd A51_) (Prod.snd A52_))); let A61_ := (eqW4 (orI A50_ A56_) (orI A50_ A55_) A54_ A53_ A56_ A55_ (Prod.fst A51_) (Prod.snd A51_)); let A60_ := (eqW4 (orI A50_ A56_) (orI A50_ A55_) A54_ A53_ (orI A50_ A56_) (orI A50_ A55_) A54_ A53_); ifB (decide ((↑(List.length b) : Int) > (1048576 : Int))) (Q (SV.bool true) [A57_]) (BytesOk b ∧ (List.length (Prod.fst A51_) ≤ (1048576 : Nat) ∧ List.length (Prod.snd A51_) ≤ (1048576 : Nat)) ∧ (List.length (Prod.fst A51_) ≤ (1048576 : Nat) ∧ List.length (Prod.snd A51_) ≤ (1048576 : Nat)) ∧ ifB (goneCode A50_ (Prod.fst A51_) (Prod.snd A52_) != goneCode A50_ (Prod.fst A51_) (Prod.snd A52_)) (ifB A59_ ((List.length A54_ ≤ A58_ ∧ List.length A53_ ≤ A58_) ∧ ifB A60_ ((List.length (Prod.fst A51_) ≤ (1048576 : Nat) ∧ List.length (Prod.snd A51_) ≤ (1048576 : Nat)) ∧ ifB A62_ (Q (SV.bool true) [A57_]) (ifB A63_ (Q (SV.bool true) [A57_]) ((List.length A54_ ≤ A58_ ∧ List.length A53_ ≤ A58_) ∧ Q (SV.bool A61_) [A57_]))) (Q (SV.bool false) [A57_])) (Q (SV.bool false) [A57_])) ((List.length A54_ ≤ A58_ ∧ List.length A53_ ≤ A58_) ∧ ifB (!eqW4 (orI A50_ A56_) (orI A50_ A55_) A54_ A53_ (orI A50_ A56_) (orI A50_ A55_) A54_ A53_) (ifB A59_ ((List.length A54_ ≤ A58_ ∧ List.length A53_ ≤ A58_) ∧ ifB A60_ ((List.length (Prod.fst A51_) ≤ (1048576 : Nat) ∧ List.length (Prod.snd A51_) ≤ (1048576 : Nat)) ∧ ifB A62_ (Q (SV.bool true) [A57_]) (ifB A63_ (Q (SV.bool true) [A57_]) ((List.length A54_ ≤ A58_ ∧ List.length A53_ ≤ A58_) ∧ Q (SV.bool A61_) [A57_]))) (Q (SV.bool false) [A57_])) (Q (SV.bool false) [A57_])) ((List.length (Prod.fst A51_) ≤ (1048576 : Nat) ∧ List.length (Prod.snd A51_) ≤ (1048576 : Nat)) ∧ ifB A62_ (ifB A59_ ((List.length A54_ ≤ A58_ ∧ List.length A53_ ≤ A58_) ∧ ifB A60_ ((List.length (Prod.fst A51_) ≤ (1048576 : Nat) ∧ List.length (Prod.snd A51_) ≤ (1048576 : Nat)) ∧ ifB A62_ (Q (SV.bool true) [A57_]) (ifB A63_ (Q (SV.bool true) [A57_]) ((List.length A54_ ≤ A58_ ∧ List.length A53_ ≤ A58_) ∧ Q (SV.bool A61_) [A57_]))) (Q (SV.bool false) [A57_])) (Q (SV.bool false) [A57_])) (ifB (goneCode A50_ (Prod.fst A51_) (Prod.snd A52_) != (0 : Int)) (ifB A59_ ((List.length A54_ ≤ A58_ ∧ List.length A53_ ≤ A58_) ∧ ifB A60_ ((List.length (Prod.fst A51_) ≤ (1048576 : Nat) ∧ List.length (Prod.snd A51_) ≤ (1048576 : Nat)) ∧ ifB A62_ (Q (SV.bool true) [A57_]) (ifB A63_ (Q (SV.bool true) [A57_]) ((List.length A54_ ≤ A58_ ∧ List.length A53_ ≤ A58_) ∧ Q (SV.bool A61_) [A57_]))) (Q (SV.bool false) [A57_])) (Q (SV.bool false) [A57_])) ((List.length A54_ ≤ (1048576 : Nat) ∧ List.length A53_ ≤ (1048576 : Nat)) ∧ Holds (b = b ∧ Prod.fst A52_ = Prod.fst A52_ ∧ Prod.snd A52_ = Prod.snd A52_ ∧ (orI A50_ A56_, orI A50_ A55_, orL A50_ (goneBodies (Prod.fst A51_) (Prod.snd A52_)), orL A50_ (gonePairs (Prod.fst A51_) (Prod.snd A51_) (Prod.snd A52_))) = (orI A50_ A56_, orI A50_ A55_, orL A50_ (goneBodies (Prod.fst A51_) (Prod.snd A52_)), orL A50_ (gonePairs (Prod.fst A51_) (Prod.snd A51_) (Prod.snd A52_))) ∧ goneCode (worldOk (orI A50_ A56_) (orI A50_ A55_) A54_ A53_) A54_ (Prod.snd A52_) = goneCode (worldOk (orI A50_ A56_) (orI A50_ A55_) A54_ A53_) A54_ (Prod.snd A52_) ∧ (0 : Int) ≤ (0 : Int) ∧ (0 : Int) ≤ (↑(List.length A53_) : Int)) ∧ ∀ (y41 : List Int × (Int × Int × List Body × List Pair) × Int × (Int × Int × List Body × List Pair) × Int × Int), let y41f0_ := Prod.fst y41; let y41s1_ := Prod.snd y41; let y41f1_ := Prod.fst (Prod.snd y41); let y41f2_ := Prod.fst (Prod.snd (Prod.snd y41)); let y41f3_ := Prod.fst (Prod.snd (Prod.snd (Prod.snd y41))); let y41s4_ := Prod.snd (Prod.snd (Prod.snd (Prod.snd y41))); let y41f4_ := Prod.fst (Prod.snd (Prod.snd (Prod.snd (Prod.snd y41)))); let y41s5_ := Prod.snd (Prod.snd (Prod.snd (Prod.snd (Prod.snd y41)))); let A48_ := (Prod.fst (Prod.snd (Prod.snd y41f1_))); let A46_ := (↑(List.length (Prod.snd (Prod.snd (Prod.snd y41f3_)))) : Int); let A43_ := A52_; let A49_ := (Prod.fst (Prod.snd (Prod.fst A43_))); let A44_ := (Prod.snd (Prod.snd (Prod.fst A43_))); let A47_ := (goneBodies (Prod.fst A44_) (Prod.snd A43_)); let A45_ := (gonePairs (Prod.fst A44_) (Prod.snd A44_) (Prod.snd A43_)); let A42_ := (worldOk (Prod.fst (Prod.fst A43_)) A49_ (Prod.fst A44_) (Prod.snd A44_)); Holds (Prod.fst y41 = b ∧ y41f1_ = Prod.fst A43_ ∧ y41f2_ = Prod.snd A43_ ∧ y41f3_ = (orI A42_ (Prod.fst (Prod.fst A43_)), orI A42_ A49_, orL A42_ A47_, orL A42_ A45_) ∧ y41f4_ = goneCode (worldOk (orI A42_ (Prod.fst (Prod.fst A43_))) (orI A42_ A49_) (orL A42_ A47_) (orL A42_ A45_)) (orL A42_ A47_) (Prod.snd A43_) ∧ (0 : Int) ≤ y41s5_ ∧ y41s5_ ≤ (↑(List.length (orL A42_ A45_)) : Int)) → ifB (decide (Prod.snd y41s4_ < A46_)) (((0 : Int) ≤ y41s5_ ∧ y41s5_ < A46_) ∧ ifB (Pair.A (ip_ (Prod.snd (Prod.snd (Prod.snd y41f3_))) (n_ y41s5_)) == y41f2_) (Q (SV.bool false) [(false, vy_ y41f0_)]) (((0 : Int) ≤ y41s5_ ∧ y41s5_ < A46_) ∧ ifB (Pair.B (ip_ (Prod.snd (Prod.snd (Prod.snd y41f3_))) (n_ y41s5_)) == y41f2_) (Q (SV.bool false) [(false, vy_ y41f0_)]) (Holds (Prod.fst y41 = b ∧ y41f1_ = Prod.fst A43_ ∧ y41f2_ = Prod.snd A43_ ∧ y41f3_ = (orI A42_ (Prod.fst (Prod.fst A43_)), orI A42_ A49_, orL A42_ A47_, orL A42_ A45_) ∧ y41f4_ = goneCode (worldOk (orI A42_ (Prod.fst (Prod.fst A43_))) (orI A42_ A49_) (orL A42_ A47_) (orL A42_ A45_)) (orL A42_ A47_) (Prod.snd A43_) ∧ (0 : Int) ≤ w_ (Prod.snd y41s4_ + (1 : Int)) ∧ w_ (Prod.snd y41s4_ + (1 : Int)) ≤ (↑(List.length (orL A42_ A45_)) : Int)) ∧ n_ (A46_ - w_ (Prod.snd y41s4_ + (1 : Int))) < n_ (A46_ - y41s5_)))) (List.length A48_ ≤ (1048576 : Nat) ∧ Holds (Prod.fst y41 = y41f0_ ∧ y41f1_ = y41f1_ ∧ y41f2_ = y41f2_ ∧ y41f3_ = y41f3_ ∧ y41f4_ = y41f4_ ∧ stepPairs A48_ = stepPairs A48_ ∧ (0 : Int) ≤ (0 : Int) ∧ (0 : Int) ≤ (↑(List.length (stepPairs A48_)) : Int)) ∧ ∀ (y32 : List Int × (Int × Int × List Body × List Pair) × Int × (Int × Int × List Body × List Pair) × Int × List Pair × Int), let y32f0_ := Prod.fst y32; let y32s1_ := Prod.snd y32; let y32f1_ := Prod.fst (Prod.snd y32); let y32f2_ := Prod.fst (Prod.snd (Prod.snd y32)); let y32s3_ := Prod.snd (Prod.snd (Prod.snd y32)); let y32f3_ := Prod.fst (Prod.snd (Prod.snd (Prod.snd y32))); let y32s4_ := Prod.snd (Prod.snd (Prod.snd (Prod.snd y32))); let y32f4_ := Prod.fst (Prod.snd (Prod.snd (Prod.snd (Prod.snd y32)))); let y32f5_ := Prod.fst (Prod.snd (Prod.snd (Prod.snd (Prod.snd (Prod.snd y32))))); let y32s6_ := Prod.snd (Prod.snd (Prod.snd (Prod.snd (Prod.snd (Prod.snd y32))))); let A40_ := (Prod.snd (Prod.snd y32f3_)); let A38_ := (↑(List.length y32f5_) : Int); let A37_ := (Int × Int × List Body × List Pair); let A36_ := (↑(List.length (Prod.fst A40_)) : Int); let A35_ := (Prod.snd (Prod.snd y41s1_)); let A34_ := (ip_ y32f5_ (n_ y32s6_)); let A33_ := A48_; let A39_ := (↑(List.length (stepPairs A33_)) : Int); Holds (Prod.fst y32 = y41f0_ ∧ y32f1_ = y41f1_ ∧ y32f2_ = y41f2_ ∧ y32f3_ = Prod.fst A35_ ∧ y32f4_ = Prod.fst (Prod.snd A35_) ∧ y32f5_ = stepPairs A33_ ∧ (0 : Int) ≤ y32s6_ ∧ y32s6_ ≤ A39_) → ifB (decide (Prod.snd (Prod.snd y32s4_) < A38_)) (((0 : Int) ≤ y32s6_ ∧ y32s6_ < A38_) ∧ ifB (Pair.A A34_ == y32f2_) (((0 : Int) ≤ y32s6_ ∧ y32s6_ < A38_) ∧ ((0 : Int) ≤ y32s6_ ∧ y32s6_ < A38_) ∧ ifB (Pair.B A34_ == y32f2_) (((0 : Int) ≤ y32s6_ ∧ y32s6_ < A38_) ∧ Holds (Prod.fst y32 = y32f0_ ∧ y32f1_ = y32f1_ ∧ y32f2_ = y32f2_ ∧ y32f3_ = y32f3_ ∧ y32f4_ = y32f4_ ∧ y32f5_ = y32f5_ ∧ y32s6_ = y32s6_ ∧ Pair.A A34_ = Pair.A A34_ ∧ (0 : Int) ≤ (0 : Int) ∧ (0 : Int) ≤ A36_) ∧ ∀ (y24 : List Int × A37_ × Int × A37_ × Int × List Pair × Int × Int × Int), let y24f0_ := Prod.fst y24; let y24s1_ := Prod.snd y24; let y24f1_ := Prod.fst (Prod.snd y24); let y24f2_ := Prod.fst (Prod.snd (Prod.snd y24)); let y24f3_ := Prod.fst (Prod.snd (Prod.snd (Prod.snd y24))); let y24f4_ := Prod.fst (Prod.snd (Prod.snd (Prod.snd (Prod.snd y24)))); let y24f5_ := Prod.fst (Prod.snd (Prod.snd (Prod.snd (Prod.snd (Prod.snd y24))))); let y24s6_ := Prod.snd (Prod.snd (Prod.snd (Prod.snd (Prod.snd (Prod.snd y24))))); let y24f6_ := Prod.fst (Prod.snd (Prod.snd (Prod.snd (Prod.snd (Prod.snd (Prod.snd y24)))))); let y24s7_ := Prod.snd (Prod.snd (Prod.snd (Prod.snd (Prod.snd (Prod.snd (Prod.snd y24)))))); let y24f7_ := Prod.fst (Prod.snd (Prod.snd (Prod.snd (Prod.snd (Prod.snd (Prod.snd (Prod.snd y24))))))); let y24s8_ := Prod.snd (Prod.snd (Prod.snd (Prod.snd (Prod.snd (Prod.snd (Prod.snd (Prod.snd y24))))))); let A30_ := (Prod.snd y24s7_ + (1 : Int)); let A28_ := (Ty.ix Ty.body (Prod.fst (Prod.snd (Prod.snd y24f3_))) (n_ y24s8_)); let A26_ := (↑(List.length (Prod.fst (Prod.snd (Prod.snd y24f3_)))) : Int); let A25_ := y32s3_; let A29_ := (↑(List.length (Prod.fst (Prod.snd (Prod.snd (Prod.fst A25_))))) : Int); let A27_ := (Prod.snd (Prod.snd A25_)); let A31_ := (ip_ (Prod.fst A27_) (n_ (Prod.snd A27_))); Holds (Prod.fst y24 = y32f0_ ∧ y24f1_ = y32f1_ ∧ y24f2_ = y32f2_ ∧ y24f3_ = Prod.fst A25_ ∧ y24f4_ = Prod.fst (Prod.snd A25_) ∧ y24f5_ = Prod.fst A27_ ∧ y24f6_ = Prod.snd A27_ ∧ y24f7_ = Pair.A A31_ ∧ (0 : Int) ≤ y24s8_ ∧ y24s8_ ≤ A29_) → ifB (decide (Prod.snd y24s7_ < A26_)) (((0 : Int) ≤ y24s8_ ∧ y24s8_ < A26_) ∧ ifB (Body.Id A28_ == y24f7_) (((0 : Int) ≤ y24s8_ ∧ y24s8_ < A26_) ∧ ifB (bodyOk A28_ && Body.Quiet A28_ == (8 : Int)) (Q (SV.bool false) [(false, vy_ y24f0_)]) (Holds (Prod.fst y24 = y32f0_ ∧ y24f1_ = y32f1_ ∧ y24f2_ = y32f2_ ∧ y24f3_ = Prod.fst A25_ ∧ y24f4_ = Prod.fst (Prod.snd A25_) ∧ y24f5_ = Prod.fst A27_ ∧ y24f6_ = Prod.snd A27_ ∧ y24f7_ = Pair.A A31_ ∧ (0 : Int) ≤ w_ A30_ ∧ w_ A30_ ≤ A29_) ∧ n_ (A26_ - w_ A30_) < n_ (A26_ - y24s8_))) (Holds (Prod.fst y24 = y32f0_ ∧ y24f1_ = y32f1_ ∧ y24f2_ = y32f2_ ∧ y24f3_ = Prod.fst A25_ ∧ y24f4_ = Prod.fst (Prod.snd A25_) ∧ y24f5_ = Prod.fst A27_ ∧ y24f6_ = Prod.snd A27_ ∧ y24f7_ = Pair.A A31_ ∧ (0 : Int) ≤ w_ A30_ ∧ w_ A30_ ≤ A29_) ∧ n_ (A26_ - w_ A30_) < n_ (A26_ - y24s8_))) (Holds (Prod.fst y24 = y41f0_ ∧ y24f1_ = y41f1_ ∧ y24f2_ = y41f2_ ∧ y24f3_ = Prod.fst A35_ ∧ y24f4_ = Prod.fst (Prod.snd A35_) ∧ y24f5_ = stepPairs A33_ ∧ (0 : Int) ≤ w_ (Prod.fst y24s6_ + (1 : Int)) ∧ w_ (Prod.fst y24s6_ + (1 : Int)) ≤ A39_) ∧ n_ ((↑(List.length y24f5_) : Int) - w_ (Prod.fst y24s6_ + (1 : Int))) < n_ ((↑(List.length (Prod.fst A27_)) : Int) - Prod.snd A27_))) (Holds (Prod.fst y32 = y32f0_ ∧ y32f1_ = y32f1_ ∧ y32f2_ = y32f2_ ∧ y32f3_ = y32f3_ ∧ y32f4_ = y32f4_ ∧ y32f5_ = y32f5_ ∧ y32s6_ = y32s6_ ∧ Pair.B A34_ = Pair.B A34_ ∧ (0 : Int) ≤ (0 : Int) ∧ (0 : Int) ≤ A36_) ∧ ∀ (y16 : List Int × A37_ × Int × A37_ × Int × List Pair × Int × Int × Int), let y16f0_ := Prod.fst y16; let y16s1_ := Prod.snd y16; let y16f1_ := Prod.fst (Prod.snd y16); let y16f2_ := Prod.fst (Prod.snd (Prod.snd y16)); let y16f3_ := Prod.fst (Prod.snd (Prod.snd (Prod.snd y16))); let y16f4_ := Prod.fst (Prod.snd (Prod.snd (Prod.snd (Prod.snd y16)))); let y16f5_ := Prod.fst (Prod.snd (Prod.snd (Prod.snd (Prod.snd (Prod.snd y16))))); let y16s6_ := Prod.snd (Prod.snd (Prod.snd (Prod.snd (Prod.snd (Prod.snd y16))))); let y16f6_ := Prod.fst (Prod.snd (Prod.snd (Prod.snd (Prod.snd (Prod.snd (Prod.snd y16)))))); let y16s7_ := Prod.snd (Prod.snd (Prod.snd (Prod.snd (Prod.snd (Prod.snd (Prod.snd y16)))))); let y16f7_ := Prod.fst (Prod.snd (Prod.snd (Prod.snd (Prod.snd (Prod.snd (Prod.snd (Prod.snd y16))))))); let y16s8_ := Prod.snd (Prod.snd (Prod.snd (Prod.snd (Prod.snd (Prod.snd (Prod.snd (Prod.snd y16))))))); let A22_ := (Prod.snd y16s7_ + (1 : Int)); let A20_ := (Ty.ix Ty.body (Prod.fst (Prod.snd (Prod.snd y16f3_))) (n_ y16s8_)); let A18_ := (↑(List.length (Prod.fst (Prod.snd (Prod.snd y16f3_)))) : Int); let A17_ := y32s3_; let A21_ := (↑(List.length (Prod.fst (Prod.snd (Prod.snd (Prod.fst A17_))))) : Int); let A19_ := (Prod.snd (Prod.snd A17_)); let A23_ := (ip_ (Prod.fst A19_) (n_ (Prod.snd A19_))); Holds (Prod.fst y16 = y32f0_ ∧ y16f1_ = y32f1_ ∧ y16f2_ = y32f2_ ∧ y16f3_ = Prod.fst A17_ ∧ y16f4_ = Prod.fst (Prod.snd A17_) ∧ y16f5_ = Prod.fst A19_ ∧ y16f6_ = Prod.snd A19_ ∧ y16f7_ = Pair.B A23_ ∧ (0 : Int) ≤ y16s8_ ∧ y16s8_ ≤ A21_) → ifB (decide (Prod.snd y16s7_ < A18_)) (((0 : Int) ≤ y16s8_ ∧ y16s8_ < A18_) ∧ ifB (Body.Id A20_ == y16f7_) (((0 : Int) ≤ y16s8_ ∧ y16s8_ < A18_) ∧ ifB (bodyOk A20_ && Body.Quiet A20_ == (8 : Int)) (Q (SV.bool false) [(false, vy_ y16f0_)]) (Holds (Prod.fst y16 = y32f0_ ∧ y16f1_ = y32f1_ ∧ y16f2_ = y32f2_ ∧ y16f3_ = Prod.fst A17_ ∧ y16f4_ = Prod.fst (Prod.snd A17_) ∧ y16f5_ = Prod.fst A19_ ∧ y16f6_ = Prod.snd A19_ ∧ y16f7_ = Pair.B A23_ ∧ (0 : Int) ≤ w_ A22_ ∧ w_ A22_ ≤ A21_) ∧ n_ (A18_ - w_ A22_) < n_ (A18_ - y16s8_))) (Holds (Prod.fst y16 = y32f0_ ∧ y16f1_ = y32f1_ ∧ y16f2_ = y32f2_ ∧ y16f3_ = Prod.fst A17_ ∧ y16f4_ = Prod.fst (Prod.snd A17_) ∧ y16f5_ = Prod.fst A19_ ∧ y16f6_ = Prod.snd A19_ ∧ y16f7_ = Pair.B A23_ ∧ (0 : Int) ≤ w_ A22_ ∧ w_ A22_ ≤ A21_) ∧ n_ (A18_ - w_ A22_) < n_ (A18_ - y16s8_))) (Holds (Prod.fst y16 = y41f0_ ∧ y16f1_ = y41f1_ ∧ y16f2_ = y41f2_ ∧ y16f3_ = Prod.fst A35_ ∧ y16f4_ = Prod.fst (Prod.snd A35_) ∧ y16f5_ = stepPairs A33_ ∧ (0 : Int) ≤ w_ (Prod.fst y16s6_ + (1 : Int)) ∧ w_ (Prod.fst y16s6_ + (1 : Int)) ≤ A39_) ∧ n_ ((↑(List.length y16f5_) : Int) - w_ (Prod.fst y16s6_ + (1 : Int))) < n_ ((↑(List.length (Prod.fst A19_)) : Int) - Prod.snd A19_)))) (((0 : Int) ≤ y32s6_ ∧ y32s6_ < A38_) ∧ ifB (Pair.B A34_ == y32f2_) (((0 : Int) ≤ y32s6_ ∧ y32s6_ < A38_) ∧ Holds (Prod.fst y32 = y32f0_ ∧ y32f1_ = y32f1_ ∧ y32f2_ = y32f2_ ∧ y32f3_ = y32f3_ ∧ y32f4_ = y32f4_ ∧ y32f5_ = y32f5_ ∧ y32s6_ = y32s6_ ∧ Pair.A A34_ = Pair.A A34_ ∧ (0 : Int) ≤ (0 : Int) ∧ (0 : Int) ≤ A36_) ∧ ∀ (y8 : List Int × A37_ × Int × A37_ × Int × List Pair × Int × Int × Int), let y8f0_ := Prod.fst y8; let y8s1_ := Prod.snd y8; let y8f1_ := Prod.fst (Prod.snd y8); let y8f2_ := Prod.fst (Prod.snd (Prod.snd y8)); let y8f3_ := Prod.fst (Prod.snd (Prod.snd (Prod.snd y8))); let y8f4_ := Prod.fst (Prod.snd (Prod.snd (Prod.snd (Prod.snd y8)))); let y8f5_ := Prod.fst (Prod.snd (Prod.snd (Prod.snd (Prod.snd (Prod.snd y8))))); let y8s6_ := Prod.snd (Prod.snd (Prod.snd (Prod.snd (Prod.snd (Prod.snd y8))))); let y8f6_ := Prod.fst (Prod.snd (Prod.snd (Prod.snd (Prod.snd (Prod.snd (Prod.snd y8)))))); let y8s7_ := Prod.snd (Prod.snd (Prod.snd (Prod.snd (Prod.snd (Prod.snd (Prod.snd y8)))))); let y8f7_ := Prod.fst (Prod.snd (Prod.snd (Prod.snd (Prod.snd (Prod.snd (Prod.snd (Prod.snd y8))))))); let y8s8_ := Prod.snd (Prod.snd (Prod.snd (Prod.snd (Prod.snd (Prod.snd (Prod.snd (Prod.snd y8))))))); let A14_ := (Prod.snd y8s7_ + (1 : Int)); let A12_ := (Ty.ix Ty.body (Prod.fst (Prod.snd (Prod.snd y8f3_))) (n_ y8s8_)); let A10_ := (↑(List.length (Prod.fst (Prod.snd (Prod.snd y8f3_)))) : Int); let A9_ := y32s3_; let A13_ := (↑(List.length (Prod.fst (Prod.snd (Prod.snd (Prod.fst A9_))))) : Int); let A11_ := (Prod.snd (Prod.snd A9_)); let A15_ := (ip_ (Prod.fst A11_) (n_ (Prod.snd A11_))); Holds (Prod.fst y8 = y32f0_ ∧ y8f1_ = y32f1_ ∧ y8f2_ = y32f2_ ∧ y8f3_ = Prod.fst A9_ ∧ y8f4_ = Prod.fst (Prod.snd A9_) ∧ y8f5_ = Prod.fst A11_ ∧ y8f6_ = Prod.snd A11_ ∧ y8f7_ = Pair.A A15_ ∧ (0 : Int) ≤ y8s8_ ∧ y8s8_ ≤ A13_) → ifB (decide (Prod.snd y8s7_ < A10_)) (((0 : Int) ≤ y8s8_ ∧ y8s8_ < A10_) ∧ ifB (Body.Id A12_ == y8f7_) (((0 : Int) ≤ y8s8_ ∧ y8s8_ < A10_) ∧ ifB (bodyOk A12_ && Body.Quiet A12_ == (8 : Int)) (Q (SV.bool false) [(false, vy_ y8f0_)]) (Holds (Prod.fst y8 = y32f0_ ∧ y8f1_ = y32f1_ ∧ y8f2_ = y32f2_ ∧ y8f3_ = Prod.fst A9_ ∧ y8f4_ = Prod.fst (Prod.snd A9_) ∧ y8f5_ = Prod.fst A11_ ∧ y8f6_ = Prod.snd A11_ ∧ y8f7_ = Pair.A A15_ ∧ (0 : Int) ≤ w_ A14_ ∧ w_ A14_ ≤ A13_) ∧ n_ (A10_ - w_ A14_) < n_ (A10_ - y8s8_))) (Holds (Prod.fst y8 = y32f0_ ∧ y8f1_ = y32f1_ ∧ y8f2_ = y32f2_ ∧ y8f3_ = Prod.fst A9_ ∧ y8f4_ = Prod.fst (Prod.snd A9_) ∧ y8f5_ = Prod.fst A11_ ∧ y8f6_ = Prod.snd A11_ ∧ y8f7_ = Pair.A A15_ ∧ (0 : Int) ≤ w_ A14_ ∧ w_ A14_ ≤ A13_) ∧ n_ (A10_ - w_ A14_) < n_ (A10_ - y8s8_))) (Holds (Prod.fst y8 = y41f0_ ∧ y8f1_ = y41f1_ ∧ y8f2_ = y41f2_ ∧ y8f3_ = Prod.fst A35_ ∧ y8f4_ = Prod.fst (Prod.snd A35_) ∧ y8f5_ = stepPairs A33_ ∧ (0 : Int) ≤ w_ (Prod.fst y8s6_ + (1 : Int)) ∧ w_ (Prod.fst y8s6_ + (1 : Int)) ≤ A39_) ∧ n_ ((↑(List.length y8f5_) : Int) - w_ (Prod.fst y8s6_ + (1 : Int))) < n_ ((↑(List.length (Prod.fst A11_)) : Int) - Prod.snd A11_))) (Holds (Prod.fst y32 = y32f0_ ∧ y32f1_ = y32f1_ ∧ y32f2_ = y32f2_ ∧ y32f3_ = y32f3_ ∧ y32f4_ = y32f4_ ∧ y32f5_ = y32f5_ ∧ y32s6_ = y32s6_ ∧ (-1 : Int) = (-1 : Int) ∧ (0 : Int) ≤ (0 : Int) ∧ (0 : Int) ≤ A36_) ∧ ∀ (y1 : List Int × A37_ × Int × A37_ × Int × List Pair × Int × Int × Int), let y1f0_ := Prod.fst y1; let y1s1_ := Prod.snd y1; let y1f1_ := Prod.fst (Prod.snd y1); let y1f2_ := Prod.fst (Prod.snd (Prod.snd y1)); let y1f3_ := Prod.fst (Prod.snd (Prod.snd (Prod.snd y1))); let y1f4_ := Prod.fst (Prod.snd (Prod.snd (Prod.snd (Prod.snd y1)))); let y1f5_ := Prod.fst (Prod.snd (Prod.snd (Prod.snd (Prod.snd (Prod.snd y1))))); let y1s6_ := Prod.snd (Prod.snd (Prod.snd (Prod.snd (Prod.snd (Prod.snd y1))))); let y1f6_ := Prod.fst (Prod.snd (Prod.snd (Prod.snd (Prod.snd (Prod.snd (Prod.snd y1)))))); let y1s7_ := Prod.snd (Prod.snd (Prod.snd (Prod.snd (Prod.snd (Prod.snd (Prod.snd y1)))))); let y1f7_ := Prod.fst (Prod.snd (Prod.snd (Prod.snd (Prod.snd (Prod.snd (Prod.snd (Prod.snd y1))))))); let y1s8_ := Prod.snd (Prod.snd (Prod.snd (Prod.snd (Prod.snd (Prod.snd (Prod.snd (Prod.snd y1))))))); let A7_ := (Prod.snd y1s7_ + (1 : Int)); let A5_ := (Ty.ix Ty.body (Prod.fst (Prod.snd (Prod.snd y1f3_))) (n_ y1s8_)); let A3_ := (↑(List.length (Prod.fst (Prod.snd (Prod.snd y1f3_)))) : Int); let A2_ := y32s3_; let A6_ := (↑(List.length (Prod.fst (Prod.snd (Prod.snd (Prod.fst A2_))))) : Int); let A4_ := (Prod.snd (Prod.snd A2_)); Holds (Prod.fst y1 = y32f0_ ∧ y1f1_ = y32f1_ ∧ y1f2_ = y32f2_ ∧ y1f3_ = Prod.fst A2_ ∧ y1f4_ = Prod.fst (Prod.snd A2_) ∧ y1f5_ = Prod.fst A4_ ∧ y1f6_ = Prod.snd A4_ ∧ y1f7_ = (-1 : Int) ∧ (0 : Int) ≤ y1s8_ ∧ y1s8_ ≤ A6_) → ifB (decide (Prod.snd y1s7_ < A3_)) (((0 : Int) ≤ y1s8_ ∧ y1s8_ < A3_) ∧ ifB (Body.Id A5_ == y1f7_) (((0 : Int) ≤ y1s8_ ∧ y1s8_ < A3_) ∧ ifB (bodyOk A5_ && Body.Quiet A5_ == (8 : Int)) (Q (SV.bool false) [(false, vy_ y1f0_)]) (Holds (Prod.fst y1 = y32f0_ ∧ y1f1_ = y32f1_ ∧ y1f2_ = y32f2_ ∧ y1f3_ = Prod.fst A2_ ∧ y1f4_ = Prod.fst (Prod.snd A2_) ∧ y1f5_ = Prod.fst A4_ ∧ y1f6_ = Prod.snd A4_ ∧ y1f7_ = (-1 : Int) ∧ (0 : Int) ≤ w_ A7_ ∧ w_ A7_ ≤ A6_) ∧ n_ (A3_ - w_ A7_) < n_ (A3_ - y1s8_))) (Holds (Prod.fst y1 = y32f0_ ∧ y1f1_ = y32f1_ ∧ y1f2_ = y32f2_ ∧ y1f3_ = Prod.fst A2_ ∧ y1f4_ = Prod.fst (Prod.snd A2_) ∧ y1f5_ = Prod.fst A4_ ∧ y1f6_ = Prod.snd A4_ ∧ y1f7_ = (-1 : Int) ∧ (0 : Int) ≤ w_ A7_ ∧ w_ A7_ ≤ A6_) ∧ n_ (A3_ - w_ A7_) < n_ (A3_ - y1s8_))) (Holds (Prod.fst y1 = y41f0_ ∧ y1f1_ = y41f1_ ∧ y1f2_ = y41f2_ ∧ y1f3_ = Prod.fst A35_ ∧ y1f4_ = Prod.fst (Prod.snd A35_) ∧ y1f5_ = stepPairs A33_ ∧ (0 : Int) ≤ w_ (Prod.fst y1s6_ + (1 : Int)) ∧ w_ (Prod.fst y1s6_ + (1 : Int)) ≤ A39_) ∧ n_ ((↑(List.length y1f5_) : Int) - w_ (Prod.fst y1s6_ + (1 : Int))) < n_ ((↑(List.length (Prod.fst A4_)) : Int) - Prod.snd A4_))))) ((List.length (Prod.fst A40_) ≤ (1048576 : Nat) ∧ List.length (Prod.snd A40_) ≤ (1048576 : Nat)) ∧ ifB (worldOk (Prod.fst y32f3_) (Prod.fst (Prod.snd y32f3_)) (Prod.fst A40_) (Prod.snd A40_)) (ifB (Prod.fst y32s4_ == (4 : Int)) (Q (SV.bool (w_ (A36_ + (1 : Int)) == (↑(List.length (Prod.fst (Prod.snd (Prod.snd y32f1_)))) : Int))) [(false, vy_ y32f0_)]) (Q (SV.bool false) [(false, vy_ y32f0_)])) (Q (SV.bool false) [(false, vy_ y32f0_)]))))))))) := by kernel_rfl

theorem ok_lawWorldGone : FsOk Tryz.prog 10 fs_lawWorldGone := fsOk_of tt_ok (tabFs_cons ok_DrawWorldGone (tabFs_cons ok_implWorldGone (tabFs_cons ok_specWorldGone (tabFs_cons ok_lawsPqWorld (tabFs_cons ok_specWorldOk (tabFs_cons ok_implStepPairs (tabFs_cons ok_implBodySleeps (tabFs_cons ok_implWorldOk tabFs_nil)))))))) mixed Tryz.func10 (by kernel_rfl) (by kernel_rfl) (by
    intro args LL p r HH h hp
    unfold fs_lawWorldGone at h
    dsimp only at h
    split at h
    case h_2 => cases h
    rename_i b
    simp only [Option.some.injEq, Prod.mk.injEq] at h
    obtain ⟨rfl, rfl, rfl⟩ := h
    refine ⟨by simp [Form, stays], (L_lawWorldGone), ?_⟩
    rw [vc_lawWorldGone]
    try dsimp only
    have hb := bytesOk_of (hp _ rfl)
    generalize g_DrawWorldGone b = z
    obtain ⟨⟨⟨t, p, xs, ps⟩, id⟩, hz⟩ := z
    have hz : worldD (t, p, xs, ps) := hz
    simp only [worldD] at hz
    dsimp only
    simp only [eqW4_self, bne_self_eq_false, beq_self_eq_true, Bool.not_true, ifBt, ifBf]
    have gB := length_goneW (worldOk t p xs ps) xs id
    have gP := length_goneP (worldOk t p xs ps) xs ps id
    refine ifB_of (fun c => ⟨(by trivial), (by trivial)⟩) (fun c => ⟨hb, ⟨by omega, by omega⟩, ⟨by omega, by omega⟩, ⟨by omega, by omega⟩, ⟨by omega, by omega⟩, ifB_of (fun d => ?_) (fun d => ifB_of (fun e => ?_) (fun e => ?_))⟩)
    · rw [d]
      simp only [ifBt]
      exact ⟨⟨by omega, by omega⟩, ⟨by omega, by omega⟩, (by trivial), (by trivial)⟩
    · have hW := not_false d
      have hz2 : hasB xs id = false := by
        cases q : hasB xs id with
        | false => rfl
        | true => simp [goneCode, hW, q] at e
      have e0 : (goneCode (worldOk t p xs ps) xs id == 0) = false := by simp [goneCode, hW, hz2]
      have x1 : goneBodies xs id = xs := by simp [goneBodies, hz2]
      have x2 : gonePairs xs ps id = ps := by simp [gonePairs, hz2]
      rw [d, e0]
      simp only [ifBf, orI, orL, hW, cond_true, x1, x2, eqW4_self]
      exact ⟨⟨by omega, by omega⟩, ⟨by omega, by omega⟩, ⟨by omega, by omega⟩, (by trivial), (by trivial)⟩
    have hW := not_false d
    have hok := worldOk_bodies hW
    have hh : hasB xs id = true := by
      cases q : hasB xs id with
      | true => rfl
      | false => simp [goneCode, hW, q] at e
    have x2 : gonePairs xs ps id = ps.filter (keepP id) := by simp [gonePairs, hh]
    have hlg := length_gone hh
    have hk := (hasB_id hh).1
    have hlx := bodiesOk_len hok
    have hWx := gone_world hW hh
    have hyk := gone_ok hok hh
    have hng : hasB (goneBodies xs id) id = false := by
      cases q : hasB (goneBodies xs id) id with
      | false => rfl
      | true => exact absurd rfl ((gone_has hok hh).1 q).2
    simp only [orI, orL, hW, cond_true, x2] at gB gP ⊢
    have hag : goneCode (worldOk t p (goneBodies xs id) (ps.filter (keepP id))) (goneBodies xs id) id = 4 := by simp [goneCode, hWx, hng]
    have gS := length_stepPairs xs
    rw [hag]
    refine ⟨⟨by omega, by omega⟩, ⟨(by trivial), (by trivial), (by trivial), (by trivial), (by trivial), by omega, by omega⟩, ?_⟩
    rintro ⟨b', ⟨t', p', xs', ps'⟩, id', ⟨t2, p2, ys2, qs⟩, ag, i⟩ ⟨h⟩
    dsimp only at h ⊢
    obtain ⟨rfl, hwd, rfl, hwx, rfl, i0, i1⟩ := h
    cases hwd
    cases hwx
    refine ifB_of (fun c1 => ?_) (fun c1 => ?_)
    · have ci := of_decide_eq_true c1
      have w : IntKind.i64.wrap (i + 1) = i + 1 := wrap_small (by omega) (by omega)
      have hm := (List.mem_filter.1 (ix_mem (T := .pair) (show i.toNat < (ps.filter (keepP id')).length by omega))).2
      unfold keepP at hm
      simp only [Bool.and_eq_true, Bool.not_eq_true'] at hm
      have m1 : ((Ty.ix .pair (ps.filter (keepP id')) i.toNat).A == id') = false := hm.1
      have m2 : ((Ty.ix .pair (ps.filter (keepP id')) i.toNat).B == id') = false := hm.2
      unfold keepP at m1 m2 ⊢
      rw [w, m1, m2]
      simp only [ifBf]
      refine ⟨⟨i0, ?_⟩, ⟨i0, ?_⟩, ⟨(by trivial), (by trivial), (by trivial), (by trivial), (by trivial), by omega, ?_⟩, ?_⟩ <;> unfold keepP at ci i1 <;> omega
    · clear c1 i0 i1
      refine ⟨by omega, ⟨(by trivial), (by trivial), (by trivial), (by trivial), (by trivial), (by trivial), by omega, by omega⟩, ?_⟩
      rintro ⟨b2, ⟨ta, pa, xa, qa⟩, id2, ⟨tb, pb, xb, qb⟩, ag2, qs2, i⟩ ⟨h⟩
      dsimp only at h ⊢
      obtain ⟨rfl, hwd, rfl, hwx, rfl, rfl, i0, i1⟩ := h
      cases hwd
      cases hwx
      have slp : ∀ o, (∀ e, e < (goneBodies xs id2).length → (Ty.ix .body (goneBodies xs id2) e).Id = o → (Ty.ix .body (goneBodies xs id2) e).Quiet ≠ 8) → ∀ e, e < (goneBodies xs id2).length → (Ty.ix .body (goneBodies xs id2) e).Id = o → (bodyOk (Ty.ix .body (goneBodies xs id2) e) && (Ty.ix .body (goneBodies xs id2) e).Quiet == 8) = false := fun o ho e he hi => by
        rw [beq_eq_false_iff_ne.2 (ho e he hi), Bool.and_false]
      refine ifB_of (fun c2 => ?_) (fun c2 => ?_)
      · have ci := of_decide_eq_true c2
        clear c2
        have wi : IntKind.i64.wrap (i + 1) = i + 1 := wrap_small (by omega) (by omega)
        have hmem : Ty.ix .pair (stepPairs xs) i.toNat ∈ stepPairs xs := ix_mem (T := .pair) (by omega)
        have aw := fun {o e} ho he hi => gone_awake hok hh hmem (o := o) ho (e := e) he hi
        refine ⟨⟨i0, ci⟩, ifB_of (fun a1 => ⟨⟨i0, ci⟩, ⟨i0, ci⟩, ifB_of (fun a2 => ⟨⟨i0, ci⟩, ⟨(by trivial), (by trivial), (by trivial), (by trivial), (by trivial), (by trivial), (by trivial), (by trivial), by omega, by omega⟩, ?_⟩) (fun a2 => ⟨⟨(by trivial), (by trivial), (by trivial), (by trivial), (by trivial), (by trivial), (by trivial), (by trivial), by omega, by omega⟩, ?_⟩)⟩) (fun a1 => ⟨⟨i0, ci⟩, ifB_of (fun a2 => ⟨⟨i0, ci⟩, ⟨(by trivial), (by trivial), (by trivial), (by trivial), (by trivial), (by trivial), (by trivial), (by trivial), by omega, by omega⟩, ?_⟩) (fun a2 => ⟨⟨(by trivial), (by trivial), (by trivial), (by trivial), (by trivial), (by trivial), (by trivial), (by trivial), by omega, by omega⟩, ?_⟩)⟩)⟩
        · have hF := slp (Ty.ix .pair (stepPairs xs) i.toNat).A (fun e he hi => aw (.inr ⟨eq_of_beq a2, rfl⟩) he hi)
          rintro ⟨b3, ⟨tc, pc, xc, qc⟩, id3, ⟨td, pd, xd, qd⟩, ag3, qs3, i3, o3, j⟩ ⟨h⟩
          dsimp only at h ⊢
          obtain ⟨rfl, hwd, rfl, hwx, rfl, rfl, rfl, rfl, j0, j1⟩ := h
          cases hwd
          cases hwx
          have wj : j < (goneBodies xs id3).length → IntKind.i64.wrap (j + 1) = j + 1 := fun _ => wrap_small (by omega) (by omega)
          refine ifB_of (fun c3 => ?_) (fun c3 => ?_)
          · have cj := of_decide_eq_true c3
            rw [wj cj]
            refine ⟨⟨j0, cj⟩, ifB_of (fun m => ⟨⟨j0, cj⟩, ?_⟩) (fun m => ⟨⟨(by trivial), (by trivial), (by trivial), (by trivial), (by trivial), (by trivial), (by trivial), (by trivial), by omega, by omega⟩, by omega⟩)⟩
            rw [hF j.toNat (by omega) (eq_of_beq m)]
            simp only [ifBf]
            exact ⟨⟨(by trivial), (by trivial), (by trivial), (by trivial), (by trivial), (by trivial), (by trivial), (by trivial), by omega, by omega⟩, by omega⟩
          · rw [wi]
            exact ⟨⟨(by trivial), (by trivial), (by trivial), (by trivial), (by trivial), (by trivial), by omega, by omega⟩, by omega⟩
        · have hF := slp (Ty.ix .pair (stepPairs xs) i.toNat).B (fun e he hi => aw (.inl ⟨eq_of_beq a1, rfl⟩) he hi)
          rintro ⟨b3, ⟨tc, pc, xc, qc⟩, id3, ⟨td, pd, xd, qd⟩, ag3, qs3, i3, o3, j⟩ ⟨h⟩
          dsimp only at h ⊢
          obtain ⟨rfl, hwd, rfl, hwx, rfl, rfl, rfl, rfl, j0, j1⟩ := h
          cases hwd
          cases hwx
          have wj : j < (goneBodies xs id3).length → IntKind.i64.wrap (j + 1) = j + 1 := fun _ => wrap_small (by omega) (by omega)
          refine ifB_of (fun c3 => ?_) (fun c3 => ?_)
          · have cj := of_decide_eq_true c3
            rw [wj cj]
            refine ⟨⟨j0, cj⟩, ifB_of (fun m => ⟨⟨j0, cj⟩, ?_⟩) (fun m => ⟨⟨(by trivial), (by trivial), (by trivial), (by trivial), (by trivial), (by trivial), (by trivial), (by trivial), by omega, by omega⟩, by omega⟩)⟩
            rw [hF j.toNat (by omega) (eq_of_beq m)]
            simp only [ifBf]
            exact ⟨⟨(by trivial), (by trivial), (by trivial), (by trivial), (by trivial), (by trivial), (by trivial), (by trivial), by omega, by omega⟩, by omega⟩
          · rw [wi]
            exact ⟨⟨(by trivial), (by trivial), (by trivial), (by trivial), (by trivial), (by trivial), by omega, by omega⟩, by omega⟩
        · have hF := slp (Ty.ix .pair (stepPairs xs) i.toNat).A (fun e he hi => aw (.inr ⟨eq_of_beq a2, rfl⟩) he hi)
          rintro ⟨b3, ⟨tc, pc, xc, qc⟩, id3, ⟨td, pd, xd, qd⟩, ag3, qs3, i3, o3, j⟩ ⟨h⟩
          dsimp only at h ⊢
          obtain ⟨rfl, hwd, rfl, hwx, rfl, rfl, rfl, rfl, j0, j1⟩ := h
          cases hwd
          cases hwx
          have wj : j < (goneBodies xs id3).length → IntKind.i64.wrap (j + 1) = j + 1 := fun _ => wrap_small (by omega) (by omega)
          refine ifB_of (fun c3 => ?_) (fun c3 => ?_)
          · have cj := of_decide_eq_true c3
            rw [wj cj]
            refine ⟨⟨j0, cj⟩, ifB_of (fun m => ⟨⟨j0, cj⟩, ?_⟩) (fun m => ⟨⟨(by trivial), (by trivial), (by trivial), (by trivial), (by trivial), (by trivial), (by trivial), (by trivial), by omega, by omega⟩, by omega⟩)⟩
            rw [hF j.toNat (by omega) (eq_of_beq m)]
            simp only [ifBf]
            exact ⟨⟨(by trivial), (by trivial), (by trivial), (by trivial), (by trivial), (by trivial), (by trivial), (by trivial), by omega, by omega⟩, by omega⟩
          · rw [wi]
            exact ⟨⟨(by trivial), (by trivial), (by trivial), (by trivial), (by trivial), (by trivial), by omega, by omega⟩, by omega⟩
        · have hF := slp (-1) (fun e he hi => absurd (bok_iff.1 (bodiesOk_each hyk he)).1.1 (by rw [hi]; omega))
          rintro ⟨b3, ⟨tc, pc, xc, qc⟩, id3, ⟨td, pd, xd, qd⟩, ag3, qs3, i3, o3, j⟩ ⟨h⟩
          dsimp only at h ⊢
          obtain ⟨rfl, hwd, rfl, hwx, rfl, rfl, rfl, rfl, j0, j1⟩ := h
          cases hwd
          cases hwx
          have wj : j < (goneBodies xs id3).length → IntKind.i64.wrap (j + 1) = j + 1 := fun _ => wrap_small (by omega) (by omega)
          refine ifB_of (fun c3 => ?_) (fun c3 => ?_)
          · have cj := of_decide_eq_true c3
            rw [wj cj]
            refine ⟨⟨j0, cj⟩, ifB_of (fun m => ⟨⟨j0, cj⟩, ?_⟩) (fun m => ⟨⟨(by trivial), (by trivial), (by trivial), (by trivial), (by trivial), (by trivial), (by trivial), (by trivial), by omega, by omega⟩, by omega⟩)⟩
            rw [hF j.toNat (by omega) (eq_of_beq m)]
            simp only [ifBf]
            exact ⟨⟨(by trivial), (by trivial), (by trivial), (by trivial), (by trivial), (by trivial), (by trivial), (by trivial), by omega, by omega⟩, by omega⟩
          · rw [wi]
            exact ⟨⟨(by trivial), (by trivial), (by trivial), (by trivial), (by trivial), (by trivial), by omega, by omega⟩, by omega⟩
      · rw [hWx]
        have e1 : IntKind.i64.wrap (((goneBodies xs id2).length : Int) + 1) = (xs.length : Int) := by
          rw [hlg]
          have : IntKind.i64.wrap (((xs.length - 1 : Nat) : Int) + 1) = ((xs.length - 1 : Nat) : Int) + 1 := wrap_small (by omega) (by omega)
          omega
        rw [e1]
        simp only [beq_self_eq_true, ifBt]
        exact ⟨⟨by omega, by omega⟩, (by trivial), (by trivial)⟩)

def LSlwq  : LS where
  S := List Int × (Int × Int × List Body × List Pair) × (Int × Int × List Body × List Pair) × Int
  live := [(3, [none]), (11, [none]), (13, [none])]
  shape := fun s => ([.ptr 3 0 0, .ptr 6 0 0, .int .i64 s.2.2.2], [(false, .vec .byte s.1), (true, .vec .body s.2.1.2.2.1), (true, .vec .pair s.2.1.2.2.2), (true, .box [.int .i64 s.2.1.1, .int .i64 s.2.1.2.1, .vec 1, .vec 2]), (true, .vec .body s.2.2.1.2.2.1), (true, .vec .pair s.2.2.1.2.2.2), (true, .box [.int .i64 s.2.2.1.1, .int .i64 s.2.2.1.2.1, .vec 4, .vec 5])])
  get := fun v h => match v, h with
    | [.ptr 3 0 0, .ptr 6 0 0, .int .i64 i], [(false, .vec .byte b), (true, .vec .body wd_2), (true, .vec .pair wd_3), (true, .box [.int .i64 wd_0, .int .i64 wd_1, .vec 1, .vec 2]), (true, .vec .body wy_2), (true, .vec .pair wy_3), (true, .box [.int .i64 wy_0, .int .i64 wy_1, .vec 4, .vec 5])] => some (b, (wd_0, wd_1, wd_2, wd_3), (wy_0, wy_1, wy_2, wy_3), i)
    | _, _ => none
  inv := fun s0 s => Holds (s.1 = s0.1 ∧ s.2.1 = s0.2.1 ∧ s.2.2.1 = s0.2.2.1 ∧ 0 ≤ s.2.2.2 ∧ s.2.2.2 ≤ s0.2.2.1.2.2.1.length)
  mu := fun s => ((s.2.2.1.2.2.1.length : Int) - s.2.2.2).toNat
  ok := by
    intro v h s hg
    try dsimp only at hg
    split at hg <;> cases hg
    rfl

def L_lawWorldPut : Loops := fun n => match n with
  | 15 => some LSlwq
  | _ => none
noncomputable def fs_lawWorldPut : Fs := ⟨[], fun args H => match args, H with
  | [.vec 0], [(false, .vec .byte b)] => some ((some (LOk .byte b)), .bool (true), [(false, .vec .byte b)])
  | _, _ => none⟩

theorem vc_lawWorldPut (b : List Int) (Q : SV → List Ent → Prop) :
    fnVC tt (look [(44, fs_DrawWorldPut), (43, fs_implWorldPut), (45, fs_specWorldPut), (34, fs_lawsPqWorld), (35, fs_specWorldOk), (36, fs_implWorldOk), (40, fs_implWorldGone)]) (L_lawWorldPut) Tryz.f12 [.vec 0] [(false, .vec .byte b)] Q =
    (let w_ := IntKind.wrap IntKind.i64; let A21_ := (4611686018427387904 : Nat); let A19_ := (false, Blk.vec Ty.byte b); let A18_ := (Prod.snd (Subtype.val (g_DrawWorldPut b))); let A14_ := (Prod.fst (Prod.fst (Subtype.val (g_DrawWorldPut b)))); let A12_ := (Prod.snd (Prod.fst (Subtype.val (g_DrawWorldPut b)))); let A16_ := (Prod.fst (Prod.snd A12_)); let A15_ := (Prod.snd (Prod.snd A12_)); let A22_ := (worldOk A14_ (Prod.fst A12_) A16_ A15_ == worldOk A14_ (Prod.fst A12_) A16_ A15_); let A11_ := (worldOk A14_ (Prod.fst A12_) A16_ A15_); let A23_ := (orI A11_ (Prod.fst A12_)); let A13_ := (orL A11_ (putBodies A16_ A18_)); let A20_ := (eqW4 (orI A11_ A14_) A23_ A13_ (orL A11_ A15_) (orI A11_ A14_) A23_ A13_ (orL A11_ A15_)); let A17_ := (worldOk (orI A11_ A14_) A23_ A13_ (orL A11_ A15_)); ifB (decide ((↑(List.length b) : Int) > (1048576 : Int))) (Q (SV.bool true) [A19_]) (BytesOk b ∧ (List.length A16_ ≤ (1048576 : Nat) ∧ List.length A15_ ≤ (1048576 : Nat)) ∧ (List.length A16_ ≤ (1048576 : Nat) ∧ List.length A15_ ≤ (1048576 : Nat)) ∧ ifB (putCode A11_ A16_ A18_ != putCode A11_ A16_ A18_) (ifB (putCode A11_ A16_ A18_ == putCode A11_ A16_ A18_) ((List.length A13_ ≤ A21_ ∧ List.length (orL A11_ A15_) ≤ A21_) ∧ ifB A20_ ((List.length A16_ ≤ (1048576 : Nat) ∧ List.length A15_ ≤ (1048576 : Nat)) ∧ (List.length A16_ ≤ (1048576 : Nat) ∧ List.length A15_ ≤ (1048576 : Nat)) ∧ Q (SV.bool A22_) [A19_]) (Q (SV.bool false) [A19_])) (Q (SV.bool false) [A19_])) ((List.length A13_ ≤ A21_ ∧ List.length (orL A11_ A15_) ≤ A21_) ∧ ifB (!eqW4 (orI A11_ A14_) A23_ A13_ (orL A11_ A15_) (orI A11_ A14_) A23_ A13_ (orL A11_ A15_)) (ifB (putCode A11_ A16_ A18_ == putCode A11_ A16_ A18_) ((List.length A13_ ≤ A21_ ∧ List.length (orL A11_ A15_) ≤ A21_) ∧ ifB A20_ ((List.length A16_ ≤ (1048576 : Nat) ∧ List.length A15_ ≤ (1048576 : Nat)) ∧ (List.length A16_ ≤ (1048576 : Nat) ∧ List.length A15_ ≤ (1048576 : Nat)) ∧ Q (SV.bool A22_) [A19_]) (Q (SV.bool false) [A19_])) (Q (SV.bool false) [A19_])) ((List.length A16_ ≤ (1048576 : Nat) ∧ List.length A15_ ≤ (1048576 : Nat)) ∧ (List.length A16_ ≤ (1048576 : Nat) ∧ List.length A15_ ≤ (1048576 : Nat)) ∧ ifB (!worldOk A14_ (Prod.fst A12_) A16_ A15_ == worldOk A14_ (Prod.fst A12_) A16_ A15_) (ifB (putCode A11_ A16_ A18_ == putCode A11_ A16_ A18_) ((List.length A13_ ≤ A21_ ∧ List.length (orL A11_ A15_) ≤ A21_) ∧ ifB A20_ ((List.length A16_ ≤ (1048576 : Nat) ∧ List.length A15_ ≤ (1048576 : Nat)) ∧ (List.length A16_ ≤ (1048576 : Nat) ∧ List.length A15_ ≤ (1048576 : Nat)) ∧ Q (SV.bool A22_) [A19_]) (Q (SV.bool false) [A19_])) (Q (SV.bool false) [A19_])) ((List.length A16_ ≤ (1048576 : Nat) ∧ List.length A15_ ≤ (1048576 : Nat)) ∧ ifB (!worldOk A14_ (Prod.fst A12_) A16_ A15_) (ifB (putCode A11_ A16_ A18_ == putCode A11_ A16_ A18_) ((List.length A13_ ≤ A21_ ∧ List.length (orL A11_ A15_) ≤ A21_) ∧ ifB A20_ ((List.length A16_ ≤ (1048576 : Nat) ∧ List.length A15_ ≤ (1048576 : Nat)) ∧ (List.length A16_ ≤ (1048576 : Nat) ∧ List.length A15_ ≤ (1048576 : Nat)) ∧ Q (SV.bool A22_) [A19_]) (Q (SV.bool false) [A19_])) (Q (SV.bool false) [A19_])) (ifB (putCode A11_ A16_ A18_ != (0 : Int)) ((List.length A13_ ≤ A21_ ∧ List.length (orL A11_ A15_) ≤ A21_) ∧ Q (SV.bool (eqW4 (orI A11_ A14_) A23_ A13_ (orL A11_ A15_) A14_ (Prod.fst A12_) A16_ A15_)) [A19_]) ((List.length A13_ ≤ (1048576 : Nat) ∧ List.length (orL A11_ A15_) ≤ (1048576 : Nat)) ∧ (List.length A13_ ≤ (1048576 : Nat) ∧ List.length (orL A11_ A15_) ≤ (1048576 : Nat)) ∧ ifB (putCode A17_ A13_ A18_ != (2 : Int)) (Q (SV.bool false) [A19_]) (ifB (goneCode A17_ A13_ (Body.Id A18_) != (0 : Int)) (Q (SV.bool false) [A19_]) (ifB ((↑(List.length (orL A17_ (goneBodies A13_ (Body.Id A18_)))) : Int) != (↑(List.length A16_) : Int)) (Q (SV.bool false) [A19_]) ((List.length A13_ ≤ (1048576 : Nat) ∧ List.length (orL A11_ A15_) ≤ (1048576 : Nat)) ∧ ifB (!worldOk (orI A11_ A14_) A23_ A13_ (orL A11_ A15_)) (Q (SV.bool false) [A19_]) (ifB ((↑(List.length A13_) : Int) != w_ ((↑(List.length A16_) : Int) + (1 : Int))) (Q (SV.bool false) [A19_]) (Holds (b = b ∧ Prod.fst (Subtype.val (g_DrawWorldPut b)) = Prod.fst (Subtype.val (g_DrawWorldPut b)) ∧ (orI A17_ (orI A11_ A14_), orI A17_ A23_, orL A17_ (goneBodies A13_ (Body.Id A18_)), orL A17_ (gonePairs A13_ (orL A11_ A15_) (Body.Id A18_))) = (orI A17_ (orI A11_ A14_), orI A17_ A23_, orL A17_ (goneBodies A13_ (Body.Id A18_)), orL A17_ (gonePairs A13_ (orL A11_ A15_) (Body.Id A18_))) ∧ (0 : Int) ≤ (0 : Int) ∧ (0 : Int) ≤ (↑(List.length (orL A17_ (goneBodies A13_ (Body.Id A18_)))) : Int)) ∧ ∀ (y1 : List Int × (Int × Int × List Body × List Pair) × (Int × Int × List Body × List Pair) × Int), let y1f0_ := Prod.fst y1; let y1s1_ := Prod.snd y1; let y1f1_ := Prod.fst (Prod.snd y1); let y1s2_ := Prod.snd (Prod.snd y1); let y1f2_ := Prod.fst (Prod.snd (Prod.snd y1)); let y1s3_ := Prod.snd (Prod.snd (Prod.snd y1)); let A9_ := (↑(List.length (Prod.fst (Prod.snd (Prod.snd y1f2_)))) : Int); let A6_ := (Ty.ix Ty.body (Prod.fst (Prod.snd (Prod.snd y1f2_))) (Int.toNat y1s3_)); let A5_ := (Ty.ix Ty.body (Prod.fst (Prod.snd (Prod.snd y1f1_))) (Int.toNat y1s3_)); let A4_ := (Subtype.val (g_DrawWorldPut b)); let A10_ := (Prod.snd (Prod.fst A4_)); let A2_ := (worldOk (Prod.fst (Prod.fst A4_)) (Prod.fst A10_) (Prod.fst (Prod.snd A10_)) (Prod.snd (Prod.snd A10_))); let A7_ := (orL A2_ (putBodies (Prod.fst (Prod.snd A10_)) (Prod.snd A4_))); let A3_ := (worldOk (orI A2_ (Prod.fst (Prod.fst A4_))) (orI A2_ (Prod.fst A10_)) A7_ (orL A2_ (Prod.snd (Prod.snd A10_)))); let A8_ := (orI A3_ (orI A2_ (Prod.fst (Prod.fst A4_))), orI A3_ (orI A2_ (Prod.fst A10_)), orL A3_ (goneBodies A7_ (Body.Id (Prod.snd A4_))), orL A3_ (gonePairs A7_ (orL A2_ (Prod.snd (Prod.snd A10_))) (Body.Id (Prod.snd A4_)))); Holds (Prod.fst y1 = b ∧ y1f1_ = Prod.fst A4_ ∧ y1f2_ = A8_ ∧ (0 : Int) ≤ y1s3_ ∧ y1s3_ ≤ (↑(List.length (orL A3_ (goneBodies A7_ (Body.Id (Prod.snd A4_))))) : Int)) → ifB (decide (Prod.snd y1s2_ < A9_)) (((0 : Int) ≤ y1s3_ ∧ y1s3_ < A9_) ∧ ((0 : Int) ≤ y1s3_ ∧ y1s3_ < (↑(List.length (Prod.fst (Prod.snd (Prod.snd y1f1_)))) : Int)) ∧ ((0 : Int) ≤ y1s3_ ∧ y1s3_ < (↑(List.length (Prod.fst (Prod.snd (Prod.snd y1f1_)))) : Int)) ∧ ifB (!(Body.Id A6_ == Body.Id A5_ && (Shape.Kind (Body.Shape A6_) == Shape.Kind (Body.Shape A5_) && (Shape.Wide (Body.Shape A6_) == Shape.Wide (Body.Shape A5_) && (Shape.High (Body.Shape A6_) == Shape.High (Body.Shape A5_) && (Vec.X (Body.At A6_) == Vec.X (Body.At A5_) && (Vec.Y (Body.At A6_) == Vec.Y (Body.At A5_) && (Vec.X (Body.Drive A6_) == Vec.X (Body.Drive A5_) && (Vec.Y (Body.Drive A6_) == Vec.Y (Body.Drive A5_) && (Body.Mass A6_ == Body.Mass A5_ && (Body.Bounce A6_ == Body.Bounce A5_ && (Body.Rub A6_ == Body.Rub A5_ && Body.Quiet A5_ == Body.Quiet A5_)))))))))))) (Q (SV.bool false) [(false, Blk.vec Ty.byte y1f0_)]) (Holds (Prod.fst y1 = b ∧ y1f1_ = Prod.fst A4_ ∧ y1f2_ = A8_ ∧ (0 : Int) ≤ w_ (Prod.snd y1s2_ + (1 : Int)) ∧ w_ (Prod.snd y1s2_ + (1 : Int)) ≤ (↑(List.length (orL A3_ (goneBodies A7_ (Body.Id (Prod.snd A4_))))) : Int)) ∧ Int.toNat (A9_ - w_ (Prod.snd y1s2_ + (1 : Int))) < Int.toNat (A9_ - y1s3_))) (Q (SV.bool true) [(false, Blk.vec Ty.byte y1f0_)]))))))))))))) := by kernel_rfl

theorem ok_lawWorldPut : FsOk Tryz.prog 12 fs_lawWorldPut := fsOk_of tt_ok (tabFs_cons ok_DrawWorldPut (tabFs_cons ok_implWorldPut (tabFs_cons ok_specWorldPut (tabFs_cons ok_lawsPqWorld (tabFs_cons ok_specWorldOk (tabFs_cons ok_implWorldOk (tabFs_cons ok_implWorldGone tabFs_nil))))))) mixed Tryz.func12 (by kernel_rfl) (by kernel_rfl) (by
    intro args LL p r HH h hp
    unfold fs_lawWorldPut at h
    dsimp only at h
    split at h
    case h_2 => cases h
    rename_i b
    simp only [Option.some.injEq, Prod.mk.injEq] at h
    obtain ⟨rfl, rfl, rfl⟩ := h
    refine ⟨by simp [Form, stays], (L_lawWorldPut), ?_⟩
    rw [vc_lawWorldPut]
    try dsimp only
    have hb := bytesOk_of (hp _ rfl)
    generalize g_DrawWorldPut b = z
    obtain ⟨⟨⟨t, p, xs, ps⟩, y⟩, hz⟩ := z
    have hz : worldD (t, p, xs, ps) := hz
    simp only [worldD] at hz
    dsimp only
    simp only [eqW4_self, bne_self_eq_false, beq_self_eq_true, Bool.not_true, ifBt, ifBf]
    have gB := length_putW (worldOk t p xs ps) xs y (by omega)
    have gP := length_orL (worldOk t p xs ps) ps
    refine ifB_of (fun c => ⟨(by trivial), (by trivial)⟩) (fun c => ⟨hb, ⟨by omega, by omega⟩, ⟨by omega, by omega⟩, ⟨by omega, by omega⟩, ⟨by omega, by omega⟩, ⟨by omega, by omega⟩, ⟨by omega, by omega⟩, ifB_of (fun d => ⟨⟨by omega, by omega⟩, ⟨by omega, by omega⟩, ⟨by omega, by omega⟩, (by trivial), (by trivial)⟩) (fun d => ifB_of (fun e => ?_) (fun e => ?_))⟩)
    · have hW := not_false d
      have hx : putBodies xs y = xs := by
        unfold putBodies
        cases q : bodyOk y && !hasB xs y.Id && !decide (xs.length ≥ 12) with
        | false => rfl
        | true =>
          exfalso
          simp only [Bool.and_eq_true, Bool.not_eq_true'] at q
          have h0 : putCode (worldOk t p xs ps) xs y = 0 := by
            unfold putCode
            rw [hW, q.1.1, q.1.2, q.2]
            rfl
          rw [h0] at e
          simp at e
      simp only [hW, orI, orL, cond_true, hx, eqW4_self]
      exact ⟨⟨by omega, by omega⟩, (by trivial), (by trivial)⟩
    have hW := not_false d
    have hok := worldOk_bodies hW
    have e := bne_eq_false_iff_eq.1 e
    have hyo : bodyOk y = true := by
      cases q : bodyOk y with
      | true => rfl
      | false => simp [putCode, q] at e
    have hn : hasB xs y.Id = false := by
      cases q : hasB xs y.Id with
      | false => rfl
      | true => simp [putCode, q, hyo, hW] at e
    have hl : xs.length < 12 := by
      refine Nat.lt_of_not_le fun hle => ?_
      simp [putCode, hn, hyo, hW, show xs.length ≥ 12 from hle] at e
    have hx := put_eq hn hyo hl
    have hWz := ins_world hW hn hyo hl
    obtain ⟨z1, z2, z3⟩ := ins_has (worldOk_bodies hW) hn hyo hl
    have hg := put_gone hok hn hyo hl
    have hzl := length_insB (b := y) (atB_le xs y.Id)
    simp only [hW, orI, orL, cond_true, hx] at gB gP ⊢
    generalize insB xs (atB xs y.Id) y = zs at *
    have hpc : putCode true zs y = 2 := by simp [putCode, hyo, z1]
    have hgc : goneCode true zs y.Id = 0 := by simp [goneCode, z1]
    have w0 : IntKind.i64.wrap ((xs.length : Int) + 1) = (zs.length : Int) := by
      have : IntKind.i64.wrap ((xs.length : Int) + 1) = (xs.length : Int) + 1 := wrap_small (by omega) (by omega)
      omega
    simp only [hWz, hpc, hgc, hg, w0, cond_true, List.length_map, bne_self_eq_false, Bool.not_true, ifBf]
    generalize gonePairs zs ps y.Id = gs
    refine ⟨⟨by omega, by omega⟩, ⟨by omega, by omega⟩, ⟨by omega, by omega⟩, ⟨(by trivial), (by trivial), (by trivial), by omega, by omega⟩, ?_⟩
    rintro ⟨b', ⟨t', p', xs', ps'⟩, ⟨t2, p2, ys2, qs⟩, i⟩ ⟨h⟩
    dsimp only at h ⊢
    obtain ⟨rfl, hwd, hwx, i0, i1⟩ := h
    cases hwd
    cases hwx
    refine ifB_of (fun c1 => ?_) (fun c1 => ⟨(by trivial), (by trivial)⟩)
    have ci := of_decide_eq_true c1
    have hlm : (xs.map (wake y)).length = xs.length := List.length_map ..
    have w : IntKind.i64.wrap (i + 1) = i + 1 := wrap_small (by omega) (by omega)
    have hk : wake y (Ty.ix .body xs i.toNat) = { Ty.ix .body xs i.toNat with Quiet := (wake y (Ty.ix .body xs i.toNat)).Quiet } := by
      unfold wake
      cases (touchB y (Ty.ix .body xs i.toNat)).2 && (Ty.ix .body xs i.toNat).Quiet == 8 <;> rfl
    rw [w, ix_mapB (show i.toNat < xs.length by omega), hk]
    simp only [beq_self_eq_true, Bool.and_self, Bool.not_true, ifBf]
    exact ⟨⟨i0, ci⟩, ⟨i0, by omega⟩, ⟨i0, by omega⟩, ⟨(by trivial), (by trivial), (by trivial), by omega, by omega⟩, by omega⟩)

end
end Go.Proofs.YtnahfbjdicjdpaaGreat.Sym

