/-
  What the rows of this claim stand on, part 9: the machine, the walks, the plain laws, as far as they are used.
  No condition.
-/
import Derived.Test.YtnahfbjdicjdpaaGreatDG8
import Derived.WalkKit
import Derived.Shelf.RegionOpenPlain
import Derived.Lib.Walk
import Derived.Lib.SliceRun
import Derived.Lib.JoinLaws
import Derived.Lib.AppendZeros
import Derived.Lib.Overlaps
import Derived.Laws.Externs
import Derived.Laws.IdiomCopy
import Derived.Lib.AppendZerosOnto
namespace Go.Proofs.YtnahfbjdicjdpaaGreat.Sym
open Go Go.Proofs
set_option linter.unusedVariables false
set_option linter.unusedSimpArgs false
/-- 'copy' where its run is known. -/
theorem wpL_copy {P : Program} (w : Go.World) {ops : Array Oper} {rest : List Oper} {o : Oper} {a : Act} {Q : Exit → Act → Go.World → Prop} (hgd : o.guard = none) (d s : Operand) (t t' : TypeId)
    (ho : o.op = .call { callee := .builtin .copy, args := #[d, s], argTypes := #[t, t'] }) (v u : Value) (hd : a.eval d = v) (hs : a.eval s = u) {v' : Value} {w' : Go.World}
    (hr : (Builtin.copy_ #[t, t'] o.type #[v, u]).run P w = .ok v' w') (h : wpList P ops Q rest (a.put o.dst v') w') : wpList P ops Q (o :: rest) a w :=
  wpList_plain hgd fun _ hK => by
    unfold Oper.wp execOp
    simp only [ho, resolve, invoke, builtin, Sem.run_bind, Sem.run_pure, Result.andThen_ok, List.map_toArray, List.map_cons, List.map_nil, hd, hs, hr]
    exact hK _ _ h
theorem stepD_copy {P : Program} {ops : Array Oper} {o : Oper} {a : Act} {w : Go.World} {K : Act → Go.World → Prop} {Q : Exit → Act → Go.World → Prop} {E : Prop}
    (hg : o.guard = none) (d x : Operand) (dT sT : TypeId) (hop : o.op = Op.call { callee := Callee.builtin Builtin.copy, args := #[d, x], argTypes := #[dT, sT] })
    (v u : Value) (hd : a.eval d = v) (hx : a.eval x = u) {v' : Value} {w' : Go.World} (hr : (Builtin.copy_ #[dT, sT] o.type #[v, u]).run P w = .ok v' w') (hK : K (a.put o.dst v') w') :
    if Region.wanted o (yielded ops a.tmps) = true then Oper.wp P o a w K Q else E := by
  have hw : Region.wanted o (yielded ops a.tmps) = true := by simp [Region.wanted, hg]
  rw [if_pos hw]
  unfold Oper.wp
  simp [execOp, hop, resolve, invoke, builtin, hd, hx, hr, Result.andThen]
  exact hK
theorem drew_heap (w : Go.World) : w.drew.heap = w.heap := rfl
theorem size_setRow (w : Go.World) (b : Nat) (cs : Array Value) : (w.setRow b cs).heap.size = w.heap.size := by simp [Go.World.setRow]
theorem cell_row {w : Go.World} {b o : Nat} {vs : Array Value} {E : TypeId} {fz : Nat × Nat} (h : w.heap[b]? = some (.cells vs E fz)) : w.cell? ⟨b, o, none⟩ = vs[o]? := cell_of h


def insL_Bodies (xs : List Body) (i : Nat) (ys : List Body) : List Body := xs.take i ++ ys ++ xs.drop i
def fs_insBodies : Fs := ⟨[true, false, true], fun args H => match args, H with
  | [.vec 0, .int .i64 i, .vec 1], [(true, .vec .body xs), (true, .vec .body ys)] => some (some (0 ≤ i ∧ i ≤ xs.length ∧ ys.length = 1 ∧ xs.length ≤ 1048576), .vec 2, [(true, .dead), (true, .vec .body ys), (true, .vec .body (insL_Bodies xs i.toNat ys))])
  | _, _ => none⟩
set_option maxHeartbeats 4000000 in
set_option maxRecDepth 100000 in
theorem insBodies_room (b off n c i vb voff vc : Nat) (row1 row2 : Array Value) (v1 v2 : Value) (w : Go.World) (hi : i < n) (hroom : n + 1 ≤ c) (hn63 : n ≤ 1048576)
    (hov : ∀ lb cb, (callFunc 122 #[.slice (some ⟨vb, voff, none⟩) 1 vc, .slice (some ⟨b, off + (i + 1) * 12, none⟩) lb cb]).run Tryz.prog w = .ok (.value (.bool false)) w)
    (hcp1 : ∀ ty dc sc, (Builtin.copy_ #[23, 23] ty #[.slice (some ⟨b, off + (i + 1) * 12, none⟩) (n - i) dc, .slice (some ⟨b, off + i * 12, none⟩) (n + 1 - i) sc]).run Tryz.prog w.drew = .ok v1 (w.drew.setRow b row1))
    (hcp2 : ∀ ty dc sc, (Builtin.copy_ #[23, 23] ty #[.slice (some ⟨b, off + i * 12, none⟩) (n + 1 - i) dc, .slice (some ⟨vb, voff, none⟩) 1 sc]).run Tryz.prog (w.drew.setRow b row1) = .ok v2 ((w.drew.setRow b row1).setRow b row2)) :
    Calls Tryz.prog 86 #[.slice (some ⟨b, off, none⟩) n c, .int .i64 i, .slice (some ⟨vb, voff, none⟩) 1 vc] w fun e w' =>
      e = .returned (.slice (some ⟨b, off, none⟩) (n + 1) c) ∧ w' = (w.drew.setRow b row1).setRow b row2 := by
  have mixed : Tryz.prog.follows .mixedOrders = true := by kernel_rfl
  have t3 : Tryz.prog.underlying 3 = some (.int .i64) := by kernel_rfl
  have t4 : Tryz.prog.underlying 4 = some .bool := by kernel_rfl
  have tL : Tryz.prog.underlying 23 = some (.slice 33) := by kernel_rfl
  have iE : (Tryz.prog.info? 33).map (·.size) = some 12 := by kernel_rfl
  have u3 := run_underlying t3; have u4 := run_underlying t4; have uL := run_underlying tL
  have zE : ∀ w, (Go.sizeOf 33).run Tryz.prog w = .ok 12 w := fun w => by
    cases hq : Tryz.prog.info? 33 with
    | none => simp [hq] at iE
    | some x => simp [hq] at iE; simp [sizeOf, typeInfo, hq, iE]
  have a3 : ∀ w, (isAgg 3).run Tryz.prog w = .ok false w := fun w => run_isAgg t3
  have a4 : ∀ w, (isAgg 4).run Tryz.prog w = .ok false w := fun w => run_isAgg t4
  have aL : ∀ w, (isAgg 23).run Tryz.prog w = .ok false w := fun w => run_isAgg tL
  have hw1 : IntKind.i64.wrap ((i : Int) + 1) = (i : Int) + 1 := by rw [IntKind.wrap_i64]; omega
  have hw2 : IntKind.i64.wrap ((n : Int) + 1) = (n : Int) + 1 := by rw [IntKind.wrap_i64]; omega
  have hz2 : ¬ ((i : Int) = (n : Int)) := by omega
  have hb1 : (0 : Int) ≤ (i : Int) + 1 := by omega
  have hin : i ≤ n := by omega
  have htn : ((i : Int) + 1).toNat = i + 1 := by omega
  have htn2 : ((n : Int) + 1).toNat = n + 1 := by omega
  have hb2 : ¬ (c = i + 1) := by omega
  have hb3 : (i : Int) ≤ (n : Int) + 1 := by omega
  have hb4 : ¬ (c = i) := by omega
  have hr1 : ¬ ((n : Int) + 1 > (c : Int)) := by omega
  go_enter Tryz.func86, Tryz.ntmps86
  go_wp2_with (simp only [hov])
  go_region_law_o (refine stepD_copy rfl _ _ 23 23 rfl _ _ (by simp [Act.eval, Act.put]) (by simp [Act.eval, Act.put]) (hcp1 _ _ _) ?_)
  go_wp2_with (refine wpL_copy _ rfl _ _ 23 23 rfl _ _ rfl rfl (hcp2 _ _ _) ?_)
  go_ret
  exact ⟨rfl, rfl⟩
set_option maxHeartbeats 4000000 in
set_option maxRecDepth 100000 in
theorem insBodies_end (base : Option Addr) (n c vb voff vc : Nat) (v' : Value) (w w' : Go.World) (hnc : n ≤ c) (hn63 : n ≤ 1048576)
    (hrun : ∀ ty, (Builtin.append_ #[23, 23] ty #[.slice base n c, .slice (some ⟨vb, voff, none⟩) 1 vc]).run Tryz.prog w = .ok v' w') :
    Calls Tryz.prog 86 #[.slice base n c, .int .i64 n, .slice (some ⟨vb, voff, none⟩) 1 vc] w fun e W => e = .returned v' ∧ W = w' := by
  have mixed : Tryz.prog.follows .mixedOrders = true := by kernel_rfl
  have t3 : Tryz.prog.underlying 3 = some (.int .i64) := by kernel_rfl
  have t4 : Tryz.prog.underlying 4 = some .bool := by kernel_rfl
  have tL : Tryz.prog.underlying 23 = some (.slice 33) := by kernel_rfl
  have iE : (Tryz.prog.info? 33).map (·.size) = some 12 := by kernel_rfl
  have u3 := run_underlying t3; have u4 := run_underlying t4; have uL := run_underlying tL
  have zE : ∀ w, (Go.sizeOf 33).run Tryz.prog w = .ok 12 w := fun w => by
    cases hq : Tryz.prog.info? 33 with
    | none => simp [hq] at iE
    | some x => simp [hq] at iE; simp [sizeOf, typeInfo, hq, iE]
  have a3 : ∀ w, (isAgg 3).run Tryz.prog w = .ok false w := fun w => run_isAgg t3
  have a4 : ∀ w, (isAgg 4).run Tryz.prog w = .ok false w := fun w => run_isAgg t4
  have aL : ∀ w, (isAgg 23).run Tryz.prog w = .ok false w := fun w => run_isAgg tL
  go_enter Tryz.func86, Tryz.ntmps86
  cases base with
  | none =>
    go_wp2_with (at_builtin; refine Lib.wpList_append_run _ rfl _ _ _ _ rfl _ _ rfl rfl _ _ (hrun _) ?_)
    all_goals (go_ret; exact ⟨rfl, rfl⟩)
  | some a =>
    obtain ⟨ab, ao, asp⟩ := a
    go_wp2_with (at_builtin; refine Lib.wpList_append_run _ rfl _ _ _ _ rfl _ _ rfl rfl _ _ (hrun _) ?_)
    all_goals (go_ret; exact ⟨rfl, rfl⟩)
set_option maxHeartbeats 4000000 in
set_option maxRecDepth 100000 in
theorem insBodies_grow (b off n c i vb voff vc g G : Nat) (v1 v2 : Value) (w A A1 A2 : Go.World) (hi : i < n) (hnc : n ≤ c) (hroom : c < n + 1) (hG : n + 1 ≤ G) (hn63 : n ≤ 1048576)
    (hrz : ∀ ty, (Builtin.append_ #[23, 3] ty #[.slice (some ⟨b, off, none⟩) i c, .int .i64 ((n : Int) + 1 - (i : Int))]).run Tryz.prog w = .ok (.slice (some ⟨g, 0, none⟩) (n + 1) G) A)
    (hcpA : ∀ ty dc sc, (Builtin.copy_ #[23, 23] ty #[.slice (some ⟨g, i * 12, none⟩) (n + 1 - i) dc, .slice (some ⟨vb, voff, none⟩) 1 sc]).run Tryz.prog A = .ok v1 A1)
    (hcpB : ∀ ty dc sc, (Builtin.copy_ #[23, 23] ty #[.slice (some ⟨g, (i + 1) * 12, none⟩) (n - i) dc, .slice (some ⟨b, off + i * 12, none⟩) (n - i) sc]).run Tryz.prog A1.drew = .ok v2 A2) :
    Calls Tryz.prog 86 #[.slice (some ⟨b, off, none⟩) n c, .int .i64 i, .slice (some ⟨vb, voff, none⟩) 1 vc] w fun e w' => e = .returned (.slice (some ⟨g, 0, none⟩) (n + 1) G) ∧ w' = A2 := by
  have mixed : Tryz.prog.follows .mixedOrders = true := by kernel_rfl
  have t3 : Tryz.prog.underlying 3 = some (.int .i64) := by kernel_rfl
  have t4 : Tryz.prog.underlying 4 = some .bool := by kernel_rfl
  have tL : Tryz.prog.underlying 23 = some (.slice 33) := by kernel_rfl
  have iE : (Tryz.prog.info? 33).map (·.size) = some 12 := by kernel_rfl
  have u3 := run_underlying t3; have u4 := run_underlying t4; have uL := run_underlying tL
  have zE : ∀ w, (Go.sizeOf 33).run Tryz.prog w = .ok 12 w := fun w => by
    cases hq : Tryz.prog.info? 33 with
    | none => simp [hq] at iE
    | some x => simp [hq] at iE; simp [sizeOf, typeInfo, hq, iE]
  have a3 : ∀ w, (isAgg 3).run Tryz.prog w = .ok false w := fun w => run_isAgg t3
  have a4 : ∀ w, (isAgg 4).run Tryz.prog w = .ok false w := fun w => run_isAgg t4
  have aL : ∀ w, (isAgg 23).run Tryz.prog w = .ok false w := fun w => run_isAgg tL
  have hw1 : IntKind.i64.wrap ((i : Int) + 1) = (i : Int) + 1 := by rw [IntKind.wrap_i64]; omega
  have hw2 : IntKind.i64.wrap ((n : Int) + 1) = (n : Int) + 1 := by rw [IntKind.wrap_i64]; omega
  have hw3 : IntKind.i64.wrap ((n : Int) + 1 - (i : Int)) = (n : Int) + 1 - (i : Int) := by rw [IntKind.wrap_i64]; omega
  have hz2 : ¬ ((i : Int) = (n : Int)) := by omega
  have hb1 : (0 : Int) ≤ (i : Int) + 1 := by omega
  have hin : i ≤ n := by omega
  have hic : i ≤ c := by omega
  have htn : ((i : Int) + 1).toNat = i + 1 := by omega
  have hb2 : ¬ (G = i + 1) := by omega
  have hb3 : (i : Int) ≤ (n : Int) + 1 := by omega
  have hb4 : ¬ (G = i) := by omega
  have hb5 : ¬ (c = i) := by omega
  have hr1 : (n : Int) + 1 > (c : Int) := by omega
  go_enter Tryz.func86, Tryz.ntmps86
  go_wp2_with (first
    | (at_builtin; refine Lib.wpList_append_run _ rfl _ _ _ _ rfl _ _ rfl rfl _ _ (hrz _) ?_)
    | (refine wpL_copy _ rfl _ _ 23 23 rfl _ _ rfl rfl (hcpA _ _ _) ?_))
  go_region_law_o (refine stepD_copy rfl _ _ 23 23 rfl _ _ (by simp [Act.eval, Act.put]) (by simp [Act.eval, Act.put]) (hcpB _ _ _) ?_)
  go_wp2
  go_ret
  exact ⟨rfl, rfl⟩
theorem ov_Bodies {w : Go.World} {b vb voff o la vc : Nat} {E E' : TypeId} {vs vs' : Array Value} (hne : vb ≠ b) (hb : w.heap[b]? = some (.cells vs E (0, 0))) (hvb : w.heap[vb]? = some (.cells vs' E' (0, 0))) (hsz : vs.size ≠ 0) (lb cb : Nat) :
    (callFunc 122 #[.slice (some ⟨vb, voff, none⟩) la vc, .slice (some ⟨b, o, none⟩) lb cb]).run Tryz.prog w = .ok (.value (.bool false)) w := by
  have tL : Tryz.prog.underlying 23 = some (.slice 33) := by kernel_rfl
  have iE : (Tryz.prog.info? 33).map (·.size) = some 12 := by kernel_rfl
  have zE : ∀ w, (Go.sizeOf 33).run Tryz.prog w = .ok 12 w := fun w => by
    cases hq : Tryz.prog.info? 33 with
    | none => simp [hq] at iE
    | some x => simp [hq] at iE; simp [sizeOf, typeInfo, hq, iE]
  rw [run_callFunc_extern Tryz.func122 (by kernel_rfl) (by kernel_rfl) (by kernel_rfl) (e := Extern.SlicesOverlaps.overlaps #[23, 23] #[4]) (by kernel_rfl),
    Lib.run_overlaps_apart w 23 4 33 tL 12 zE ⟨vb, voff, none⟩ ⟨b, o, none⟩ la vc lb cb hne E' E vs'.size vs.size (by simp [Go.World.shape?, hvb]) (by simp [Go.World.shape?, hb]) hsz (by simp [Go.World.frozen?, hvb]) (by simp [Go.World.frozen?, hvb])]
  rfl
set_option maxHeartbeats 4000000 in
set_option maxRecDepth 100000 in
theorem sem_insBodies {i : Int} {xs ys : List Body} (h0 : 0 ≤ i) (h1 : i ≤ xs.length) (hy : ys.length = 1) (hx : xs.length ≤ 1048576) :
    FSem Tryz.prog 86 [.vec 0, .int .i64 i, .vec 1] [(true, .vec .body xs), (true, .vec .body ys)] (.vec 2) [(true, .dead), (true, .vec .body ys), (true, .vec .body (insL_Bodies xs i.toNat ys))] := by
  refine ⟨by simp, ?_, ?_, ?_, ?_⟩
  · intro k b hk
    match k, hk with
    | 0, hk => simp at hk
    | 1, hk => simp at hk
    | k + 2, hk => simp at hk
  · intro k b hk
    match k, hk with
    | 0, hk => exact ⟨.dead, rfl, by cases b <;> trivial⟩
    | 1, hk => simp at hk; subst hk; exact ⟨_, rfl, stays_refl _⟩
    | k + 2, hk => simp at hk
  · intro k e hk he
    match k, hk, he with
    | 2, hk, he => simp at he; subst he; rfl
    | k + 3, hk, he => simp at he
  intro wr env w us hh hnew hc
  have c0 : ofL [(true, Blk.vec .body xs), (true, Blk.vec .body ys)] 0 = some (true, .vec .body xs) := rfl
  have c1 : ofL [(true, Blk.vec .body xs), (true, Blk.vec .body ys)] 1 = some (true, .vec .body ys) := rfl
  have c2 : ofL [(true, Blk.vec .body xs), (true, Blk.vec .body ys)] 2 = none := rfl
  match us, hc with
  | [v0, v1, v2], ⟨hv0, hv1, hv2, _⟩ =>
  simp only [conc2, concC, c0] at hv0
  simp only [conc2, concC] at hv1
  simp only [conc2, concC, c1] at hv2
  subst hv0 hv1 hv2
  obtain ⟨l0, r0⟩ := hh.blk 0 true _ c0
  obtain ⟨l1, r1⟩ := hh.blk 1 true _ c1
  rw [hy] at l1
  rcases r1 with r1 | ⟨vb, voff, vE, vvs, vfz, hvb, hvheap, hvsize, hvlies, hvfz⟩
  · omega
  have hvfz := hvfz rfl
  subst hvfz
  obtain ⟨m, rfl⟩ := Int.eq_ofNat_of_zero_le h0
  have hm : m ≤ xs.length := by omega
  have hov3 : updH (ofL [(true, Blk.vec .body xs), (true, Blk.vec .body ys)]) [(0, true, .dead), (2, true, .vec .body (insL_Bodies xs m ys))] = ofL [(true, .dead), (true, .vec .body ys), (true, .vec .body (insL_Bodies xs m ys))] := ofL_over (U := .body) (zs := xs) (ts := insL_Bodies xs m ys) (R := [(true, .vec .body ys)])
  have hzl : (insL_Bodies xs m ys).length = xs.length + 1 := by simp [insL_Bodies, hy]; omega
  have fin : ∀ {x : Option Addr × Nat} {w' : Go.World}, HRel wr (envSet env 2 x) (ofL [(true, .dead), (true, .vec .body ys), (true, .vec .body (insL_Bodies xs m ys))]) w' → Fr wr w w' →
      ∃ v env', Ending.returned (.slice x.1 (xs.length + 1) x.2) = .returned v ∧ (∀ j, j < 2 → env' j = env j) ∧ HRel wr env' (ofL [(true, .dead), (true, .vec .body ys), (true, .vec .body (insL_Bodies xs m ys))]) w' ∧
        conc env' (ofL [(true, .dead), (true, .vec .body ys), (true, .vec .body (insL_Bodies xs m ys))]) (.vec 2) v ∧ Fr wr w w' := fun {x w'} hr hf => by
    refine ⟨_, envSet env 2 x, rfl, fun j hj => by simp only [envSet]; rw [if_neg (by omega)], hr, ?_, hf⟩
    have : ofL [(true, Blk.dead), (true, .vec .body ys), (true, .vec .body (insL_Bodies xs m ys))] 2 = some (true, .vec .body (insL_Bodies xs m ys)) := rfl
    simp only [conc, conc2, concC, this, hzl, envSet, if_true]
  have tL : Tryz.prog.underlying 23 = some (.slice 33) := by kernel_rfl
  have t3 : Tryz.prog.underlying 3 = some (.int .i64) := by kernel_rfl
  have hi0 : (Tryz.prog.info? 33).map (fun i => (i.size, i.bytes, i.zero.map fun z => z.cells.size)) = some (12, 96, some 12) := by kernel_rfl
  obtain ⟨ni, hni, hsz, hby, z, hz, hzs⟩ : ∃ ni, Tryz.prog.info? 33 = some ni ∧ ni.size = 12 ∧ ni.bytes = 96 ∧ ∃ z, ni.zero = some z ∧ z.cells.size = 12 := by
    obtain ⟨ni, h1, h2⟩ := Option.map_eq_some_iff.1 hi0
    simp only [Prod.mk.injEq] at h2
    obtain ⟨z, h3, h4⟩ := Option.map_eq_some_iff.1 h2.2.2
    exact ⟨ni, h1, h2.1, h2.2.1, z, h3, h4⟩
  have hszk : (Tryz.prog.info? 33).map (·.size) = some 12 := by rw [hni, Option.map_some, hsz]
  have hyc : ∀ q v, (flat .body ys)[q]? = some v → w.cell? ⟨vb, voff + q, none⟩ = some v := fun q v hq => by
    rw [cell_row hvheap]
    exact lies_flat.1 hvlies q v hq
  have hyl : (flat .body ys).length = 12 := by
    have := flat_length .body ys
    rw [hy] at this
    simpa [Ty.sz] using this
  have hxl : (flat .body (xs.drop m)).length = (xs.length - m) * 12 := by
    have := flat_length .body (xs.drop m)
    rw [List.length_drop] at this
    exact this
  rw [hy, hvb]
  by_cases he : m = xs.length
  · subst he
    have hz0 : insL_Bodies xs xs.length ys = xs ++ ys := by simp [insL_Bodies]
    obtain ⟨v, w', hrun, env', x1, x2, x3, x4⟩ := append_good (P := Tryz.prog) (U := .body) (ty := 23) hh hnew tL hni hsz hz hzs c0 c2 (ys := ys) (u := .slice (some ⟨vb, voff, none⟩) ys.length (env 1).2) ⟨_, _, rfl, fun _ => ⟨vb, voff, rfl, hyc⟩⟩ (by omega) (by rw [hy, hby]; unfold room; omega)
    rw [hy] at hrun
    have hw := insBodies_end (env 0).1 xs.length (env 0).2 vb voff (env 1).2 v w w' l0 hx (fun ty => by exact hrun)
    refine hw.mono ?_
    rintro e W ⟨rfl, rfl⟩
    rw [← hz0] at x2 x4
    rw [hov3] at x2 x4
    refine ⟨v, env', rfl, fun j hj => ?_, x2, x4, x3⟩
    match j, hj with
    | 0, _ => exact (x1.same 0 _ _ c0).1
    | 1, _ => exact (x1.same 1 _ _ c1).1
  have hlt : m < xs.length := by omega
  rcases r0 with r0 | ⟨b, off, E, vs, fz, hb, hheap, hsize, hlies, hfz⟩
  · omega
  have hfz := hfz rfl
  subst hfz
  have hsize : off + (env 0).2 * 12 ≤ vs.size := hsize
  have hne : vb ≠ b := fun e => by
    subst e
    refine hh.dj 0 1 true _ true _ (by omega) c0 c1 (.inl rfl) vb ?_ ?_
    · simp only [own]; rw [if_neg (by omega), hb]; rfl
    · simp only [own]; rw [if_neg (by omega), hvb]; rfl
  have hxc : ∀ q v, (flat .body (xs.drop m))[q]? = some v → vs[off + m * 12 + q]? = some v := fun q v hq => by
    have h1 : (flat .body xs)[m * 12 + q]? = some v := by
      rw [flat_drop, List.getElem?_drop] at hq
      exact hq
    have := lies_flat.1 hlies _ _ h1
    rw [← this]
    congr 1
    omega
  have hmul : (m + 1) * 12 = m * 12 + 12 := by omega
  rw [hb]
  by_cases hroom : xs.length + 1 ≤ (env 0).2
  · have hk := lies_insert (U := .body) (ys := ys) (i := m) hlies hm (by rw [hy]; change off + (xs.length + 1) * 12 ≤ vs.size; omega)
    have hsub : (xs.length - m) * 12 + m * 12 = xs.length * 12 := by rw [← Nat.add_mul]; congr 1; omega
    obtain ⟨row1, hrow1⟩ : ∃ row1 : Array Value, row1 = (vs.toList.take (off + (m + 1) * 12) ++ flat .body (xs.drop m) ++ vs.toList.drop (off + (m + 1) * 12 + (flat .body (xs.drop m)).length)).toArray := ⟨_, rfl⟩
    obtain ⟨row2, hrow2⟩ : ∃ row2 : Array Value, row2 = (row1.toList.take (off + m * 12) ++ flat .body ys ++ row1.toList.drop (off + m * 12 + (flat .body ys).length)).toArray := ⟨_, rfl⟩
    have hs1 : row1.size = vs.size := by
      rw [hrow1]
      simp only [List.size_toArray, List.length_append, List.length_take, List.length_drop, hxl, Array.length_toList]
      omega
    have hs2 : row2.size = vs.size := by
      rw [hrow2]
      simp only [List.size_toArray, List.length_append, List.length_take, List.length_drop, hyl, Array.length_toList, hs1]
      omega
    have hlies2 : Lies .body (insL_Bodies xs m ys) row2 off := by
      rw [hrow2, hrow1]
      rw [hy] at hk
      exact hk
    have hcp1 : ∀ ty dc sc, (Builtin.copy_ #[23, 23] ty #[.slice (some ⟨b, off + (m + 1) * 12, none⟩) (xs.length - m) dc, .slice (some ⟨b, off + m * 12, none⟩) (xs.length + 1 - m) sc]).run Tryz.prog w.drew = .ok (goInt (Nat.min (xs.length + 1 - m) (xs.length - m))) (w.drew.setRow b row1) := fun ty dc sc => by
      rw [hrow1]
      exact run_copy_row_k w.drew 23 23 ty 33 b (off + (m + 1) * 12) (xs.length - m) dc ⟨b, off + m * 12, none⟩ (xs.length + 1 - m) sc 12 vs E (flat .body (xs.drop m)) tL hszk hheap
        (by rw [hxl]; congr 1; exact (Nat.min_eq_right (by omega)).symm) (fun q v hq => by rw [add_addr, cell_row (w := w.drew) hheap]; exact hxc q v hq) (by rw [hxl]; omega) (flat_one _ _)
    have hg1 : (w.drew.setRow b row1).heap[b]? = some (.cells row1 E (0, 0)) := setRow_heap w.drew b vs row1 E (0, 0) hheap
    have hcp2 : ∀ ty dc sc, (Builtin.copy_ #[23, 23] ty #[.slice (some ⟨b, off + m * 12, none⟩) (xs.length + 1 - m) dc, .slice (some ⟨vb, voff, none⟩) 1 sc]).run Tryz.prog (w.drew.setRow b row1) = .ok (goInt (Nat.min 1 (xs.length + 1 - m))) ((w.drew.setRow b row1).setRow b row2) := fun ty dc sc => by
      rw [hrow2]
      exact run_copy_row_k (w.drew.setRow b row1) 23 23 ty 33 b (off + m * 12) (xs.length + 1 - m) dc ⟨vb, voff, none⟩ 1 sc 12 row1 E (flat .body ys) tL hszk hg1
        (by rw [hyl, show Nat.min 1 (xs.length + 1 - m) = 1 from Nat.min_eq_left (by omega)]) (fun q v hq => by
          rw [add_addr]
          have : (w.drew.setRow b row1).heap[vb]? = some (.cells vvs vE (0, 0)) := by rw [setRow_other w.drew b vb row1 hne]; exact hvheap
          rw [cell_row this]
          exact lies_flat.1 hvlies q v hq) (by rw [hyl]; omega) (flat_one _ _)
    have hw := insBodies_room b off xs.length (env 0).2 m vb voff (env 1).2 row1 row2 _ _ w hlt hroom hx (fun lb cb => ov_Bodies hne hheap hvheap (by omega) lb cb) hcp1 hcp2
    refine hw.mono ?_
    rintro e W ⟨rfl, rfl⟩
    have := over_inplace (w' := (w.drew.setRow b row1).setRow b row2) hh c0 c2 hnew (row := row2) hb (by omega) (fun y hy => by rw [setRow_other _ b y _ hy, setRow_other _ b y _ hy]; rfl) (setRow_heap _ b row1 row2 E (0, 0) hg1) (by change off + (env 0).2 * 12 ≤ row2.size; omega) (by rw [hzl]; exact hroom) hlies2 rfl rfl rfl ((size_setRow _ b row2).trans (size_setRow w.drew b row1))
    rw [hov3] at this
    have := fin this.2.1 this.2.2
    rw [hb] at this
    exact this
  · have hold : (Builtin.firstCells ni.size m (.slice (some ⟨b, off, none⟩) m (env 0).2)).run Tryz.prog w.drew = .ok (flat .body (xs.take m)).toArray w.drew := by
      rw [hsz]
      refine run_firstCells_some w.drew 12 m ⟨b, off, none⟩ m (env 0).2 (flat .body (xs.take m)) (by rw [flat_length, List.length_take, Nat.min_eq_left hm]; rfl) (fun q v hq => ?_)
      have hql : q < m * 12 := by
        have := (List.getElem?_eq_some_iff.1 hq).1
        rw [flat_length, List.length_take, Nat.min_eq_left hm] at this
        exact this
      rw [flat_get_take hql] at hq
      rw [add_addr, cell_row (w := w.drew) hheap]
      exact lies_flat.1 hlies q v hq
    have hfit := growslice_fits (need := xs.length + 1) (old := (env 0).2) (bytes := ni.bytes) (by omega) (by rw [hby]; omega)
    have hrz := fun ty => Lib.run_append_grow_zeros (P := Tryz.prog) w 23 3 ty 33 ni z .i64 .i64 tL t3 hni hz (some ⟨b, off, none⟩) m (env 0).2 (flat .body (xs.take m)) hold (xs.length + 1 - m) (by omega) (by omega) (by omega) (by omega) (by rw [hby]; omega) (by rw [show m + (xs.length + 1 - m) = xs.length + 1 by omega]; exact hfit)
    rw [show m + (xs.length + 1 - m) = xs.length + 1 by omega, show ((xs.length + 1 - m : Nat) : Int) = (xs.length : Int) + 1 - (m : Int) by omega] at hrz
    have hG := grownCap_need (w := w) (xs.length + 1) (env 0).2 33
    obtain ⟨G, hGe⟩ : ∃ G, G = grownCap w (xs.length + 1) (env 0).2 33 := ⟨_, rfl⟩
    rw [← hGe] at hG hrz
    obtain ⟨rest, hrest⟩ : ∃ rest : Array Value, rest = Builtin.zeroCells z.cells (xs.length + 1 - m) ++ Builtin.zeroCells z.cells (G - (xs.length + 1)) := ⟨_, rfl⟩
    obtain ⟨ROW, hROW⟩ : ∃ ROW : Array Value, ROW = (flat .body (xs.take m)).toArray ++ Builtin.zeroCells z.cells (xs.length + 1 - m) ++ Builtin.zeroCells z.cells (G - (xs.length + 1)) := ⟨_, rfl⟩
    rw [← hROW] at hrz
    have hsub : (xs.length - m) * 12 + m * 12 = xs.length * 12 := by rw [← Nat.add_mul]; congr 1; omega
    have htl : (flat .body (xs.take m)).length = m * 12 := by rw [flat_length, List.length_take, Nat.min_eq_left hm]; rfl
    have hRs : ROW.size = G * 12 := by
      rw [hROW]
      simp only [Array.size_append, List.size_toArray, htl, size_zeroCells, hzs]
      rw [← Nat.add_mul, ← Nat.add_mul]
      congr 1
      omega
    have hRl : ROW.toList = flat .body (xs.take m) ++ rest.toList := by rw [hROW, hrest]; simp
    have hk := lies_grow (U := .body) (ys := ys) (i := m) hRl hm (by rw [hy, hRs]; exact Nat.mul_le_mul_right _ hG)
    obtain ⟨row1, hrow1⟩ : ∃ row1 : Array Value, row1 = (ROW.toList.take (m * 12) ++ flat .body ys ++ ROW.toList.drop (m * 12 + (flat .body ys).length)).toArray := ⟨_, rfl⟩
    obtain ⟨row2, hrow2⟩ : ∃ row2 : Array Value, row2 = (row1.toList.take ((m + 1) * 12) ++ flat .body (xs.drop m) ++ row1.toList.drop ((m + 1) * 12 + (flat .body (xs.drop m)).length)).toArray := ⟨_, rfl⟩
    have hGm : (xs.length + 1) * 12 ≤ G * 12 := Nat.mul_le_mul_right _ hG
    have hs1 : row1.size = ROW.size := by
      rw [hrow1]
      simp only [List.size_toArray, List.length_append, List.length_take, List.length_drop, hyl, Array.length_toList]
      omega
    have hs2 : row2.size = ROW.size := by
      rw [hrow2]
      simp only [List.size_toArray, List.length_append, List.length_take, List.length_drop, hxl, Array.length_toList, hs1]
      omega
    have hlies2 : Lies .body (insL_Bodies xs m ys) row2 0 := by
      rw [hrow2, hrow1]
      rw [hy] at hk
      exact hk
    have hbN : b < w.heap.size := (Array.getElem?_eq_some_iff.1 hheap).1
    have hvN : vb < w.heap.size := (Array.getElem?_eq_some_iff.1 hvheap).1
    obtain ⟨A, hA⟩ : ∃ A, A = w.drew.alloc (.cells ROW 33) := ⟨_, rfl⟩
    rw [← hA] at hrz
    have hAN : A.heap[w.heap.size]? = some (.cells ROW 33 (0, 0)) := by rw [hA]; exact Array.getElem?_push_size
    have hAo : ∀ y, y < w.heap.size → A.heap[y]? = w.heap[y]? := fun y hy => by
      rw [hA]
      have : (w.drew.alloc (.cells ROW 33)).heap = w.heap.push (.cells ROW 33) := rfl
      rw [this, Array.getElem?_push, if_neg (by omega)]
    have hcpA : ∀ ty dc sc, (Builtin.copy_ #[23, 23] ty #[.slice (some ⟨w.heap.size, m * 12, none⟩) (xs.length + 1 - m) dc, .slice (some ⟨vb, voff, none⟩) 1 sc]).run Tryz.prog A = .ok (goInt (Nat.min 1 (xs.length + 1 - m))) (A.setRow w.heap.size row1) := fun ty dc sc => by
      rw [hrow1]
      exact run_copy_row_k A 23 23 ty 33 w.heap.size (m * 12) (xs.length + 1 - m) dc ⟨vb, voff, none⟩ 1 sc 12 ROW 33 (flat .body ys) tL hszk hAN
        (by rw [hyl, show Nat.min 1 (xs.length + 1 - m) = 1 from Nat.min_eq_left (by omega)]) (fun q v hq => by
          rw [add_addr, cell_row ((hAo vb hvN).trans hvheap)]
          exact lies_flat.1 hvlies q v hq) (by rw [hyl, hRs]; omega) (flat_one _ _)
    have hg1 : (A.setRow w.heap.size row1).drew.heap[w.heap.size]? = some (.cells row1 33 (0, 0)) := setRow_heap A w.heap.size ROW row1 33 (0, 0) hAN
    have hcpB : ∀ ty dc sc, (Builtin.copy_ #[23, 23] ty #[.slice (some ⟨w.heap.size, (m + 1) * 12, none⟩) (xs.length - m) dc, .slice (some ⟨b, off + m * 12, none⟩) (xs.length - m) sc]).run Tryz.prog (A.setRow w.heap.size row1).drew = .ok (goInt (Nat.min (xs.length - m) (xs.length - m))) ((A.setRow w.heap.size row1).drew.setRow w.heap.size row2) := fun ty dc sc => by
      rw [hrow2]
      exact run_copy_row_k (A.setRow w.heap.size row1).drew 23 23 ty 33 w.heap.size ((m + 1) * 12) (xs.length - m) dc ⟨b, off + m * 12, none⟩ (xs.length - m) sc 12 row1 33 (flat .body (xs.drop m)) tL hszk hg1
        (by rw [hxl]; congr 1; exact (Nat.min_self _).symm) (fun q v hq => by
          have : (A.setRow w.heap.size row1).drew.heap[b]? = some (.cells vs E (0, 0)) := by
            have := setRow_other A w.heap.size b row1 (by omega)
            exact this.trans ((hAo b hbN).trans hheap)
          rw [add_addr, cell_row this]
          exact hxc q v hq) (by rw [hxl, hs1, hRs]; omega) (flat_one _ _)
    have hw := insBodies_grow b off xs.length (env 0).2 m vb voff (env 1).2 w.heap.size G _ _ w A _ _ hlt l0 (by omega) hG hx hrz hcpA hcpB
    refine hw.mono ?_
    rintro e W ⟨rfl, rfl⟩
    have hAsz : A.heap.size = w.heap.size + 1 := by rw [hA]; exact Array.size_push _
    have := over_new (w' := (A.setRow w.heap.size row1).drew.setRow w.heap.size row2) hh c0 c2 hnew (gc := G) (row := row2)
      (fun y hy => by
        have e1 := setRow_other (A.setRow w.heap.size row1).drew w.heap.size y row2 (by omega)
        have e2 := setRow_other A w.heap.size y row1 (by omega)
        exact e1.trans (e2.trans (hAo y hy)))
      (setRow_heap _ w.heap.size row1 row2 33 (0, 0) hg1) (by change G * 12 ≤ row2.size; omega) (by rw [hzl]; exact hG) hlies2 (by rw [hA]; rfl) (by rw [hA]; rfl) (by rw [hA]; rfl) (by rw [size_setRow, drew_heap, size_setRow, hAsz]; omega)
    rw [hov3] at this
    exact fin this.2.1 this.2.2
theorem ok_insBodies : FsOk Tryz.prog 86 fs_insBodies := by
  refine ⟨fun w args => run_callFunc Tryz.func86 (by kernel_rfl) (by kernel_rfl) w args, ?_⟩
  intro args L p r L' h hp
  unfold fs_insBodies at h
  dsimp only at h
  split at h
  case h_2 => cases h
  rename_i i xs ys
  simp only [Option.some.injEq, Prod.mk.injEq] at h
  obtain ⟨rfl, rfl, rfl⟩ := h
  obtain ⟨h0, h1, h2, h3⟩ := hp _ rfl
  exact sem_insBodies h0 h1 h2 h3
end Go.Proofs.YtnahfbjdicjdpaaGreat.Sym

namespace Go.Proofs.YtnahfbjdicjdpaaGreat.Sym
open Go
set_option linter.unusedVariables false
set_option linter.unusedSimpArgs false
set_option maxRecDepth 100000

def insB (xs : List Body) (k : Nat) (b : Body) : List Body := xs.take k ++ [b] ++ xs.drop k
def putCode (ok : Bool) (xs : List Body) (b : Body) : Int := bif ok && bodyOk b then bif hasB xs b.Id then 2 else bif decide (xs.length ≥ 12) then 3 else 0 else 1
def putBodies (xs : List Body) (b : Body) : List Body := bif bodyOk b && !hasB xs b.Id && !decide (xs.length ≥ 12) then insB xs (atB xs b.Id) b else xs
theorem worldOk_len {t p : Int} {xs : List Body} {ps : List Pair} (h : worldOk t p xs ps = true) : xs.length ≤ 12 := by
  simp only [worldOk, Bool.and_eq_true] at h
  exact bodiesOk_len h.1.2
noncomputable def fs_implWorldPut : Fs := ⟨[], fun args H => match args, H with
  | [.agg [.int .i64 t, .int .i64 p, .vec 0, .vec 1], .agg [.int .i64 aI, .int .i64 aK, .int .i64 aW, .int .i64 aH, .int .i64 aX, .int .i64 aY, .int .i64 aU, .int .i64 aV, .int .i64 aM, .int .i64 aB, .int .i64 aR, .int .i64 aQ]], [(false, .vec .body xs), (false, .vec .pair ps)] => some ((some (xs.length ≤ 1048576 ∧ ps.length ≤ 1048576)), .tup [.agg [.int .i64 (orI (worldOk t p xs ps) t), .int .i64 (orI (worldOk t p xs ps) p), .vec 2, .vec 3], .int .i64 (putCode (worldOk t p xs ps) xs ⟨aI, ⟨aK, aW, aH⟩, ⟨aX, aY⟩, ⟨aU, aV⟩, aM, aB, aR, aQ⟩)], [(false, .vec .body xs), (false, .vec .pair ps), (true, .vec .body (orL (worldOk t p xs ps) (putBodies xs ⟨aI, ⟨aK, aW, aH⟩, ⟨aX, aY⟩, ⟨aU, aV⟩, aM, aB, aR, aQ⟩))), (true, .vec .pair (orL (worldOk t p xs ps) ps))])
  | _, _ => none⟩

theorem vc_implWorldPut (t : Int) (p : Int) (xs : List Body) (ps : List Pair) (aI : Int) (aK : Int) (aW : Int) (aH : Int) (aX : Int) (aY : Int) (aU : Int) (aV : Int) (aM : Int) (aB : Int) (aR : Int) (aQ : Int) (Q : SV → List Ent → Prop) :
    fnVC tt (look [(36, fs_implWorldOk), (73, fs_implCopyW), (80, fs_place), (66, fs_implBodyOk), (86, fs_insBodies)]) L0 Tryz.f43 [.agg [.int .i64 t, .int .i64 p, .vec 0, .vec 1], .agg [.int .i64 aI, .int .i64 aK, .int .i64 aW, .int .i64 aH, .int .i64 aX, .int .i64 aY, .int .i64 aU, .int .i64 aV, .int .i64 aM, .int .i64 aB, .int .i64 aR, .int .i64 aQ]] [(false, .vec .body xs), (false, .vec .pair ps)] Q =
    ((List.length xs ≤ (1048576 : Nat) ∧ List.length ps ≤ (1048576 : Nat)) ∧ ifB (!worldOk t p xs ps) (Q (SV.tup [SV.agg [SV.int IntKind.i64 (0 : Int), SV.int IntKind.i64 (0 : Int), SV.vec (2 : Nat), SV.vec (3 : Nat)], SV.int IntKind.i64 (1 : Int)]) [(false, Blk.vec Ty.body xs), (false, Blk.vec Ty.pair ps), (true, Blk.vec Ty.body []), (true, Blk.vec Ty.pair [])]) ((List.length xs ≤ (1048576 : Nat) ∧ List.length ps ≤ (1048576 : Nat)) ∧ List.length xs ≤ (4611686018427387904 : Nat) ∧ ifB (!bodyOk (Body.mk aI (Shape.mk aK aW aH) (Vec.mk aX aY) (Vec.mk aU aV) aM aB aR aQ)) (Q (SV.tup [SV.agg [SV.int IntKind.i64 t, SV.int IntKind.i64 p, SV.vec (2 : Nat), SV.vec (3 : Nat)], SV.int IntKind.i64 (1 : Int)]) [(false, Blk.vec Ty.body xs), (false, Blk.vec Ty.pair ps), (true, Blk.vec Ty.body xs), (true, Blk.vec Ty.pair ps)]) (ifB (hasB xs aI) (Q (SV.tup [SV.agg [SV.int IntKind.i64 t, SV.int IntKind.i64 p, SV.vec (2 : Nat), SV.vec (3 : Nat)], SV.int IntKind.i64 (2 : Int)]) [(false, Blk.vec Ty.body xs), (false, Blk.vec Ty.pair ps), (true, Blk.vec Ty.body xs), (true, Blk.vec Ty.pair ps)]) (ifB ((↑(List.length xs) : Int) == (12 : Int)) (Q (SV.tup [SV.agg [SV.int IntKind.i64 t, SV.int IntKind.i64 p, SV.vec (2 : Nat), SV.vec (3 : Nat)], SV.int IntKind.i64 (3 : Int)]) [(false, Blk.vec Ty.body xs), (false, Blk.vec Ty.pair ps), (true, Blk.vec Ty.body xs), (true, Blk.vec Ty.pair ps)]) (((0 : Int) ≤ (↑(atB xs aI) : Int) ∧ (↑(atB xs aI) : Int) ≤ (↑(List.length xs) : Int) ∧ List.length [Body.mk aI (Shape.mk aK aW aH) (Vec.mk aX aY) (Vec.mk aU aV) aM aB aR aQ] = (1 : Nat) ∧ List.length xs ≤ (1048576 : Nat)) ∧ Q (SV.tup [SV.agg [SV.int IntKind.i64 t, SV.int IntKind.i64 p, SV.vec (2 : Nat), SV.vec (3 : Nat)], SV.int IntKind.i64 (0 : Int)]) [(false, Blk.vec Ty.body xs), (false, Blk.vec Ty.pair ps), (true, Blk.vec Ty.body (insL_Bodies xs (Int.toNat (↑(atB xs aI) : Int)) [Body.mk aI (Shape.mk aK aW aH) (Vec.mk aX aY) (Vec.mk aU aV) aM aB aR aQ])), (true, Blk.vec Ty.pair ps)]))))) := by kernel_rfl

theorem ok_implWorldPut : FsOk Tryz.prog 43 fs_implWorldPut := fsOk_of tt_ok (tabFs_cons ok_implWorldOk (tabFs_cons ok_implCopyW (tabFs_cons ok_place (tabFs_cons ok_implBodyOk (tabFs_cons ok_insBodies tabFs_nil))))) mixed Tryz.func43 (by kernel_rfl) (by kernel_rfl) (by
    intro args LL p r HH h hp
    unfold fs_implWorldPut at h
    dsimp only at h
    split at h
    case h_2 => cases h
    rename_i t p aI aK aW aH aX aY aU aV aM aB aR aQ xs ps
    simp only [Option.some.injEq, Prod.mk.injEq] at h
    obtain ⟨rfl, rfl, rfl⟩ := h
    refine ⟨by simp [Form, stays], L0, ?_⟩
    rw [vc_implWorldPut]
    try dsimp only
    obtain ⟨hb, hb2⟩ := hp _ rfl
    have hk := atB_le xs aI
    refine ⟨⟨hb, hb2⟩, ifB_of (fun c => ?_) (fun c => ⟨⟨hb, hb2⟩, by omega, ifB_of (fun c2 => ?_) (fun c2 => ifB_of (fun c3 => ?_) (fun c3 => ifB_of (fun c4 => ?_) (fun c4 => ?_)))⟩)⟩
    · simp [orI, orL, putCode, putBodies, not_true c]
    · simp [orI, orL, putCode, putBodies, not_false c, not_true c2]
    · simp [orI, orL, putCode, putBodies, not_false c, not_false c2, c3]
    · have c4 : (xs.length : Int) = 12 := by simpa using c4
      simp [orI, orL, putCode, putBodies, not_false c, not_false c2, c3, show xs.length ≥ 12 by omega]
    · have c4 : ¬ (xs.length : Int) = 12 := by simpa using c4
      have hl := worldOk_len (not_false c)
      refine ⟨⟨by omega, by omega, rfl, hb⟩, ?_⟩
      simp [orI, orL, putCode, putBodies, insB, insL_Bodies, not_false c, not_false c2, c3, show ¬ xs.length ≥ 12 by omega])

end Go.Proofs.YtnahfbjdicjdpaaGreat.Sym

namespace Go.Proofs.YtnahfbjdicjdpaaGreat.Sym
open Go
set_option linter.unusedVariables false
set_option linter.unusedSimpArgs false
set_option maxRecDepth 100000

theorem take_ix {T : Ty} {xs : List T.El} {j : Nat} (h : j < xs.length) : xs.take (j + 1) = xs.take j ++ [T.ix xs j] := by
  rw [List.take_add_one, ix_get (T := T) h]
  rfl
end Go.Proofs.YtnahfbjdicjdpaaGreat.Sym

namespace Go.Proofs.YtnahfbjdicjdpaaGreat.Sym
open Go
set_option linter.unusedVariables false
set_option linter.unusedSimpArgs false
set_option maxRecDepth 100000
noncomputable section
theorem hasB_iff {xs : List Body} (h : bodiesOk xs = true) {id : Int} : hasB xs id = true ↔ ∃ e, e < xs.length ∧ (Ty.ix .body xs e).Id = id := by
  constructor
  · intro q
    exact ⟨_, hasB_id q⟩
  · rintro ⟨e, he, rfl⟩
    exact (hasB_self h he).1
theorem ix_insB {xs : List Body} {k : Nat} {b : Body} (hk : k ≤ xs.length) (e : Nat) : Ty.ix .body (insB xs k b) e = if e < k then Ty.ix .body xs e else if e = k then b else Ty.ix .body xs (e - 1) := by
  have hl : (xs.take k).length = k := by simp; omega
  have e1 : insB xs k b = xs.take k ++ b :: xs.drop k := by simp [insB]
  rw [e1]
  simp only [Ty.ix, List.getD_eq_getElem?_getD]
  by_cases c : e < k
  · rw [if_pos c, List.getElem?_append_left (by omega), List.getElem?_take_of_lt c]
  · rw [if_neg c, List.getElem?_append_right (by omega), hl]
    by_cases c2 : e = k
    · rw [if_pos c2, show e - k = 0 by omega]
      rfl
    · rw [if_neg c2, show e - k = (e - k - 1) + 1 by omega, List.getElem?_cons_succ, List.getElem?_drop]
      congr 2
      omega
theorem length_insB {xs : List Body} {k : Nat} {b : Body} (hk : k ≤ xs.length) : (insB xs k b).length = xs.length + 1 := by
  simp only [insB, List.length_append, List.length_take, List.length_drop, List.length_singleton]
  omega
theorem atB_lo {xs : List Body} {id : Int} {e : Nat} (he : e < atB xs id) : (Ty.ix .body xs e).Id < id := by
  have := (pref_spec (T := .body) (p := fun y : Body => decide (y.Id < id)) xs).2.1 e he
  exact of_decide_eq_true this
theorem atB_hi {xs : List Body} {id : Int} (hok : bodiesOk xs = true) (hn : hasB xs id = false) {e : Nat} (he : atB xs id ≤ e) (hl : e < xs.length) : id < (Ty.ix .body xs e).Id := by
  have h1 := (pref_spec (T := .body) (p := fun y : Body => decide (y.Id < id)) xs).2.2 (show atB xs id < xs.length by omega)
  have h1 : ¬ (Ty.ix .body xs (atB xs id)).Id < id := of_decide_eq_false h1
  have h2 : (Ty.ix .body xs (atB xs id)).Id ≠ id := fun q => by
    have := (hasB_iff hok).2 ⟨_, show atB xs id < xs.length by omega, q⟩
    rw [hn] at this
    cases this
  by_cases c : e = atB xs id
  · rw [c]
    omega
  · have := bodies_lt hok (show atB xs id < e by omega) hl
    omega
theorem ins_ok {xs : List Body} {b : Body} (hok : bodiesOk xs = true) (hn : hasB xs b.Id = false) (hb : bodyOk b = true) (hl : xs.length < 12) : bodiesOk (insB xs (atB xs b.Id) b) = true := by
  have hk := atB_le xs b.Id
  have hlen := length_insB (b := b) hk
  obtain ⟨h1, h2, h3⟩ := bodiesOk_iff.1 hok
  refine bodiesOk_iff.2 ⟨by omega, fun e he => ?_, fun e he => ?_⟩
  · rw [ix_insB hk]
    by_cases c : e < atB xs b.Id
    · rw [if_pos c]; exact h2 _ (by omega)
    · rw [if_neg c]
      by_cases c2 : e = atB xs b.Id
      · rw [if_pos c2]; exact hb
      · rw [if_neg c2]; exact h2 _ (by omega)
  · rw [ix_insB hk, ix_insB hk]
    by_cases c : e + 1 < atB xs b.Id
    · rw [if_pos c, if_pos (by omega)]
      exact h3 e (by omega)
    · rw [if_neg c]
      by_cases c2 : e + 1 = atB xs b.Id
      · rw [if_pos c2, if_pos (by omega)]
        exact atB_lo (by omega)
      · rw [if_neg c2, if_neg (by omega)]
        by_cases c3 : e = atB xs b.Id
        · rw [if_pos c3]
          exact atB_hi hok hn (by omega) (by omega)
        · rw [if_neg c3]
          exact bodies_lt hok (by omega) (by omega)
theorem ins_has {xs : List Body} {b : Body} (hok : bodiesOk xs = true) (hn : hasB xs b.Id = false) (hb : bodyOk b = true) (hl : xs.length < 12) : hasB (insB xs (atB xs b.Id) b) b.Id = true ∧ atB (insB xs (atB xs b.Id) b) b.Id = atB xs b.Id ∧ ∀ n, hasB xs n = true → hasB (insB xs (atB xs b.Id) b) n = true := by
  have hk := atB_le xs b.Id
  have hlen := length_insB (b := b) hk
  have hio := ins_ok hok hn hb hl
  have e0 : Ty.ix .body (insB xs (atB xs b.Id) b) (atB xs b.Id) = b := by
    rw [ix_insB hk, if_neg (by omega), if_pos rfl]
  have h0 := hasB_self hio (a := atB xs b.Id) (by omega)
  rw [e0] at h0
  refine ⟨h0.1, h0.2, fun n h => ?_⟩
  obtain ⟨q1, q2⟩ := hasB_id h
  by_cases c : atB xs n < atB xs b.Id
  · exact (hasB_iff hio).2 ⟨atB xs n, by omega, by rw [ix_insB hk, if_pos c]; exact q2⟩
  · exact (hasB_iff hio).2 ⟨atB xs n + 1, by omega, by rw [ix_insB hk, if_neg (by omega), if_neg (by omega), show atB xs n + 1 - 1 = atB xs n by omega]; exact q2⟩
theorem ins_world {t p : Int} {xs : List Body} {ps : List Pair} {b : Body} (hw : worldOk t p xs ps = true) (hn : hasB xs b.Id = false) (hb : bodyOk b = true) (hl : xs.length < 12) : worldOk t p (insB xs (atB xs b.Id) b) ps = true := by
  have hok := worldOk_bodies hw
  obtain ⟨t0, t1, p0, p1⟩ := worldOk_t hw
  refine worldOk_of ⟨t0, t1⟩ ⟨p0, p1⟩ (ins_ok hok hn hb hl) (fun q hq => ?_) (sorted_of hw)
  obtain ⟨r1, r2, r3⟩ := in_of hw hq
  have := (ins_has hok hn hb hl).2.2
  exact ⟨this _ r1, this _ r2, r3⟩
theorem put_eq {xs : List Body} {b : Body} (hn : hasB xs b.Id = false) (hb : bodyOk b = true) (hl : xs.length < 12) : putBodies xs b = insB xs (atB xs b.Id) b := by
  unfold putBodies
  rw [hb, hn, decide_eq_false (show ¬ xs.length ≥ 12 by omega)]
  rfl
end
end Go.Proofs.YtnahfbjdicjdpaaGreat.Sym

namespace Go.Proofs.YtnahfbjdicjdpaaGreat.Sym
open Go
set_option linter.unusedVariables false
set_option linter.unusedSimpArgs false
set_option maxRecDepth 100000

noncomputable def fs_lawsPqWorld : Fs := ⟨[], fun args H => match args, H with
  | [.agg [.int .i64 t, .int .i64 p, .vec 0, .vec 1], .agg [.int .i64 t', .int .i64 p', .vec 2, .vec 3]], [(false, .vec .body xs), (false, .vec .pair ps), (false, .vec .body ys), (false, .vec .pair qs)] => some ((some (xs.length ≤ 4611686018427387904 ∧ ps.length ≤ 4611686018427387904)), .bool (eqW4 t p xs ps t' p' ys qs), [(false, .vec .body xs), (false, .vec .pair ps), (false, .vec .body ys), (false, .vec .pair qs)])
  | _, _ => none⟩

theorem vc_lawsPqWorld (t : Int) (p : Int) (t' : Int) (p' : Int) (xs : List Body) (ps : List Pair) (ys : List Body) (qs : List Pair) (Q : SV → List Ent → Prop) :
    fnVC tt (look [(17, fs_lawsPqBodies), (37, fs_lawsPqPairs)]) L0 Tryz.f34 [.agg [.int .i64 t, .int .i64 p, .vec 0, .vec 1], .agg [.int .i64 t', .int .i64 p', .vec 2, .vec 3]] [(false, .vec .body xs), (false, .vec .pair ps), (false, .vec .body ys), (false, .vec .pair qs)] Q =
    (ifB (t == t') (ifB (p == p') (List.length xs ≤ (4611686018427387904 : Nat) ∧ ifB (same xs ys) (List.length ps ≤ (4611686018427387904 : Nat) ∧ Q (SV.bool (same ps qs)) [(false, Blk.vec Ty.body xs), (false, Blk.vec Ty.pair ps), (false, Blk.vec Ty.body ys), (false, Blk.vec Ty.pair qs)]) (Q (SV.bool false) [(false, Blk.vec Ty.body xs), (false, Blk.vec Ty.pair ps), (false, Blk.vec Ty.body ys), (false, Blk.vec Ty.pair qs)])) (Q (SV.bool false) [(false, Blk.vec Ty.body xs), (false, Blk.vec Ty.pair ps), (false, Blk.vec Ty.body ys), (false, Blk.vec Ty.pair qs)])) (Q (SV.bool false) [(false, Blk.vec Ty.body xs), (false, Blk.vec Ty.pair ps), (false, Blk.vec Ty.body ys), (false, Blk.vec Ty.pair qs)])) := by kernel_rfl

theorem ok_lawsPqWorld : FsOk Tryz.prog 34 fs_lawsPqWorld := fsOk_of tt_ok (tabFs_cons ok_lawsPqBodies (tabFs_cons ok_lawsPqPairs tabFs_nil)) mixed Tryz.func34 (by kernel_rfl) (by kernel_rfl) (by
    intro args LL p r HH h hp
    unfold fs_lawsPqWorld at h
    dsimp only at h
    split at h
    case h_2 => cases h
    rename_i t p t' p' xs ps ys qs
    simp only [Option.some.injEq, Prod.mk.injEq] at h
    obtain ⟨rfl, rfl, rfl⟩ := h
    refine ⟨by simp [Form, stays], L0, ?_⟩
    rw [vc_lawsPqWorld]
    try dsimp only
    obtain ⟨hb, hb2⟩ := hp _ rfl
    refine ifB_of (fun c => ifB_of (fun c2 => ⟨hb, ifB_of (fun c3 => ⟨hb2, ?_⟩) (fun c3 => ?_)⟩) (fun c2 => ?_)) (fun c => ?_)
    · simp [eqW4, c, c2, c3]
    · simp [eqW4, c, c2, c3]
    · simp [eqW4, c, c2]
    · simp [eqW4, c])

end Go.Proofs.YtnahfbjdicjdpaaGreat.Sym

namespace Go.Proofs.YtnahfbjdicjdpaaGreat.Sym
open Go
set_option linter.unusedVariables false
set_option linter.unusedSimpArgs false
set_option maxRecDepth 100000
noncomputable section
end
end Go.Proofs.YtnahfbjdicjdpaaGreat.Sym

namespace Go.Proofs.YtnahfbjdicjdpaaGreat.Sym
open Go
set_option linter.unusedVariables false
set_option linter.unusedSimpArgs false
set_option maxRecDepth 100000
noncomputable section
theorem conAt_in {xs : List Body} {i k : Nat} (h2 : (touchB (Ty.ix .body xs i) (Ty.ix .body xs k)).2 = true) (h3 : ¬ ((Ty.ix .body xs i).Mass = 0 ∧ (Ty.ix .body xs k).Mass = 0)) : (⟨i, k, (touchB (Ty.ix .body xs i) (Ty.ix .body xs k)).1⟩ : Contact) ∈ conAt xs i k := by
  unfold conAt
  have e : ((Ty.ix .body xs i).Mass == 0 && (Ty.ix .body xs k).Mass == 0) = false := by
    cases q : (Ty.ix .body xs i).Mass == 0 && (Ty.ix .body xs k).Mass == 0 with
    | false => rfl
    | true =>
      rw [Bool.and_eq_true] at q
      exact absurd ⟨eq_of_beq q.1, eq_of_beq q.2⟩ h3
  rw [e, h2]
  simp
theorem conRow_in {xs : List Body} {i k : Nat} {c : Contact} (hc : c ∈ conAt xs i k) : ∀ {m : Nat}, m ≤ xs.length → xs.length - m ≤ k → k < xs.length → c ∈ conRow xs i m
  | 0, _, h1, h2 => by omega
  | m + 1, h0, h1, h2 => by
    show c ∈ conAt xs i (xs.length - (m + 1)) ++ conRow xs i m
    rw [List.mem_append]
    by_cases e : k = xs.length - (m + 1)
    · rw [← e]
      exact .inl hc
    · exact .inr (conRow_in hc (by omega) (by omega) h2)
theorem conAll_in {xs : List Body} {i k : Nat} {c : Contact} (hc : c ∈ conAt xs i k) (hik : i < k) (hk : k < xs.length) : ∀ {m : Nat}, m ≤ xs.length → xs.length - m ≤ i → c ∈ conAll xs m
  | 0, _, h1 => by omega
  | m + 1, h0, h1 => by
    show c ∈ conRow xs (xs.length - (m + 1)) m ++ conAll xs m
    rw [List.mem_append]
    by_cases e : i = xs.length - (m + 1)
    · rw [← e]
      exact .inl (conRow_in hc (by omega) (by omega) hk)
    · exact .inr (conAll_in hc hik hk (by omega) (by omega))
theorem mem_contacts_iff {xs : List Body} {c : Contact} : c ∈ contactsF xs ↔ isCt xs c := by
  refine ⟨mem_contactsF, fun ⟨i, k, h1, h2, h3, h4, h5⟩ => ?_⟩
  rw [h3]
  exact conAll_in (conAt_in h4 h5) h1 h2 (Nat.le_refl _) (by omega)
/-- Lists in the same order with the same members are the same. -/
theorem sorted_eq {α : Type} {R : α → α → Prop} (irr : ∀ a, ¬ R a a) (asy : ∀ {a b}, R a b → ¬ R b a) : ∀ {A B : List α}, A.Pairwise R → B.Pairwise R → (∀ x, x ∈ A ↔ x ∈ B) → A = B
  | [], [], _, _, _ => rfl
  | [], b :: B, _, _, h => absurd ((h b).2 (List.mem_cons_self ..)) (by simp)
  | a :: A, [], _, _, h => absurd ((h a).1 (List.mem_cons_self ..)) (by simp)
  | a :: A, b :: B, ha, hb, h => by
    rw [List.pairwise_cons] at ha hb
    have e : a = b := by
      have h1 := (h a).1 (List.mem_cons_self ..)
      have h2 := (h b).2 (List.mem_cons_self ..)
      rw [List.mem_cons] at h1 h2
      rcases h1 with h1 | h1
      · exact h1
      · rcases h2 with h2 | h2
        · exact h2.symm
        · exact absurd (hb.1 a h1) (asy (ha.1 b h2))
    subst e
    congr 1
    refine sorted_eq irr asy ha.2 hb.2 fun x => ?_
    constructor
    · intro hx
      have := (h x).1 (List.mem_cons_of_mem _ hx)
      rw [List.mem_cons] at this
      rcases this with e | e
      · rw [e] at hx
        exact absurd (ha.1 _ hx) (irr _)
      · exact e
    · intro hx
      have := (h x).2 (List.mem_cons_of_mem _ hx)
      rw [List.mem_cons] at this
      rcases this with e | e
      · rw [e] at hx
        exact absurd (hb.1 _ hx) (irr _)
      · exact e
/-- The bodies ys are those of xs that u picks, in their order; what touches a body of the part from outside touches one that is fixed. -/
structure Part (xs ys : List Body) (u : Nat → Nat) : Prop where
  lt : ∀ e, e < ys.length → u e < xs.length
  mono : ∀ e f, e < f → f < ys.length → u e < u f
  same : ∀ e, e < ys.length → Ty.ix .body ys e = Ty.ix .body xs (u e)
  shut : ∀ a b, a < xs.length → b < xs.length → (∃ h, (⟨a, b, h⟩ : Contact) ∈ contactsF xs ∨ (⟨b, a, h⟩ : Contact) ∈ contactsF xs) → (∃ e, e < ys.length ∧ u e = a) → freeB xs a = true → ∃ f, f < ys.length ∧ u f = b
def inU (n : Nat) (u : Nat → Nat) (a : Nat) : Prop := ∃ e, e < n ∧ u e = a
/-- The numbers of a contact of the part, in the whole. -/
def ren (u : Nat → Nat) (c : Contact) : Contact := ⟨u c.A.toNat, u c.B.toNat, c.Hit⟩
theorem Part.inj {xs ys : List Body} {u : Nat → Nat} (p : Part xs ys u) {e f : Nat} (he : e < ys.length) (hf : f < ys.length) (h : u e = u f) : e = f := by
  rcases Nat.lt_trichotomy e f with q | q | q
  · have := p.mono _ _ q hf
    omega
  · exact q
  · have := p.mono _ _ q he
    omega
def both (n : Nat) (u : Nat → Nat) (c : Contact) : Bool := @decide (inU n u c.A.toNat ∧ inU n u c.B.toNat) (Classical.propDecidable _)
theorem both_iff {n : Nat} {u : Nat → Nat} {c : Contact} : both n u c = true ↔ inU n u c.A.toNat ∧ inU n u c.B.toNat := by
  unfold both
  exact @decide_eq_true_iff _ (Classical.propDecidable _)
theorem Part.ct {xs ys : List Body} {u : Nat → Nat} (p : Part xs ys u) {e f : Nat} (h1 : e < f) (h2 : f < ys.length) : (touchB (Ty.ix .body ys e) (Ty.ix .body ys f)) = touchB (Ty.ix .body xs (u e)) (Ty.ix .body xs (u f)) := by
  rw [p.same e (by omega), p.same f h2]
theorem Part.contacts {xs ys : List Body} {u : Nat → Nat} (p : Part xs ys u) : (contactsF xs).filter (both ys.length u) = (contactsF ys).map (ren u) := by
  refine sorted_eq (R := beforeC) (fun a h => by unfold beforeC at h; omega) (fun h h2 => by unfold beforeC at h h2; omega) ((contacts_sorted xs).filter _) ?_ fun c => ?_
  · rw [List.pairwise_map]
    refine (contacts_sorted ys).imp_of_mem ?_
    intro c d hc hd h
    obtain ⟨a, b, q1, q2, q3, _⟩ := mem_contactsF hc
    obtain ⟨a2, b2, r1, r2, r3, _⟩ := mem_contactsF hd
    rw [q3, r3] at h ⊢
    unfold beforeC ren at *
    dsimp only at *
    simp only [Int.toNat_natCast]
    rcases h with h | ⟨h, h2⟩
    · have := p.mono a a2 (by omega) (by omega)
      exact .inl (by omega)
    · have e : a = a2 := by omega
      have := p.mono b b2 (by omega) (by omega)
      rw [e]
      exact .inr ⟨rfl, by omega⟩
  · rw [List.mem_filter, List.mem_map, mem_contacts_iff, both_iff]
    constructor
    · rintro ⟨⟨i, k, h1, h2, h3, h4, h5⟩, ⟨e, he, ue⟩, f, hf, uf⟩
      rw [h3] at ue uf
      simp only [Int.toNat_natCast] at ue uf
      have hef : e < f := by
        refine Nat.lt_of_not_le fun hle => ?_
        by_cases q : e = f
        · rw [q] at ue
          omega
        · have := p.mono f e (by omega) he
          omega
      refine ⟨⟨e, f, (touchB (Ty.ix .body ys e) (Ty.ix .body ys f)).1⟩, mem_contacts_iff.2 ⟨e, f, hef, hf, rfl, ?_, ?_⟩, ?_⟩
      · rw [p.ct hef hf, ue, uf]
        exact h4
      · rw [p.same e he, p.same f hf, ue, uf]
        exact h5
      · rw [h3]
        unfold ren
        simp only [Int.toNat_natCast]
        rw [p.ct hef hf, ue, uf]
    · rintro ⟨d, hd, hr⟩
      obtain ⟨e, f, h1, h2, h3, h4, h5⟩ := mem_contactsF hd
      rw [← hr, h3]
      unfold ren
      simp only [Int.toNat_natCast]
      refine ⟨⟨u e, u f, p.mono e f h1 h2, p.lt f h2, ?_, ?_, ?_⟩, ⟨e, by omega, rfl⟩, f, h2, rfl⟩
      · rw [p.ct h1 h2]
      · rw [← p.ct h1 h2]
        exact h4
      · rw [← p.same e (by omega), ← p.same f h2]
        exact h5
/-- What is at e in ws is at u e in zs. -/
def Along (n : Nat) (u : Nat → Nat) (zs ws : List Body) : Prop := ws.length = n ∧ ∀ e, e < n → Ty.ix .body ws e = Ty.ix .body zs (u e)
theorem Along.set {n m : Nat} {u : Nat → Nat} {zs ws : List Body} (h : Along n u zs ws) (hz : zs.length = m) (lt : ∀ e, e < n → u e < m) (inj : ∀ e f, e < n → f < n → u e = u f → e = f) {k : Nat} (hk : k < n) (b : Body) : Along n u (zs.set (u k) b) (ws.set k b) := by
  refine ⟨by rw [List.length_set]; exact h.1, fun e he => ?_⟩
  by_cases q : e = k
  · rw [q, ix_set_self (T := .body) (by rw [h.1]; exact hk), ix_set_self (T := .body) (by rw [hz]; exact lt k hk)]
  · rw [ix_set_ne (T := .body) (fun w => q w.symm), ix_set_ne (T := .body) (fun w => q (inj _ _ hk he w).symm)]
    exact h.2 e he
theorem along_pushOne {n m : Nat} {u : Nat → Nat} {zs ws : List Body} (h : Along n u zs ws) (hz : zs.length = m) (lt : ∀ e, e < n → u e < m) (inj : ∀ e f, e < n → f < n → u e = u f → e = f) {d : Contact} {z : Bool} (ha : d.A.toNat < n) (hb : d.B.toNat < n) : Along n u (pushOne zs (ren u d) z) (pushOne ws d z) := by
  unfold pushOne
  have eA : (ren u d).A.toNat = u d.A.toNat := rfl
  have eB : (ren u d).B.toNat = u d.B.toNat := rfl
  have eH : (ren u d).Hit = d.Hit := rfl
  rw [eA, eB, eH, ← h.2 _ ha, ← h.2 _ hb]
  dsimp only
  split
  · exact (h.set hz lt inj ha _).set (by rw [List.length_set]; exact hz) lt inj hb _
  · exact h
theorem along_apartOne {n m : Nat} {u : Nat → Nat} {zs ws : List Body} (h : Along n u zs ws) (hz : zs.length = m) (lt : ∀ e, e < n → u e < m) (inj : ∀ e f, e < n → f < n → u e = u f → e = f) {d : Contact} (ha : d.A.toNat < n) (hb : d.B.toNat < n) : Along n u (apartOne zs (ren u d)) (apartOne ws d) := by
  unfold apartOne
  have eA : (ren u d).A.toNat = u d.A.toNat := rfl
  have eB : (ren u d).B.toNat = u d.B.toNat := rfl
  have eH : (ren u d).Hit = d.Hit := rfl
  rw [eA, eB, eH, ← h.2 _ ha, ← h.2 _ hb]
  dsimp only
  split
  · exact h
  · split <;> split
    · exact h
    · exact h.set hz lt inj ha _
    · exact h.set hz lt inj hb _
    · exact (h.set hz lt inj ha _).set (by rw [List.length_set]; exact hz) lt inj hb _
/-- A contact that goes out of the part touches only what is fixed of it. -/
def Outer (xs : List Body) (n : Nat) (u : Nat → Nat) (c : Contact) : Prop := both n u c = false → ∀ e, e < n → (u e = c.A.toNat ∨ u e = c.B.toNat) → (Ty.ix .body xs (u e)).Mass = 0
theorem Part.along_round {xs ys : List Body} {u : Nat → Nat} (p : Part xs ys u) {z : Bool} : ∀ {cs ds : List Contact} {zs ws : List Body}, Along ys.length u zs ws → Kin xs zs → (∀ c, c ∈ cs → ctOk xs.length c ∧ Outer xs ys.length u c) → cs.filter (both ys.length u) = ds.map (ren u) → (∀ d, d ∈ ds → ctOk ys.length d) → Along ys.length u (pushRound zs z cs) (pushRound ws z ds)
  | [], [], zs, ws, h, _, _, _, _ => h
  | [], d :: ds, zs, ws, _, _, _, e, _ => by simp at e
  | c :: cs, ds, zs, ws, h, k, hc, e, hd => by
    obtain ⟨⟨c1, c2, c3, c4, c5⟩, ho⟩ := hc c (List.mem_cons_self ..)
    have hne : c.A.toNat ≠ c.B.toNat := by omega
    have k2 := k.trans (kin_pushOne (c := c) (z := z) (xs := zs) hne)
    cases q : both ys.length u c with
    | false =>
      rw [List.filter_cons_of_neg (by rw [q]; simp)] at e
      have h2 : Along ys.length u (pushOne zs c z) ws := by
        refine ⟨h.1, fun f hf => ?_⟩
        rw [h.2 f hf]
        by_cases w : u f = c.A.toNat ∨ u f = c.B.toNat
        · have hm := ho q f hf w
          have hlt := p.lt f hf
          exact (pushOne_fix (by rw [← k.1]; exact hlt) hne (by rw [← (k.2 _ hlt).2.2.1]; exact hm)).symm
        · rw [not_or] at w
          exact (pushOne_off w).symm
      exact Part.along_round p (cs := cs) (ds := ds) (zs := pushOne zs c z) (ws := ws) h2 k2 (fun c hc2 => hc c (List.mem_cons_of_mem _ hc2)) e hd
    | true =>
      rw [List.filter_cons_of_pos q] at e
      match ds, e, hd with
      | [], e, _ => simp at e
      | d :: ds, e, hd =>
        rw [List.map_cons] at e
        have e1 : c = ren u d := (List.cons.inj e).1
        have e2 := (List.cons.inj e).2
        obtain ⟨d1, d2, d3, d4, _⟩ := hd d (List.mem_cons_self ..)
        have h2 : Along ys.length u (pushOne zs c z) (pushOne ws d z) := by
          rw [e1]
          exact along_pushOne h k.1.symm p.lt (fun e f he hf w => p.inj he hf w) (by omega) (by omega)
        exact Part.along_round p (cs := cs) (ds := ds) (zs := pushOne zs c z) (ws := pushOne ws d z) h2 k2 (fun c hc2 => hc c (List.mem_cons_of_mem _ hc2)) e2 (fun d hd2 => hd d (List.mem_cons_of_mem _ hd2))
theorem Part.along_apart {xs ys : List Body} {u : Nat → Nat} (p : Part xs ys u) : ∀ {cs ds : List Contact} {zs ws : List Body}, Along ys.length u zs ws → Kin xs zs → (∀ c, c ∈ cs → ctOk xs.length c ∧ Outer xs ys.length u c) → cs.filter (both ys.length u) = ds.map (ren u) → (∀ d, d ∈ ds → ctOk ys.length d) → Along ys.length u (apartF zs cs) (apartF ws ds)
  | [], [], zs, ws, h, _, _, _, _ => h
  | [], d :: ds, zs, ws, _, _, _, e, _ => by simp at e
  | c :: cs, ds, zs, ws, h, k, hc, e, hd => by
    obtain ⟨hc1, ho⟩ := hc c (List.mem_cons_self ..)
    have k2 := k.trans (kin_apartF (cs := [c]) (xs := zs) (by rw [← k.1]; intro c2 h2; rw [List.mem_singleton] at h2; rw [h2]; exact hc1))
    obtain ⟨c1, c2, c3, c4, c5⟩ := hc1
    have hne : c.A.toNat ≠ c.B.toNat := by omega
    cases q : both ys.length u c with
    | false =>
      rw [List.filter_cons_of_neg (by rw [q]; simp)] at e
      have h2 : Along ys.length u (apartOne zs c) ws := by
        refine ⟨h.1, fun f hf => ?_⟩
        rw [h.2 f hf]
        by_cases w : u f = c.A.toNat ∨ u f = c.B.toNat
        · have hm := ho q f hf w
          have hlt := p.lt f hf
          exact (apartOne_fix (by rw [← k.1]; exact hlt) hne (by rw [← (k.2 _ hlt).2.2.1]; exact hm)).symm
        · rw [not_or] at w
          exact (apartOne_off w).symm
      exact Part.along_apart p (cs := cs) (ds := ds) (zs := apartOne zs c) (ws := ws) h2 k2 (fun c hc2 => hc c (List.mem_cons_of_mem _ hc2)) e hd
    | true =>
      rw [List.filter_cons_of_pos q] at e
      match ds, e, hd with
      | [], e, _ => simp at e
      | d :: ds, e, hd =>
        rw [List.map_cons] at e
        have e1 : c = ren u d := (List.cons.inj e).1
        have e2 := (List.cons.inj e).2
        obtain ⟨d1, d2, d3, d4, _⟩ := hd d (List.mem_cons_self ..)
        have h2 : Along ys.length u (apartOne zs c) (apartOne ws d) := by
          rw [e1]
          exact along_apartOne h k.1.symm p.lt (fun e f he hf w => p.inj he hf w) (by omega) (by omega)
        exact Part.along_apart p (cs := cs) (ds := ds) (zs := apartOne zs c) (ws := apartOne ws d) h2 k2 (fun c hc2 => hc c (List.mem_cons_of_mem _ hc2)) e2 (fun d hd2 => hd d (List.mem_cons_of_mem _ hd2))
theorem along_mapX {n : Nat} {u : Nat → Nat} {zs ws : List Body} {f g : Nat → Body → Body} (h : Along n u zs ws) (lt : ∀ e, e < n → u e < zs.length) (hf : ∀ e, e < n → g e (Ty.ix .body ws e) = f (u e) (Ty.ix .body ws e)) : Along n u (mapX f zs) (mapX g ws) := by
  refine ⟨by unfold mapX; simp [gen, h.1], fun e he => ?_⟩
  rw [ix_mapX (by rw [h.1]; exact he), ix_mapX (lt e he), hf e he, h.2 e he]
theorem Part.free {xs ys : List Body} {u : Nat → Nat} (p : Part xs ys u) {e : Nat} (he : e < ys.length) : freeB ys e = freeB xs (u e) := by
  unfold freeB
  rw [p.same e he]
theorem Part.edge {xs ys : List Body} {u : Nat → Nat} (p : Part xs ys u) {e f : Nat} (h : (e, f) ∈ edgesX ys) : (u e, u f) ∈ edgesX xs := by
  obtain ⟨c, h1, h2, h3, h4, h5, h6⟩ := of_edges h
  have hm : ren u c ∈ (contactsF xs).filter (both ys.length u) := by
    rw [p.contacts]
    exact List.mem_map.2 ⟨c, h1, rfl⟩
  have hm := (List.mem_filter.1 hm).1
  have eA : c.A.toNat = e := congrArg Prod.fst h2
  have eB : c.B.toNat = f := congrArg Prod.snd h2
  have := mem_edges hm (by show freeB xs (u c.A.toNat) = true; rw [eA, ← p.free h5]; exact h3) (by show freeB xs (u c.B.toNat) = true; rw [eB, ← p.free h6]; exact h4)
  rwa [show edgeC (ren u c) = (u e, u f) by unfold edgeC ren; dsimp only; rw [eA, eB]; rfl] at this
theorem Part.edge_back {xs ys : List Body} {u : Nat → Nat} (p : Part xs ys u) {e f : Nat} (he : e < ys.length) (hf : f < ys.length) (h : (u e, u f) ∈ edgesX xs) : (e, f) ∈ edgesX ys := by
  obtain ⟨c, h1, h2, h3, h4, h5, h6⟩ := of_edges h
  have eA : c.A.toNat = u e := congrArg Prod.fst h2
  have eB : c.B.toNat = u f := congrArg Prod.snd h2
  have hm : c ∈ (contactsF xs).filter (both ys.length u) := List.mem_filter.2 ⟨h1, both_iff.2 ⟨⟨e, he, eA.symm⟩, f, hf, eB.symm⟩⟩
  rw [p.contacts] at hm
  obtain ⟨d, d1, d2⟩ := List.mem_map.1 hm
  obtain ⟨a, b, q1, q2, q3, _⟩ := mem_contactsF d1
  have dA : d.A.toNat = a := by rw [q3]; rfl
  have dB : d.B.toNat = b := by rw [q3]; rfl
  have e1 : a = e := p.inj (by omega) he (by rw [← eA, ← d2, ← dA]; rfl)
  have e2 : b = f := p.inj q2 hf (by rw [← eB, ← d2, ← dB]; rfl)
  have := mem_edges d1 (by rw [dA, e1, p.free he]; exact h3) (by rw [dB, e2, p.free hf]; exact h4)
  rwa [show edgeC d = (e, f) by unfold edgeC; rw [dA, dB, e1, e2]] at this
theorem Part.edge_in {xs ys : List Body} {u : Nat → Nat} (p : Part xs ys u) {a b : Nat} (h : (a, b) ∈ edgesX xs) : inU ys.length u a ↔ inU ys.length u b := by
  obtain ⟨c, h1, h2, h3, h4, h5, h6⟩ := of_edges h
  have h3 : freeB xs a = true := h3
  have h4 : freeB xs b = true := h4
  have h5 : a < xs.length := h5
  have h6 : b < xs.length := h6
  obtain ⟨i, k, q1, q2, q3, _⟩ := mem_contactsF h1
  have eA : c.A.toNat = a := congrArg Prod.fst h2
  have eB : c.B.toNat = b := congrArg Prod.snd h2
  have e1 : i = a := by rw [q3] at eA; exact eA
  have e2 : k = b := by rw [q3] at eB; exact eB
  rw [q3, e1, e2] at h1
  exact ⟨fun hi => p.shut a b h5 h6 ⟨_, .inl h1⟩ hi h3, fun hi => p.shut b a h6 h5 ⟨_, .inr h1⟩ hi h4⟩
theorem Part.cm {xs ys : List Body} {u : Nat → Nat} (p : Part xs ys u) {e f : Nat} (he : e < ys.length) (hf : f < ys.length) : cmX ys e = cmX ys f ↔ cmX xs (u e) = cmX xs (u f) := by
  unfold cmX
  rw [← Grp.conn_iff, ← Grp.conn_iff]
  constructor
  · intro h C hC hi
    refine h (fun g => C (u g)) (fun x hx => ?_) hi
    exact hC _ (p.edge (e := x.1) (f := x.2) hx)
  · intro h C hC hi
    obtain ⟨g, hg, q, r⟩ := h (fun a => ∃ g, g < ys.length ∧ u g = a ∧ C g) (fun x hx => by
      obtain ⟨a, b⟩ := x
      constructor
      · rintro ⟨g, hg, q, r⟩
        obtain ⟨f, hf, w⟩ := (p.edge_in hx).1 ⟨g, hg, q⟩
        refine ⟨f, hf, w, ?_⟩
        exact (hC (g, f) (p.edge_back hg hf (by rw [q, w]; exact hx))).1 r
      · rintro ⟨g, hg, q, r⟩
        obtain ⟨f, hf, w⟩ := (p.edge_in hx).2 ⟨g, hg, q⟩
        refine ⟨f, hf, w, ?_⟩
        exact (hC (f, g) (p.edge_back hf hg (by rw [q, w]; exact hx))).2 r) ⟨e, he, rfl, hi⟩
    rw [p.inj hg hf q] at r
    exact r
theorem Part.mem {xs ys : List Body} {u : Nat → Nat} (p : Part xs ys u) {e a : Nat} (he : e < ys.length) (h : cmX xs (u e) = cmX xs a) : inU ys.length u a := by
  have h : Grp.conn (edgesX xs) (u e) a := Grp.conn_iff.2 h
  exact h (inU ys.length u) (fun x hx => p.edge_in (a := x.1) (b := x.2) hx) ⟨e, he, rfl⟩
theorem group_iff {xs : List Body} {j k : Nat} (hj : j < xs.length) (hk : k < xs.length) (fk : freeB xs k = true) : gi (groupsX xs) j = gi (groupsX xs) k ↔ freeB xs j = true ∧ cmX xs j = cmX xs k := by
  rw [group_of_free hk fk]
  constructor
  · intro h
    have fj := group_free hj (by rw [h]; exact Int.natCast_nonneg _)
    rw [group_of_free hj fj] at h
    exact ⟨fj, Grp.num_inj (lead_cm fj) (lead_cm fk) (Int.ofNat.inj h)⟩
  · rintro ⟨fj, h⟩
    rw [group_of_free hj fj, h]
theorem Part.awake {xs ys : List Body} {u : Nat → Nat} (p : Part xs ys u) {e : Nat} (he : e < ys.length) (f : freeB ys e = true) : Ty.ix .bool (awkF ys ys.length) (gi (groupsX ys) e).toNat = Ty.ix .bool (awkF xs xs.length) (gi (groupsX xs) (u e)).toNat := by
  have f2 : freeB xs (u e) = true := by rw [← p.free he]; exact f
  have h1 := group_awake he (by rw [group_of_free he f]; exact Int.natCast_nonneg _)
  have h2 := group_awake (p.lt e he) (by rw [group_of_free (p.lt e he) f2]; exact Int.natCast_nonneg _)
  rw [Bool.eq_iff_iff]
  refine h1.trans (Iff.trans ?_ h2.symm)
  constructor
  · rintro ⟨j, hj, fj, cj, qj⟩
    exact ⟨u j, p.lt j hj, by rw [← p.free hj]; exact fj, (p.cm hj he).1 cj, by rw [← p.same j hj]; exact qj⟩
  · rintro ⟨a, ha, fa, ca, qa⟩
    obtain ⟨j, hj, rfl⟩ := p.mem he ca.symm
    exact ⟨j, hj, by rw [p.free hj]; exact fa, (p.cm hj he).2 ca, by rw [p.same j hj]; exact qa⟩
theorem Part.woken {xs ys : List Body} {u : Nat → Nat} (p : Part xs ys u) (hy : bodiesOk ys = true) : Along ys.length u (wokenF xs) (wokenF ys) := by
  refine along_mapX ⟨rfl, p.same⟩ p.lt fun e he => ?_
  unfold wakeS
  cases f : freeB ys e with
  | true => rw [p.awake he f]
  | false =>
    have q0 := fix_quiet (bodiesOk_each hy he) (by simpa [freeB] using f)
    rw [q0]
    rfl
theorem Part.pulled {xs ys : List Body} {u : Nat → Nat} (p : Part xs ys u) (hy : bodiesOk ys = true) (pull : Int) : Along ys.length u (pulledF xs pull) (pulledF ys pull) :=
  along_mapX (p.woken hy) (fun e he => by rw [length_wokenF]; exact p.lt e he) fun _ _ => rfl
theorem Part.live {xs ys : List Body} {u : Nat → Nat} (p : Part xs ys u) (hy : bodiesOk ys = true) (pull : Int) : (liveX xs pull).filter (both ys.length u) = (liveX ys pull).map (ren u) := by
  unfold liveX liveF
  rw [List.filter_filter, show (fun a => both ys.length u a && (moves (Ty.ix .body (pulledF xs pull) a.A.toNat) || moves (Ty.ix .body (pulledF xs pull) a.B.toNat))) = (fun a => (moves (Ty.ix .body (pulledF xs pull) a.A.toNat) || moves (Ty.ix .body (pulledF xs pull) a.B.toNat)) && both ys.length u a) from funext fun a => Bool.and_comm _ _, ← List.filter_filter, p.contacts, List.filter_map]
  congr 1
  refine List.filter_congr fun d hd => ?_
  obtain ⟨a, b, q1, q2, q3, _⟩ := mem_contactsF hd
  have hp := p.pulled hy pull
  have dA : d.A.toNat = a := by rw [q3]; rfl
  have dB : d.B.toNat = b := by rw [q3]; rfl
  show (moves (Ty.ix .body (pulledF xs pull) (u d.A.toNat)) || moves (Ty.ix .body (pulledF xs pull) (u d.B.toNat))) = _
  rw [dA, dB, hp.2 a (by omega), hp.2 b q2]
theorem Part.outer {xs ys : List Body} {u : Nat → Nat} (p : Part xs ys u) {c : Contact} (h : c ∈ contactsF xs) : Outer xs ys.length u c := by
  intro hb e he w
  obtain ⟨a, b, q1, q2, q3, _⟩ := mem_contactsF h
  have cA : c.A.toNat = a := by rw [q3]; rfl
  have cB : c.B.toNat = b := by rw [q3]; rfl
  have no : ∀ {g}, freeB xs g = false → (Ty.ix .body xs g).Mass = 0 := fun {g} z => by simpa [freeB] using z
  rw [q3] at h
  cases f : freeB xs (u e) with
  | false => exact no f
  | true =>
    exfalso
    have : both ys.length u c = true := by
      rw [both_iff, cA, cB]
      rcases w with w | w
      · have w : u e = a := w.trans cA
        have ha : inU ys.length u a := ⟨e, he, w⟩
        exact ⟨ha, p.shut a b (by omega) q2 ⟨_, .inl h⟩ ha (by rw [← w]; exact f)⟩
      · have w : u e = b := w.trans cB
        have hb : inU ys.length u b := ⟨e, he, w⟩
        exact ⟨p.shut b a q2 (by omega) ⟨_, .inr h⟩ hb (by rw [← w]; exact f), hb⟩
    rw [hb] at this
    cases this
theorem Part.pushed {xs ys : List Body} {u : Nat → Nat} (p : Part xs ys u) (hx : bodiesOk xs = true) (hy : bodiesOk ys = true) (pull : Int) : Along ys.length u (pushAllF (pulledF xs pull) (liveX xs pull)) (pushAllF (pulledF ys pull) (liveX ys pull)) := by
  have lx := bodiesOk_len hx
  have ly := bodiesOk_len hy
  have hc : ∀ c, c ∈ liveX xs pull → ctOk xs.length c ∧ Outer xs ys.length u c := fun c h => ⟨live_mem lx c h, p.outer (live_sub h).1⟩
  have hd : ∀ d, d ∈ liveX ys pull → ctOk ys.length d := live_mem ly
  have e := p.live hy pull
  have kr : ∀ {zs : List Body} {z : Bool}, Kin xs zs → Kin xs (pushRound zs z (liveX xs pull)) := fun {zs z} k => k.trans (kin_pushRound (by rw [← k.1]; exact live_mem lx))
  have k0 := kin_pulledF (pull := pull) xs
  have k1 := kr (z := true) k0
  have k2 := kr (z := false) k1
  have k3 := kr (z := false) k2
  unfold pushAllF
  exact p.along_round (p.along_round (p.along_round (p.along_round (p.pulled hy pull) k0 hc e hd) k1 hc e hd) k2 hc e hd) k3 hc e hd
theorem Part.quiet {xs ys : List Body} {u : Nat → Nat} (p : Part xs ys u) (hx : bodiesOk xs = true) (hy : bodiesOk ys = true) (pull : Int) : Along ys.length u (quietX xs pull) (quietX ys pull) := by
  have lx := bodiesOk_len hx
  have ly := bodiesOk_len hy
  have h1 : Along ys.length u (movedF xs pull) (movedF ys pull) := along_mapX (p.pushed hx hy pull) (fun e he => by rw [length_pushAllF, length_pulledF]; exact p.lt e he) fun _ _ => rfl
  have h2 : Along ys.length u (apartX xs pull) (apartX ys pull) := p.along_apart h1 (kin_movedF lx pull) (fun c h => ⟨live_mem lx c h, p.outer (live_sub h).1⟩) (p.live hy pull) (live_mem ly)
  refine along_mapX h2 (fun e he => by rw [length_apartX]; exact p.lt e he) fun e he => ?_
  unfold quietS
  rw [(p.woken hy).2 e he]
/-- A step of the part is the part of a step. -/
theorem Part.step {xs ys : List Body} {u : Nat → Nat} (p : Part xs ys u) (hx : bodiesOk xs = true) (hy : bodiesOk ys = true) (pull : Int) {e : Nat} (he : e < ys.length) : Ty.ix .body (stepF ys pull) e = Ty.ix .body (stepF xs pull) (u e) := by
  have hq := p.quiet hx hy pull
  have hu := p.lt e he
  rw [ix_stepF he, ix_stepF hu, hq.2 e he]
  cases f : freeB ys e with
  | false =>
    have f2 : freeB xs (u e) = false := by rw [← p.free he]; exact f
    rw [group_fixed he f, group_fixed hu f2]
    rfl
  | true =>
    have f2 : freeB xs (u e) = true := by rw [← p.free he]; exact f
    have d1 : decide (0 ≤ gi (groupsX ys) e) = true := by rw [group_of_free he f]; exact decide_eq_true (Int.natCast_nonneg _)
    have d2 : decide (0 ≤ gi (groupsX xs) (u e)) = true := by rw [group_of_free hu f2]; exact decide_eq_true (Int.natCast_nonneg _)
    have st : stillG (quietX ys pull) (groupsX ys) (gi (groupsX ys) e) ys.length = stillG (quietX xs pull) (groupsX xs) (gi (groupsX xs) (u e)) xs.length := by
      rw [Bool.eq_iff_iff]
      unfold stillG
      rw [allTo_iff, allTo_iff]
      constructor
      · intro h a ha
        rw [Bool.or_eq_true, Bool.not_eq_true', beq_eq_false_iff_ne]
        by_cases g : gi (groupsX xs) a = gi (groupsX xs) (u e)
        · obtain ⟨fa, ca⟩ := (group_iff ha hu f2).1 g
          obtain ⟨j, hj, rfl⟩ := p.mem he ca.symm
          have gj : gi (groupsX ys) j = gi (groupsX ys) e := (group_iff hj he f).2 ⟨by rw [p.free hj]; exact fa, (p.cm hj he).2 ca⟩
          have := h j hj
          rw [Bool.or_eq_true, Bool.not_eq_true', beq_eq_false_iff_ne, hq.2 j hj] at this
          exact .inr (this.resolve_left fun z => z gj)
        · exact .inl g
      · intro h j hj
        rw [Bool.or_eq_true, Bool.not_eq_true', beq_eq_false_iff_ne]
        by_cases g : gi (groupsX ys) j = gi (groupsX ys) e
        · obtain ⟨fj, cj⟩ := (group_iff hj he f).1 g
          have gj : gi (groupsX xs) (u j) = gi (groupsX xs) (u e) := (group_iff (p.lt j hj) hu f2).2 ⟨by rw [← p.free hj]; exact fj, (p.cm hj he).1 cj⟩
          have := h (u j) (p.lt j hj)
          rw [Bool.or_eq_true, Bool.not_eq_true', beq_eq_false_iff_ne, ← hq.2 j hj] at this
          exact .inr (this.resolve_left fun z => z gj)
        · exact .inl g
    rw [d1, d2, p.awake he f, st]
end
end Go.Proofs.YtnahfbjdicjdpaaGreat.Sym

namespace Go.Proofs.YtnahfbjdicjdpaaGreat.Sym
open Go
set_option linter.unusedVariables false
set_option linter.unusedSimpArgs false
set_option maxRecDepth 100000
noncomputable section
theorem Part.ok {xs ys : List Body} {u : Nat → Nat} (p : Part xs ys u) (hx : bodiesOk xs = true) (hl : ys.length ≤ 12) : bodiesOk ys = true := by
  refine bodiesOk_iff.2 ⟨hl, fun e he => ?_, fun e he => ?_⟩
  · rw [p.same e he]
    exact bodiesOk_each hx (p.lt e he)
  · rw [p.same e (by omega), p.same (e + 1) he]
    exact bodies_lt hx (p.mono e (e + 1) (by omega) he) (p.lt _ he)
end
end Go.Proofs.YtnahfbjdicjdpaaGreat.Sym

namespace Go.Proofs.YtnahfbjdicjdpaaGreat.Sym
open Go
set_option linter.unusedVariables false
set_option linter.unusedSimpArgs false
set_option maxRecDepth 100000
noncomputable section
def farB : Body := ⟨999999999, ⟨1, 256, 0⟩, ⟨2000000, 0⟩, ⟨30, 0⟩, 3, 0, 0, 0⟩
theorem far_ok : bodyOk farB = true := by decide
theorem far_away {b : Body} (hb : bodyOk b = true) (hx : -300000 ≤ b.At.X ∧ b.At.X ≤ 300000) : (touchB b farB).2 = false := by
  cases q : (touchB b farB).2 with
  | false => rfl
  | true =>
    exfalso
    rw [touch_all hb far_ok] at q
    have h1 := bok_iff.1 hb
    have h2 := bok_iff.1 far_ok
    have hm := touch_meets h1.2.1 h2.2.1 h1.2.2.1 h2.2.2.1 q
    obtain ⟨e1, _⟩ := bounds_at h1.2.1 h1.2.2.1
    obtain ⟨e2, _⟩ := bounds_at h2.2.1 h2.2.2.1
    have hs := shapeOk_le h1.2.1
    rw [e1, e2] at hm
    unfold boxMeets boxAt farB at hm
    simp only [Bool.and_eq_true, decide_eq_true_eq] at hm
    omega
theorem ins_last {xs : List Body} {b : Body} (h : ∀ e, e < xs.length → (Ty.ix .body xs e).Id < b.Id) : atB xs b.Id = xs.length ∧ insB xs (atB xs b.Id) b = xs ++ [b] ∧ hasB xs b.Id = false := by
  have e : atB xs b.Id = xs.length := pref_eq (T := .body) (p := fun y : Body => decide (y.Id < b.Id)) (Nat.le_refl _) (fun e he => decide_eq_true (h e he)) (fun q => absurd q (Nat.lt_irrefl _))
  refine ⟨e, ?_, ?_⟩
  · rw [e]
    simp [insB]
  · unfold hasB
    rw [e, decide_eq_false (Nat.lt_irrefl _), Bool.false_and]
theorem ix_app {xs : List Body} {b : Body} {e : Nat} (h : e < xs.length) : Ty.ix .body (xs ++ [b]) e = Ty.ix .body xs e := by
  simp only [Ty.ix, List.getD_eq_getElem?_getD]
  rw [List.getElem?_append_left h]
theorem ix_app_last {xs : List Body} {b : Body} : Ty.ix .body (xs ++ [b]) xs.length = b := by
  simp [Ty.ix, List.getD]
theorem far_part {xs : List Body} (hok : bodiesOk xs = true) (hx : ∀ e, e < xs.length → -300000 ≤ (Ty.ix .body xs e).At.X ∧ (Ty.ix .body xs e).At.X ≤ 300000) : Part (xs ++ [farB]) xs id := by
  have len : (xs ++ [farB]).length = xs.length + 1 := by simp
  have no : ∀ a, a < xs.length → (touchB (Ty.ix .body xs a) farB).2 = true → False := fun a ha h => by
    rw [far_away (bodiesOk_each hok ha) (hx a ha)] at h
    cases h
  refine ⟨fun e he => by show e < _; omega, fun e f h1 h2 => h1, fun e he => (ix_app he).symm, fun a b ha hb hc hi fa => ?_⟩
  obtain ⟨e, he, rfl⟩ := hi
  have he2 : id e < xs.length := he
  by_cases hbl : b < xs.length
  · exact ⟨b, hbl, rfl⟩
  · have eb : b = xs.length := by omega
    exfalso
    obtain ⟨h, hc | hc⟩ := hc
    · obtain ⟨i, k, q1, q2, q3, q4, _⟩ := mem_contactsF hc
      have e1 : ((e : Nat) : Int) = i := congrArg Contact.A q3
      have e2 : (b : Int) = k := congrArg Contact.B q3
      have e1 : i = e := by omega
      have e2 : k = xs.length := by omega
      rw [e1, e2, ix_app he, ix_app_last] at q4
      exact no _ he q4
    · obtain ⟨i, k, q1, q2, q3, q4, _⟩ := mem_contactsF hc
      have e1 : (b : Int) = i := congrArg Contact.A q3
      have e2 : ((e : Nat) : Int) = k := congrArg Contact.B q3
      omega
/-- The contacts of the first bodies are those of all that have no other. -/
theorem first_contacts {xs zs : List Body} (hl : xs.length ≤ zs.length) (hs : ∀ e, e < xs.length → Ty.ix .body xs e = Ty.ix .body zs e) : (contactsF zs).filter (fun c => decide (c.B < (xs.length : Int))) = contactsF xs := by
  refine sorted_eq (R := beforeC) (fun a h => by unfold beforeC at h; omega) (fun h h2 => by unfold beforeC at h h2; omega) ((contacts_sorted zs).filter _) (contacts_sorted xs) fun c => ?_
  rw [List.mem_filter, mem_contacts_iff, mem_contacts_iff, decide_eq_true_eq]
  constructor
  · rintro ⟨⟨i, k, h1, h2, h3, h4, h5⟩, hb⟩
    have hk : k < xs.length := by
      rw [h3] at hb
      exact Int.ofNat_lt.1 hb
    rw [← hs i (by omega), ← hs k hk] at h3 h4 h5
    exact ⟨i, k, h1, hk, h3, h4, h5⟩
  · rintro ⟨i, k, h1, h2, h3, h4, h5⟩
    rw [hs i (by omega), hs k h2] at h3 h4 h5
    refine ⟨⟨i, k, h1, by omega, h3, h4, h5⟩, ?_⟩
    rw [h3]
    exact Int.ofNat_lt.2 h2
def nearP1 (q : Pair) : Bool := !(q.B == 999999999)
/-- The step of a world with the body that is far: the others, and their pairs. -/
theorem far_step {xs : List Body} {pull : Int} (hok : bodiesOk xs = true) (p0 : 0 ≤ pull) (p1 : pull ≤ 2560) (hl : xs.length < 12) (hx : ∀ e, e < xs.length → -300000 ≤ (Ty.ix .body xs e).At.X ∧ (Ty.ix .body xs e).At.X ≤ 300000) (hi : ∀ e, e < xs.length → (Ty.ix .body xs e).Id < 999999999) :
    bodiesOk (xs ++ [farB]) = true ∧ (stepF (xs ++ [farB]) pull).take xs.length = stepF xs pull ∧ (stepPairs (stepF (xs ++ [farB]) pull)).filter nearP1 = stepPairs (stepF xs pull) := by
  obtain ⟨i1, i2, i3⟩ := ins_last (b := farB) hi
  have hz : bodiesOk (xs ++ [farB]) = true := by
    rw [← i2]
    exact ins_ok hok i3 far_ok hl
  have len : (xs ++ [farB]).length = xs.length + 1 := by simp
  have p := far_part hok hx
  have l1 := length_stepF (xs ++ [farB]) pull
  have l2 := length_stepF xs pull
  have hzk := kin_stepF (bodiesOk_len hz) pull
  have st : ∀ e, e < xs.length → Ty.ix .body (stepF xs pull) e = Ty.ix .body (stepF (xs ++ [farB]) pull) e := fun e he => p.step hz hok pull he
  have ok1 := ok_stepF hz p0 p1
  have ok2 := ok_stepF hok p0 p1
  refine ⟨hz, ?_, ?_⟩
  · refine ext_body (by rw [List.length_take]; omega) fun e he => ?_
    rw [List.length_take] at he
    rw [st e (by omega)]
    apply ix_eq (T := .body)
    rw [List.getElem?_take_of_lt (by omega)]
    exact ix_get (T := .body) (by omega)
  · have hc := first_contacts (xs := stepF xs pull) (zs := stepF (xs ++ [farB]) pull) (by omega) (fun e he => st e (by omega))
    unfold stepPairs contactsOf
    rw [ok1, ok2]
    simp only [cond_true]
    rw [← hc]
    unfold pairsC
    rw [List.filter_map]
    have e1 : (contactsF (stepF (xs ++ [farB]) pull)).filter (nearP1 ∘ pairC (stepF (xs ++ [farB]) pull)) = (contactsF (stepF (xs ++ [farB]) pull)).filter (fun c => decide (c.B < ((stepF xs pull).length : Int))) := by
      refine List.filter_congr fun c hcm => ?_
      obtain ⟨a, b, q1, q2, q3, _⟩ := mem_contactsF hcm
      have eB : c.B.toNat = b := by rw [q3]; rfl
      have eB2 : c.B = b := by rw [q3]
      show nearP1 (pairC (stepF (xs ++ [farB]) pull) c) = decide (c.B < ((stepF xs pull).length : Int))
      have hid : (Ty.ix .body (stepF (xs ++ [farB]) pull) b).Id = (Ty.ix .body (xs ++ [farB]) b).Id := (hzk.2 b (by omega)).1.symm
      unfold nearP1 pairC
      dsimp only
      rw [eB, hid, eB2]
      by_cases hb : b < xs.length
      · rw [ix_app hb, decide_eq_true (show (b : Int) < (stepF xs pull).length by omega), beq_eq_false_iff_ne.2 (by have := hi b hb; omega)]
        rfl
      · have : b = xs.length := by omega
        rw [this, ix_app_last, decide_eq_false (show ¬ ((xs.length : Nat) : Int) < (stepF xs pull).length by omega)]
        rfl
    rw [e1]
    refine List.map_congr_left fun c hcm => ?_
    obtain ⟨hcm, hb⟩ := List.mem_filter.1 hcm
    obtain ⟨a, b, q1, q2, q3, _⟩ := mem_contactsF hcm
    have hb := of_decide_eq_true hb
    have eA : c.A.toNat = a := by rw [q3]; rfl
    have eB : c.B.toNat = b := by rw [q3]; rfl
    have eB2 : c.B = b := by rw [q3]
    unfold pairC
    rw [eA, eB, st a (by omega), st b (by omega)]
end
end Go.Proofs.YtnahfbjdicjdpaaGreat.Sym

namespace Go.Proofs.YtnahfbjdicjdpaaGreat.Sym
open Go
set_option linter.unusedVariables false
set_option linter.unusedSimpArgs false
set_option maxRecDepth 100000
noncomputable section
def LSlwf1  : LS where
  S := List Int × (Int × Int × List Body × List Pair) × (Int × Int × List Body × List Pair) × Int
  live := [(3, [none]), (4, [none]), (8, [none])]
  shape := fun s => ([.ptr 3 0 0, .ptr 6 0 0, .int .i64 s.2.2.2], [(false, .vec .byte s.1), (true, .vec .body s.2.1.2.2.1), (true, .vec .pair s.2.1.2.2.2), (true, .box [.int .i64 s.2.1.1, .int .i64 s.2.1.2.1, .vec 1, .vec 2]), (true, .vec .body s.2.2.1.2.2.1), (true, .vec .pair s.2.2.1.2.2.2), (true, .box [.int .i64 s.2.2.1.1, .int .i64 s.2.2.1.2.1, .vec 4, .vec 5])])
  get := fun v h => match v, h with
    | [.ptr 3 0 0, .ptr 6 0 0, .int .i64 i], [(false, .vec .byte b), (true, .vec .body wd_2), (true, .vec .pair wd_3), (true, .box [.int .i64 wd_0, .int .i64 wd_1, .vec 1, .vec 2]), (true, .vec .body wa_2), (true, .vec .pair wa_3), (true, .box [.int .i64 wa_0, .int .i64 wa_1, .vec 4, .vec 5])] => some (b, (wd_0, wd_1, wd_2, wd_3), (wa_0, wa_1, wa_2, wa_3), i)
    | _, _ => none
  inv := fun s0 s => Holds (s.1 = s0.1 ∧ s.2.1 = s0.2.1 ∧ s.2.2.1 = s0.2.2.1 ∧ 0 ≤ s.2.2.2 ∧ s.2.2.2 ≤ s0.2.1.2.2.1.length ∧ (∀ j, j < s.2.2.2.toNat → absW (Ty.ix .body s0.2.1.2.2.1 j).At.X ≤ 300000 ∧ (Ty.ix .body s0.2.1.2.2.1 j).Id ≠ 999999999))
  mu := fun s => ((s.2.1.2.2.1.length : Int) - s.2.2.2).toNat
  ok := by
    intro v h s hg
    try dsimp only at hg
    split at hg <;> cases hg
    rfl

def LSlwf2  : LS where
  S := List Int × (Int × Int × List Body × List Pair) × (Int × Int × List Body × List Pair) × Int × (Int × Int × List Body × List Pair) × List Pair × Int
  live := [(3, [none]), (4, [none]), (11, [none]), (12, [none]), (14, [some .pair]), (15, [none])]
  shape := fun s => ([.ptr 3 0 0, .ptr 6 0 0, .int .i64 s.2.2.2.1, .ptr 9 0 0, .vec 10, .int .i64 s.2.2.2.2.2.2], [(false, .vec .byte s.1), (true, .vec .body s.2.1.2.2.1), (true, .vec .pair s.2.1.2.2.2), (true, .box [.int .i64 s.2.1.1, .int .i64 s.2.1.2.1, .vec 1, .vec 2]), (true, .vec .body s.2.2.1.2.2.1), (true, .vec .pair s.2.2.1.2.2.2), (true, .box [.int .i64 s.2.2.1.1, .int .i64 s.2.2.1.2.1, .vec 4, .vec 5]), (true, .vec .body s.2.2.2.2.1.2.2.1), (true, .vec .pair s.2.2.2.2.1.2.2.2), (true, .box [.int .i64 s.2.2.2.2.1.1, .int .i64 s.2.2.2.2.1.2.1, .vec 7, .vec 8]), (true, .vec .pair s.2.2.2.2.2.1)])
  get := fun v h => match v, h with
    | [.ptr 3 0 0, .ptr 6 0 0, .int .i64 k, .ptr 9 0 0, .vec 10, .int .i64 i], [(false, .vec .byte b), (true, .vec .body wd_2), (true, .vec .pair wd_3), (true, .box [.int .i64 wd_0, .int .i64 wd_1, .vec 1, .vec 2]), (true, .vec .body wa_2), (true, .vec .pair wa_3), (true, .box [.int .i64 wa_0, .int .i64 wa_1, .vec 4, .vec 5]), (true, .vec .body wy_2), (true, .vec .pair wy_3), (true, .box [.int .i64 wy_0, .int .i64 wy_1, .vec 7, .vec 8]), (true, .vec .pair near)] => some (b, (wd_0, wd_1, wd_2, wd_3), (wa_0, wa_1, wa_2, wa_3), k, (wy_0, wy_1, wy_2, wy_3), near, i)
    | _, _ => none
  inv := fun s0 s => Holds (s.1 = s0.1 ∧ s.2.1 = s0.2.1 ∧ s.2.2.1 = s0.2.2.1 ∧ s.2.2.2.1 = s0.2.2.2.1 ∧ s.2.2.2.2.1 = s0.2.2.2.2.1 ∧ 0 ≤ s.2.2.2.2.2.2 ∧ s.2.2.2.2.2.2 ≤ s0.2.2.2.2.1.2.2.2.length ∧ s.2.2.2.2.2.1 = (s0.2.2.2.2.1.2.2.2.take s.2.2.2.2.2.2.toNat).filter nearP1)
  mu := fun s => ((s.2.2.2.2.1.2.2.2.length : Int) - s.2.2.2.2.2.2).toNat
  ok := by
    intro v h s hg
    try dsimp only at hg
    split at hg <;> cases hg
    rfl

def L_lawWorldFar : Loops := fun n => match n with
  | 9 => some LSlwf1
  | 18 => some LSlwf2
  | _ => none
noncomputable def fs_lawWorldFar : Fs := ⟨[], fun args H => match args, H with
  | [.vec 0], [(false, .vec .byte b)] => some ((some (LOk .byte b)), .bool (true), [(false, .vec .byte b)])
  | _, _ => none⟩

theorem vc_lawWorldFar (b : List Int) (Q : SV → List Ent → Prop) :
    fnVC tt (look [(31, fs_DrawWorldStep), (32, fs_implWorldStep), (33, fs_specWorldStep), (34, fs_lawsPqWorld), (35, fs_specWorldOk), (48, fs_pqAbs), (43, fs_implWorldPut), (17, fs_lawsPqBodies), (37, fs_lawsPqPairs)]) (L_lawWorldFar) Tryz.f14 [.vec 0] [(false, .vec .byte b)] Q =
    (let w_ := IntKind.wrap IntKind.i64; let n_ := Int.toNat; let ib_ := Ty.ix Ty.body; let vy_ := Blk.vec Ty.byte; let A38_ := (false, vy_ b); let A37_ := (4611686018427387904 : Nat); let A30_ := (Subtype.val (g_DrawWorldStep b)); let A36_ := (Prod.fst (Prod.snd A30_)); let A31_ := (Prod.snd (Prod.snd A30_)); let A29_ := (worldOk (Prod.fst A30_) A36_ (Prod.fst A31_) (Prod.snd A31_)); let A35_ := (stepBodies A29_ (Prod.fst A30_) A36_ (Prod.fst A31_)); let A34_ := (stepPs A29_ (Prod.fst A30_) A36_ (Prod.fst A31_) (Prod.snd A31_)); let A33_ := (↑(List.length (stepEs A29_ (Prod.fst A30_) A36_ (Prod.fst A31_) (Prod.snd A31_))) : Int); let A32_ := (eqW4 (stepTick A29_ (Prod.fst A30_)) (orI A29_ A36_) A35_ A34_ (stepTick A29_ (Prod.fst A30_)) (orI A29_ A36_) A35_ A34_); ifB (decide ((↑(List.length b) : Int) > (1048576 : Int))) (Q (SV.bool true) [A38_]) (BytesOk b ∧ (List.length (Prod.fst A31_) ≤ (1048576 : Nat) ∧ List.length (Prod.snd A31_) ≤ (1048576 : Nat)) ∧ (List.length (Prod.fst A31_) ≤ (1048576 : Nat) ∧ List.length (Prod.snd A31_) ≤ (1048576 : Nat)) ∧ (List.length A35_ ≤ A37_ ∧ List.length A34_ ≤ A37_) ∧ ifB (!eqW4 (stepTick A29_ (Prod.fst A30_)) (orI A29_ A36_) A35_ A34_ (stepTick A29_ (Prod.fst A30_)) (orI A29_ A36_) A35_ A34_) ((List.length A35_ ≤ A37_ ∧ List.length A34_ ≤ A37_) ∧ ifB A32_ (Q (SV.bool (A33_ == A33_)) [A38_]) (Q (SV.bool false) [A38_])) (ifB (A33_ != A33_) ((List.length A35_ ≤ A37_ ∧ List.length A34_ ≤ A37_) ∧ ifB A32_ (Q (SV.bool (A33_ == A33_)) [A38_]) (Q (SV.bool false) [A38_])) ((List.length (Prod.fst A31_) ≤ (1048576 : Nat) ∧ List.length (Prod.snd A31_) ≤ (1048576 : Nat)) ∧ ifB (!worldOk (Prod.fst A30_) A36_ (Prod.fst A31_) (Prod.snd A31_)) ((List.length A35_ ≤ A37_ ∧ List.length A34_ ≤ A37_) ∧ ifB A32_ (Q (SV.bool (A33_ == A33_)) [A38_]) (Q (SV.bool false) [A38_])) (ifB (decide ((↑(List.length (Prod.fst A31_)) : Int) ≥ (12 : Int))) ((List.length A35_ ≤ A37_ ∧ List.length A34_ ≤ A37_) ∧ ifB A32_ (Q (SV.bool (A33_ == A33_)) [A38_]) (Q (SV.bool false) [A38_])) (Holds (b = b ∧ Subtype.val (g_DrawWorldStep b) = Subtype.val (g_DrawWorldStep b) ∧ (stepTick A29_ (Prod.fst A30_), orI A29_ A36_, stepBodies A29_ (Prod.fst A30_) A36_ (Prod.fst A31_), stepPs A29_ (Prod.fst A30_) A36_ (Prod.fst A31_) (Prod.snd A31_)) = (stepTick A29_ (Prod.fst A30_), orI A29_ A36_, stepBodies A29_ (Prod.fst A30_) A36_ (Prod.fst A31_), stepPs A29_ (Prod.fst A30_) A36_ (Prod.fst A31_) (Prod.snd A31_)) ∧ (0 : Int) ≤ (0 : Int) ∧ (0 : Int) ≤ (↑(List.length (Prod.fst A31_)) : Int) ∧ ∀ (j : Nat), j < n_ (0 : Int) → absW (Vec.X (Body.At (ib_ (Prod.fst A31_) j))) ≤ (300000 : Int) ∧ Body.Id (ib_ (Prod.fst A31_) j) ≠ (999999999 : Int)) ∧ ∀ (y14 : List Int × (Int × Int × List Body × List Pair) × (Int × Int × List Body × List Pair) × Int), let y14f0_ := Prod.fst y14; let y14s1_ := Prod.snd y14; let y14f1_ := Prod.fst (Prod.snd y14); let y14s2_ := Prod.snd (Prod.snd y14); let y14f2_ := Prod.fst (Prod.snd (Prod.snd y14)); let y14s3_ := Prod.snd (Prod.snd (Prod.snd y14)); let A28_ := (Prod.fst A30_); let A21_ := (Prod.snd (Prod.snd y14f1_)); let A26_ := (↑(List.length (Prod.fst A21_)) : Int); let A20_ := (Body.mk (999999999 : Int) (Shape.mk (1 : Int) (256 : Int) (0 : Int)) (Vec.mk (2000000 : Int) (0 : Int)) (Vec.mk (30 : Int) (0 : Int)) (3 : Int) (0 : Int) (0 : Int) (0 : Int)); let A19_ := (Prod.snd A30_); let A24_ := (Prod.fst (Prod.snd A19_)); let A17_ := (worldOk A28_ (Prod.fst A19_) A24_ (Prod.snd (Prod.snd A19_))); let A22_ := (stepTick A17_ A28_, orI A17_ (Prod.fst A19_), stepBodies A17_ A28_ (Prod.fst A19_) A24_, stepPs A17_ A28_ (Prod.fst A19_) A24_ (Prod.snd (Prod.snd A19_))); let A15_ := (worldOk (Prod.fst y14f1_) (Prod.fst (Prod.snd y14f1_)) (Prod.fst A21_) (Prod.snd A21_)); let A27_ := (orI A15_ (Prod.fst y14f1_)); let A25_ := (orI A15_ (Prod.fst (Prod.snd y14f1_))); let A16_ := (orL A15_ (putBodies (Prod.fst A21_) A20_)); let A18_ := (worldOk A27_ A25_ A16_ (orL A15_ (Prod.snd A21_))); let A23_ := (stepTick A18_ A27_, orI A18_ A25_, stepBodies A18_ A27_ A25_ A16_, stepPs A18_ A27_ A25_ A16_ (orL A15_ (Prod.snd A21_))); Holds (Prod.fst y14 = b ∧ y14f1_ = Subtype.val (g_DrawWorldStep b) ∧ y14f2_ = A22_ ∧ (0 : Int) ≤ y14s3_ ∧ y14s3_ ≤ (↑(List.length A24_) : Int) ∧ ∀ (j : Nat), j < n_ y14s3_ → absW (Vec.X (Body.At (ib_ A24_ j))) ≤ (300000 : Int) ∧ Body.Id (ib_ A24_ j) ≠ (999999999 : Int)) → ifB (decide (Prod.snd y14s2_ < A26_)) (((0 : Int) ≤ y14s3_ ∧ y14s3_ < A26_) ∧ ifB (decide (absW (Vec.X (Body.At (ib_ (Prod.fst A21_) (n_ y14s3_)))) > (300000 : Int))) (Q (SV.bool true) [(false, vy_ y14f0_)]) (((0 : Int) ≤ y14s3_ ∧ y14s3_ < A26_) ∧ ifB (Body.Id (ib_ (Prod.fst A21_) (n_ y14s3_)) == (999999999 : Int)) (Q (SV.bool true) [(false, vy_ y14f0_)]) (Holds (Prod.fst y14 = b ∧ y14f1_ = Subtype.val (g_DrawWorldStep b) ∧ y14f2_ = A22_ ∧ (0 : Int) ≤ w_ (Prod.snd y14s2_ + (1 : Int)) ∧ w_ (Prod.snd y14s2_ + (1 : Int)) ≤ (↑(List.length A24_) : Int) ∧ ∀ (j : Nat), j < n_ (w_ (Prod.snd y14s2_ + (1 : Int))) → absW (Vec.X (Body.At (ib_ A24_ j))) ≤ (300000 : Int) ∧ Body.Id (ib_ A24_ j) ≠ (999999999 : Int)) ∧ n_ (A26_ - w_ (Prod.snd y14s2_ + (1 : Int))) < n_ (A26_ - y14s3_)))) ((List.length (Prod.fst A21_) ≤ (1048576 : Nat) ∧ List.length (Prod.snd A21_) ≤ (1048576 : Nat)) ∧ (List.length A16_ ≤ (1048576 : Nat) ∧ List.length (orL A15_ (Prod.snd A21_)) ≤ (1048576 : Nat)) ∧ Holds (Prod.fst y14 = y14f0_ ∧ y14f1_ = y14f1_ ∧ y14f2_ = y14f2_ ∧ putCode A15_ (Prod.fst A21_) A20_ = putCode A15_ (Prod.fst A21_) A20_ ∧ A23_ = A23_ ∧ (0 : Int) ≤ (0 : Int) ∧ (0 : Int) ≤ (↑(List.length (stepPs A18_ A27_ A25_ A16_ (orL A15_ (Prod.snd A21_)))) : Int) ∧ [] = List.filter nearP1 (List.take (n_ (0 : Int)) (stepPs A18_ A27_ A25_ A16_ (orL A15_ (Prod.snd A21_))))) ∧ ∀ (y1 : List Int × (Int × Int × List Body × List Pair) × (Int × Int × List Body × List Pair) × Int × (Int × Int × List Body × List Pair) × List Pair × Int), let y1f0_ := Prod.fst y1; let y1s1_ := Prod.snd y1; let y1f1_ := Prod.fst (Prod.snd y1); let y1f2_ := Prod.fst (Prod.snd (Prod.snd y1)); let y1f3_ := Prod.fst (Prod.snd (Prod.snd (Prod.snd y1))); let y1f4_ := Prod.fst (Prod.snd (Prod.snd (Prod.snd (Prod.snd y1)))); let y1s5_ := Prod.snd (Prod.snd (Prod.snd (Prod.snd (Prod.snd y1)))); let y1f5_ := Prod.fst (Prod.snd (Prod.snd (Prod.snd (Prod.snd (Prod.snd y1))))); let y1s6_ := Prod.snd (Prod.snd (Prod.snd (Prod.snd (Prod.snd (Prod.snd y1))))); let A13_ := (Prod.snd (Prod.snd y1f4_)); let A11_ := (Prod.snd y1s5_ + (1 : Int)); let A10_ := (↑(List.length (Prod.fst (Prod.snd (Prod.snd y1f1_)))) : Int); let A9_ := (↑(List.length (Prod.snd A13_)) : Int); let A8_ := A20_; let A5_ := (Prod.snd y14f1_); let A2_ := (worldOk (Prod.fst y14f1_) (Prod.fst A5_) (Prod.fst (Prod.snd A5_)) (Prod.snd (Prod.snd A5_))); let A12_ := (orI A2_ (Prod.fst y14f1_)); let A4_ := (orL A2_ (putBodies (Prod.fst (Prod.snd A5_)) A8_)); let A3_ := (worldOk A12_ (orI A2_ (Prod.fst A5_)) A4_ (orL A2_ (Prod.snd (Prod.snd A5_)))); let A7_ := (stepPs A3_ A12_ (orI A2_ (Prod.fst A5_)) A4_ (orL A2_ (Prod.snd (Prod.snd A5_)))); let A6_ := (stepTick A3_ A12_, orI A3_ (orI A2_ (Prod.fst A5_)), stepBodies A3_ A12_ (orI A2_ (Prod.fst A5_)) A4_, stepPs A3_ A12_ (orI A2_ (Prod.fst A5_)) A4_ (orL A2_ (Prod.snd (Prod.snd A5_)))); Holds (Prod.fst y1 = y14f0_ ∧ y1f1_ = y14f1_ ∧ y1f2_ = y14f2_ ∧ y1f3_ = putCode A2_ (Prod.fst (Prod.snd A5_)) A8_ ∧ y1f4_ = A6_ ∧ (0 : Int) ≤ y1s6_ ∧ y1s6_ ≤ (↑(List.length A7_) : Int) ∧ y1f5_ = List.filter nearP1 (List.take (n_ y1s6_) A7_)) → ifB (decide (Prod.snd y1s5_ < A9_)) (((0 : Int) ≤ y1s6_ ∧ y1s6_ < A9_) ∧ ifB (Pair.B (Ty.ix Ty.pair (Prod.snd A13_) (n_ y1s6_)) != (999999999 : Int)) (((0 : Int) ≤ y1s6_ ∧ y1s6_ < A9_) ∧ (List.length y1f5_ + List.length [Ty.ix Ty.pair (Prod.snd A13_) (n_ y1s6_)]) * (16 : Nat) ≤ room ∧ Holds (Prod.fst y1 = y14f0_ ∧ y1f1_ = y14f1_ ∧ y1f2_ = y14f2_ ∧ y1f3_ = putCode A2_ (Prod.fst (Prod.snd A5_)) A8_ ∧ y1f4_ = A6_ ∧ (0 : Int) ≤ w_ A11_ ∧ w_ A11_ ≤ (↑(List.length A7_) : Int) ∧ y1f5_ ++ [Ty.ix Ty.pair (Prod.snd A13_) (n_ y1s6_)] = List.filter nearP1 (List.take (n_ (w_ A11_)) A7_)) ∧ n_ (A9_ - w_ A11_) < n_ (A9_ - y1s6_)) (Holds (Prod.fst y1 = y14f0_ ∧ y1f1_ = y14f1_ ∧ y1f2_ = y14f2_ ∧ y1f3_ = putCode A2_ (Prod.fst (Prod.snd A5_)) A8_ ∧ y1f4_ = A6_ ∧ (0 : Int) ≤ w_ A11_ ∧ w_ A11_ ≤ (↑(List.length A7_) : Int) ∧ y1f5_ = List.filter nearP1 (List.take (n_ (w_ A11_)) A7_)) ∧ n_ (A9_ - w_ A11_) < n_ (A9_ - y1s6_))) (ifB (Prod.fst (Prod.snd (Prod.snd y1s1_)) == (0 : Int)) (ifB (decide (Prod.fst y1f1_ ≥ (100000 : Int))) (Q (SV.bool true) [(false, vy_ y1f0_)]) (((0 : Int) ≤ A10_ ∧ A10_ ≤ (↑(List.length (Prod.fst A13_)) : Int)) ∧ List.length (List.take (n_ A10_) (List.drop (0 : Nat) (Prod.fst A13_))) ≤ A37_ ∧ ifB (same (List.take (n_ A10_) (List.drop (0 : Nat) (Prod.fst A13_))) (Prod.fst (Prod.snd (Prod.snd y1f2_)))) (List.length y1f5_ ≤ A37_ ∧ Q (SV.bool (same y1f5_ (Prod.snd (Prod.snd (Prod.snd y1f2_))))) [(false, vy_ y1f0_)]) (Q (SV.bool false) [(false, vy_ y1f0_)]))) (Q (SV.bool false) [(false, vy_ y1f0_)]))))))))) := by kernel_rfl

theorem ok_lawWorldFar : FsOk Tryz.prog 14 fs_lawWorldFar := fsOk_of tt_ok (tabFs_cons ok_DrawWorldStep (tabFs_cons ok_implWorldStep (tabFs_cons ok_specWorldStep (tabFs_cons ok_lawsPqWorld (tabFs_cons ok_specWorldOk (tabFs_cons ok_pqAbs (tabFs_cons ok_implWorldPut (tabFs_cons ok_lawsPqBodies (tabFs_cons ok_lawsPqPairs tabFs_nil))))))))) mixed Tryz.func14 (by kernel_rfl) (by kernel_rfl) (by
    intro args LL p r HH h hp
    unfold fs_lawWorldFar at h
    dsimp only at h
    split at h
    case h_2 => cases h
    rename_i b
    simp only [Option.some.injEq, Prod.mk.injEq] at h
    obtain ⟨rfl, rfl, rfl⟩ := h
    refine ⟨by simp [Form, stays], (L_lawWorldFar), ?_⟩
    rw [vc_lawWorldFar]
    try dsimp only
    have hb := bytesOk_of (hp _ rfl)
    generalize g_DrawWorldStep b = z
    obtain ⟨⟨t, p, xs, ps⟩, hz⟩ := z
    simp only [worldD] at hz
    have g1 := length_stepEs t p xs ps
    dsimp only
    simp only [eqW4_self, bne_self_eq_false, beq_self_eq_true, Bool.not_true, ifBt, ifBf]
    have gB := length_stepBodies (worldOk t p xs ps) t p xs (by omega)
    have gP := length_stepPs (worldOk t p xs ps) t p xs ps (by omega)
    refine ifB_of (fun c => ⟨(by trivial), (by trivial)⟩) (fun c => ⟨hb, ⟨by omega, by omega⟩, ⟨by omega, by omega⟩, ⟨by omega, by omega⟩, ⟨by omega, by omega⟩, ifB_of (fun d => ⟨⟨by omega, by omega⟩, (by trivial), (by trivial)⟩) (fun d => ifB_of (fun e => ⟨⟨by omega, by omega⟩, (by trivial), (by trivial)⟩) (fun e => ⟨⟨(by trivial), (by trivial), (by trivial), by omega, by omega, fun j hj => absurd hj (by simp)⟩, ?_⟩))⟩)
    have hW := not_false d
    have hok := worldOk_bodies hW
    obtain ⟨t0, t1, p0, p1⟩ := worldOk_t hW
    have e := of_decide_eq_false e
    have hl : xs.length < 12 := by omega
    rintro ⟨b', ⟨t', p', xs', ps'⟩, ⟨ta, pa, xa, qa⟩, i⟩ ⟨h⟩
    dsimp only at h ⊢
    obtain ⟨rfl, hwd, hwa, i0, i1, hall⟩ := h
    cases hwd
    cases hwa
    refine ifB_of (fun c1 => ?_) (fun c1 => ?_)
    · have ci := of_decide_eq_true c1
      have w : IntKind.i64.wrap (i + 1) = i + 1 := wrap_small (by omega) (by omega)
      have e1 : (i + 1).toNat = i.toNat + 1 := by omega
      rw [w, e1]
      refine ⟨⟨i0, ci⟩, ifB_of (fun z => ⟨(by trivial), (by trivial)⟩) (fun z => ⟨⟨i0, ci⟩, ifB_of (fun z2 => ⟨(by trivial), (by trivial)⟩) (fun z2 => ⟨⟨(by trivial), (by trivial), (by trivial), by omega, by omega, fun j hj => ?_⟩, by omega⟩)⟩)⟩
      by_cases q : j = i.toNat
      · rw [q]
        exact ⟨by have := of_decide_eq_false z; omega, beq_eq_false_iff_ne.1 z2⟩
      · exact hall j (by omega)
    · have ci := of_decide_eq_false c1
      have hall2 : ∀ j, j < xs.length → absW (Ty.ix .body xs j).At.X ≤ 300000 ∧ (Ty.ix .body xs j).Id ≠ 999999999 := fun j hj => hall j (by omega)
      have hx : ∀ e, e < xs.length → -300000 ≤ (Ty.ix .body xs e).At.X ∧ (Ty.ix .body xs e).At.X ≤ 300000 := fun e he => by
        have h1 := (hall2 e he).1
        have hB := (bok_iff.1 (bodiesOk_each hok he)).2.2.1
        unfold absW at h1
        cases q : decide ((Ty.ix .body xs e).At.X < 0) with
        | true =>
          rw [q] at h1
          have q := of_decide_eq_true q
          simp only [cond_true] at h1
          rw [W_small (by omega) (by omega)] at h1
          omega
        | false =>
          rw [q] at h1
          have q := of_decide_eq_false q
          simp only [cond_false] at h1
          omega
      have hi : ∀ e, e < xs.length → (Ty.ix .body xs e).Id < 999999999 := fun e he => by
        have h1 := (hall2 e he).2
        have h2 := (bok_iff.1 (bodiesOk_each hok he)).1
        omega
      obtain ⟨f1, f2, f3⟩ := far_step hok p0 p1 hl hx hi
      obtain ⟨j1, j2, j3⟩ := ins_last (b := farB) hi
      have hput : putBodies xs farB = xs ++ [farB] := by rw [put_eq j3 far_ok hl, j2]
      have hpc : putCode true xs farB = 0 := by
        unfold putCode
        rw [far_ok, j3, decide_eq_false (show ¬ xs.length ≥ 12 by omega)]
        rfl
      have hWz : worldOk t p (xs ++ [farB]) ps = true := by
        rw [← j2]
        exact ins_world hW j3 far_ok hl
      have hF : (⟨999999999, ⟨1, 256, 0⟩, ⟨2000000, 0⟩, ⟨30, 0⟩, 3, 0, 0, 0⟩ : Body) = farB := rfl
      have lenz : (xs ++ [farB]).length = xs.length + 1 := by simp
      have lsp := stepPs144 true t p (xs ++ [farB]) (worldOk_pairs hW)
      have hlx := bodiesOk_len f1
      clear c1 i0 i1 ci hall
      simp only [hF, hW, orI, orL, cond_true, hput, hWz, hpc]
      generalize hSP : stepPs true t p (xs ++ [farB]) ps = sp at *
      refine ⟨⟨by omega, by omega⟩, ⟨by omega, by omega⟩, ⟨(by trivial), (by trivial), (by trivial), (by trivial), (by trivial), by omega, by omega, rfl⟩, ?_⟩
      rintro ⟨b2, ⟨tb, pb, xb, qb⟩, ⟨tc, pc, xc, qc⟩, k, ⟨td, pd, xd, qd⟩, near, i⟩ ⟨h⟩
      dsimp only at h ⊢
      obtain ⟨rfl, hwd, hwa, rfl, hwy, i0, i1, rfl⟩ := h
      cases hwd
      cases hwa
      cases hwy
      refine ifB_of (fun c2 => ?_) (fun c2 => ?_)
      · have ci := of_decide_eq_true c2
        have w : IntKind.i64.wrap (i + 1) = i + 1 := wrap_small (by omega) (by omega)
        have e1 : (i + 1).toNat = i.toNat + 1 := by omega
        have hs : (sp.take (i.toNat + 1)).filter nearP1 = (sp.take i.toNat).filter nearP1 ++ (bif nearP1 (Ty.ix .pair sp i.toNat) then [Ty.ix .pair sp i.toNat] else []) := by
          rw [take_ix (T := .pair) (show i.toNat < sp.length by omega), List.filter_append]
          cases q : nearP1 (Ty.ix .pair sp i.toNat) <;> simp [q]
        have ln : ((sp.take i.toNat).filter nearP1).length ≤ sp.length := Nat.le_trans (List.length_filter_le _ _) (by rw [List.length_take]; omega)
        rw [w, e1, hs]
        refine ⟨⟨i0, ci⟩, ifB_of (fun q => ⟨⟨i0, ci⟩, by simp only [room, List.length_singleton]; omega, ⟨(by trivial), (by trivial), (by trivial), (by trivial), (by trivial), by omega, by omega, ?_⟩, by omega⟩) (fun q => ⟨⟨(by trivial), (by trivial), (by trivial), (by trivial), (by trivial), by omega, by omega, ?_⟩, by omega⟩)⟩
        · rw [show nearP1 (Ty.ix .pair sp i.toNat) = true from q]
          rfl
        · rw [show nearP1 (Ty.ix .pair sp i.toNat) = false from q]
          simp
      · have ci := of_decide_eq_false c2
        have hta : sp.take i.toNat = sp := List.take_of_length_le (by omega)
        rw [hta]
        simp only [beq_self_eq_true, ifBt]
        refine ifB_of (fun z => ⟨(by trivial), (by trivial)⟩) (fun z => ?_)
        have z := of_decide_eq_false z
        have ht : (t == 100000) = false := beq_eq_false_iff_ne.2 (by omega)
        have l1 := length_stepF (xs ++ [farB]) p
        have l2 := length_stepF xs p
        have hs1 := stepOf_ok f1 p0 p1
        have hs2 := stepOf_ok hok p0 p1
        have hsp : sp = stepPairs (stepF (xs ++ [farB]) p) := by
          rw [← hSP]
          simp only [stepPs, ht, cond_true, cond_false, hs1]
        have gN := length_stepPairs (stepF xs p)
        rw [hsp, f3]
        simp only [stepBodies, stepPs, ht, cond_true, cond_false, hs1, hs2, List.drop_zero, Int.toNat_natCast, f2, same_self, ifBt]
        exact ⟨⟨by omega, by omega⟩, by omega, by omega, (by trivial), (by trivial)⟩)

end
end Go.Proofs.YtnahfbjdicjdpaaGreat.Sym

