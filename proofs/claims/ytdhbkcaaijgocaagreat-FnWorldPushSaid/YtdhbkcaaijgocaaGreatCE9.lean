/-
  What the rows of this claim stand on, part 9: the machine, the walks, the plain laws, as far as they are used.
  No condition.
-/
import Derived.Test.YtdhbkcaaijgocaaGreatCE8
import Derived.WalkKit
import Derived.Shelf.RegionOpenPlain
import Derived.Lib.Walk
import Derived.Lib.SliceRun
import Derived.Lib.JoinLaws
import Derived.Lib.AppendZeros
import Derived.Lib.Overlaps
import Derived.Laws.Externs
import Derived.Laws.IdiomCopy
import Derived.Lib.AppendZerosOnto
namespace Go.Proofs.YtdhbkcaaijgocaaGreat.Sym
open Go Go.Proofs
set_option linter.unusedVariables false
set_option linter.unusedSimpArgs false
/-- 'copy' where its run is known. -/
theorem wpL_copy {P : Program} (w : Go.World) {ops : Array Oper} {rest : List Oper} {o : Oper} {a : Act} {Q : Exit → Act → Go.World → Prop} (hgd : o.guard = none) (d s : Operand) (t t' : TypeId)
    (ho : o.op = .call { callee := .builtin .copy, args := #[d, s], argTypes := #[t, t'] }) (v u : Value) (hd : a.eval d = v) (hs : a.eval s = u) {v' : Value} {w' : Go.World}
    (hr : (Builtin.copy_ #[t, t'] o.type #[v, u]).run P w = .ok v' w') (h : wpList P ops Q rest (a.put o.dst v') w') : wpList P ops Q (o :: rest) a w :=
  wpList_plain hgd fun _ hK => by
    unfold Oper.wp execOp
    simp only [ho, resolve, invoke, builtin, Sem.run_bind, Sem.run_pure, Result.andThen_ok, List.map_toArray, List.map_cons, List.map_nil, hd, hs, hr]
    exact hK _ _ h
theorem stepD_copy {P : Program} {ops : Array Oper} {o : Oper} {a : Act} {w : Go.World} {K : Act → Go.World → Prop} {Q : Exit → Act → Go.World → Prop} {E : Prop}
    (hg : o.guard = none) (d x : Operand) (dT sT : TypeId) (hop : o.op = Op.call { callee := Callee.builtin Builtin.copy, args := #[d, x], argTypes := #[dT, sT] })
    (v u : Value) (hd : a.eval d = v) (hx : a.eval x = u) {v' : Value} {w' : Go.World} (hr : (Builtin.copy_ #[dT, sT] o.type #[v, u]).run P w = .ok v' w') (hK : K (a.put o.dst v') w') :
    if Region.wanted o (yielded ops a.tmps) = true then Oper.wp P o a w K Q else E := by
  have hw : Region.wanted o (yielded ops a.tmps) = true := by simp [Region.wanted, hg]
  rw [if_pos hw]
  unfold Oper.wp
  simp [execOp, hop, resolve, invoke, builtin, hd, hx, hr, Result.andThen]
  exact hK
theorem drew_heap (w : Go.World) : w.drew.heap = w.heap := rfl
theorem size_setRow (w : Go.World) (b : Nat) (cs : Array Value) : (w.setRow b cs).heap.size = w.heap.size := by simp [Go.World.setRow]
theorem cell_row {w : Go.World} {b o : Nat} {vs : Array Value} {E : TypeId} {fz : Nat × Nat} (h : w.heap[b]? = some (.cells vs E fz)) : w.cell? ⟨b, o, none⟩ = vs[o]? := cell_of h

def insL_Items (xs : List Item) (i : Nat) (ys : List Item) : List Item := xs.take i ++ ys ++ xs.drop i
def fs_insItems : Fs := ⟨[true, false, true], fun args H => match args, H with
  | [.vec 0, .int .i64 i, .vec 1], [(true, .vec .item xs), (true, .vec .item ys)] => some (some (0 ≤ i ∧ i ≤ xs.length ∧ ys.length = 1 ∧ xs.length ≤ 1048576), .vec 2, [(true, .dead), (true, .vec .item ys), (true, .vec .item (insL_Items xs i.toNat ys))])
  | _, _ => none⟩
set_option maxHeartbeats 4000000 in
set_option maxRecDepth 100000 in
theorem insItems_room (b off n c i vb voff vc : Nat) (row1 row2 : Array Value) (v1 v2 : Value) (w : Go.World) (hi : i < n) (hroom : n + 1 ≤ c) (hn63 : n ≤ 1048576)
    (hov : ∀ lb cb, (callFunc 200 #[.slice (some ⟨vb, voff, none⟩) 1 vc, .slice (some ⟨b, off + (i + 1) * 5, none⟩) lb cb]).run Tryz.prog w = .ok (.value (.bool false)) w)
    (hcp1 : ∀ ty dc sc, (Builtin.copy_ #[85, 85] ty #[.slice (some ⟨b, off + (i + 1) * 5, none⟩) (n - i) dc, .slice (some ⟨b, off + i * 5, none⟩) (n + 1 - i) sc]).run Tryz.prog w.drew = .ok v1 (w.drew.setRow b row1))
    (hcp2 : ∀ ty dc sc, (Builtin.copy_ #[85, 85] ty #[.slice (some ⟨b, off + i * 5, none⟩) (n + 1 - i) dc, .slice (some ⟨vb, voff, none⟩) 1 sc]).run Tryz.prog (w.drew.setRow b row1) = .ok v2 ((w.drew.setRow b row1).setRow b row2)) :
    Calls Tryz.prog 139 #[.slice (some ⟨b, off, none⟩) n c, .int .i64 i, .slice (some ⟨vb, voff, none⟩) 1 vc] w fun e w' =>
      e = .returned (.slice (some ⟨b, off, none⟩) (n + 1) c) ∧ w' = (w.drew.setRow b row1).setRow b row2 := by
  have mixed : Tryz.prog.follows .mixedOrders = true := by kernel_rfl
  have t3 : Tryz.prog.underlying 3 = some (.int .i64) := by kernel_rfl
  have t4 : Tryz.prog.underlying 4 = some .bool := by kernel_rfl
  have tL : Tryz.prog.underlying 85 = some (.slice 91) := by kernel_rfl
  have iE : (Tryz.prog.info? 91).map (·.size) = some 5 := by kernel_rfl
  have u3 := run_underlying t3; have u4 := run_underlying t4; have uL := run_underlying tL
  have zE : ∀ w, (Go.sizeOf 91).run Tryz.prog w = .ok 5 w := fun w => by
    cases hq : Tryz.prog.info? 91 with
    | none => simp [hq] at iE
    | some x => simp [hq] at iE; simp [sizeOf, typeInfo, hq, iE]
  have a3 : ∀ w, (isAgg 3).run Tryz.prog w = .ok false w := fun w => run_isAgg t3
  have a4 : ∀ w, (isAgg 4).run Tryz.prog w = .ok false w := fun w => run_isAgg t4
  have aL : ∀ w, (isAgg 85).run Tryz.prog w = .ok false w := fun w => run_isAgg tL
  have hw1 : IntKind.i64.wrap ((i : Int) + 1) = (i : Int) + 1 := by rw [IntKind.wrap_i64]; omega
  have hw2 : IntKind.i64.wrap ((n : Int) + 1) = (n : Int) + 1 := by rw [IntKind.wrap_i64]; omega
  have hz2 : ¬ ((i : Int) = (n : Int)) := by omega
  have hb1 : (0 : Int) ≤ (i : Int) + 1 := by omega
  have hin : i ≤ n := by omega
  have htn : ((i : Int) + 1).toNat = i + 1 := by omega
  have htn2 : ((n : Int) + 1).toNat = n + 1 := by omega
  have hb2 : ¬ (c = i + 1) := by omega
  have hb3 : (i : Int) ≤ (n : Int) + 1 := by omega
  have hb4 : ¬ (c = i) := by omega
  have hr1 : ¬ ((n : Int) + 1 > (c : Int)) := by omega
  go_enter Tryz.func139, Tryz.ntmps139
  go_wp2_with (simp only [hov])
  go_region_law_o (refine stepD_copy rfl _ _ 85 85 rfl _ _ (by simp [Act.eval, Act.put]) (by simp [Act.eval, Act.put]) (hcp1 _ _ _) ?_)
  go_wp2_with (refine wpL_copy _ rfl _ _ 85 85 rfl _ _ rfl rfl (hcp2 _ _ _) ?_)
  go_ret
  exact ⟨rfl, rfl⟩
set_option maxHeartbeats 4000000 in
set_option maxRecDepth 100000 in
theorem insItems_end (base : Option Addr) (n c vb voff vc : Nat) (v' : Value) (w w' : Go.World) (hnc : n ≤ c) (hn63 : n ≤ 1048576)
    (hrun : ∀ ty, (Builtin.append_ #[85, 85] ty #[.slice base n c, .slice (some ⟨vb, voff, none⟩) 1 vc]).run Tryz.prog w = .ok v' w') :
    Calls Tryz.prog 139 #[.slice base n c, .int .i64 n, .slice (some ⟨vb, voff, none⟩) 1 vc] w fun e W => e = .returned v' ∧ W = w' := by
  have mixed : Tryz.prog.follows .mixedOrders = true := by kernel_rfl
  have t3 : Tryz.prog.underlying 3 = some (.int .i64) := by kernel_rfl
  have t4 : Tryz.prog.underlying 4 = some .bool := by kernel_rfl
  have tL : Tryz.prog.underlying 85 = some (.slice 91) := by kernel_rfl
  have iE : (Tryz.prog.info? 91).map (·.size) = some 5 := by kernel_rfl
  have u3 := run_underlying t3; have u4 := run_underlying t4; have uL := run_underlying tL
  have zE : ∀ w, (Go.sizeOf 91).run Tryz.prog w = .ok 5 w := fun w => by
    cases hq : Tryz.prog.info? 91 with
    | none => simp [hq] at iE
    | some x => simp [hq] at iE; simp [sizeOf, typeInfo, hq, iE]
  have a3 : ∀ w, (isAgg 3).run Tryz.prog w = .ok false w := fun w => run_isAgg t3
  have a4 : ∀ w, (isAgg 4).run Tryz.prog w = .ok false w := fun w => run_isAgg t4
  have aL : ∀ w, (isAgg 85).run Tryz.prog w = .ok false w := fun w => run_isAgg tL
  go_enter Tryz.func139, Tryz.ntmps139
  cases base with
  | none =>
    go_wp2_with (at_builtin; refine Lib.wpList_append_run _ rfl _ _ _ _ rfl _ _ rfl rfl _ _ (hrun _) ?_)
    all_goals (go_ret; exact ⟨rfl, rfl⟩)
  | some a =>
    obtain ⟨ab, ao, asp⟩ := a
    go_wp2_with (at_builtin; refine Lib.wpList_append_run _ rfl _ _ _ _ rfl _ _ rfl rfl _ _ (hrun _) ?_)
    all_goals (go_ret; exact ⟨rfl, rfl⟩)
set_option maxHeartbeats 4000000 in
set_option maxRecDepth 100000 in
theorem insItems_grow (b off n c i vb voff vc g G : Nat) (v1 v2 : Value) (w A A1 A2 : Go.World) (hi : i < n) (hnc : n ≤ c) (hroom : c < n + 1) (hG : n + 1 ≤ G) (hn63 : n ≤ 1048576)
    (hrz : ∀ ty, (Builtin.append_ #[85, 3] ty #[.slice (some ⟨b, off, none⟩) i c, .int .i64 ((n : Int) + 1 - (i : Int))]).run Tryz.prog w = .ok (.slice (some ⟨g, 0, none⟩) (n + 1) G) A)
    (hcpA : ∀ ty dc sc, (Builtin.copy_ #[85, 85] ty #[.slice (some ⟨g, i * 5, none⟩) (n + 1 - i) dc, .slice (some ⟨vb, voff, none⟩) 1 sc]).run Tryz.prog A = .ok v1 A1)
    (hcpB : ∀ ty dc sc, (Builtin.copy_ #[85, 85] ty #[.slice (some ⟨g, (i + 1) * 5, none⟩) (n - i) dc, .slice (some ⟨b, off + i * 5, none⟩) (n - i) sc]).run Tryz.prog A1.drew = .ok v2 A2) :
    Calls Tryz.prog 139 #[.slice (some ⟨b, off, none⟩) n c, .int .i64 i, .slice (some ⟨vb, voff, none⟩) 1 vc] w fun e w' => e = .returned (.slice (some ⟨g, 0, none⟩) (n + 1) G) ∧ w' = A2 := by
  have mixed : Tryz.prog.follows .mixedOrders = true := by kernel_rfl
  have t3 : Tryz.prog.underlying 3 = some (.int .i64) := by kernel_rfl
  have t4 : Tryz.prog.underlying 4 = some .bool := by kernel_rfl
  have tL : Tryz.prog.underlying 85 = some (.slice 91) := by kernel_rfl
  have iE : (Tryz.prog.info? 91).map (·.size) = some 5 := by kernel_rfl
  have u3 := run_underlying t3; have u4 := run_underlying t4; have uL := run_underlying tL
  have zE : ∀ w, (Go.sizeOf 91).run Tryz.prog w = .ok 5 w := fun w => by
    cases hq : Tryz.prog.info? 91 with
    | none => simp [hq] at iE
    | some x => simp [hq] at iE; simp [sizeOf, typeInfo, hq, iE]
  have a3 : ∀ w, (isAgg 3).run Tryz.prog w = .ok false w := fun w => run_isAgg t3
  have a4 : ∀ w, (isAgg 4).run Tryz.prog w = .ok false w := fun w => run_isAgg t4
  have aL : ∀ w, (isAgg 85).run Tryz.prog w = .ok false w := fun w => run_isAgg tL
  have hw1 : IntKind.i64.wrap ((i : Int) + 1) = (i : Int) + 1 := by rw [IntKind.wrap_i64]; omega
  have hw2 : IntKind.i64.wrap ((n : Int) + 1) = (n : Int) + 1 := by rw [IntKind.wrap_i64]; omega
  have hw3 : IntKind.i64.wrap ((n : Int) + 1 - (i : Int)) = (n : Int) + 1 - (i : Int) := by rw [IntKind.wrap_i64]; omega
  have hz2 : ¬ ((i : Int) = (n : Int)) := by omega
  have hb1 : (0 : Int) ≤ (i : Int) + 1 := by omega
  have hin : i ≤ n := by omega
  have hic : i ≤ c := by omega
  have htn : ((i : Int) + 1).toNat = i + 1 := by omega
  have hb2 : ¬ (G = i + 1) := by omega
  have hb3 : (i : Int) ≤ (n : Int) + 1 := by omega
  have hb4 : ¬ (G = i) := by omega
  have hb5 : ¬ (c = i) := by omega
  have hr1 : (n : Int) + 1 > (c : Int) := by omega
  go_enter Tryz.func139, Tryz.ntmps139
  go_wp2_with (first
    | (at_builtin; refine Lib.wpList_append_run _ rfl _ _ _ _ rfl _ _ rfl rfl _ _ (hrz _) ?_)
    | (refine wpL_copy _ rfl _ _ 85 85 rfl _ _ rfl rfl (hcpA _ _ _) ?_))
  go_region_law_o (refine stepD_copy rfl _ _ 85 85 rfl _ _ (by simp [Act.eval, Act.put]) (by simp [Act.eval, Act.put]) (hcpB _ _ _) ?_)
  go_wp2
  go_ret
  exact ⟨rfl, rfl⟩
theorem ov_Items {w : Go.World} {b vb voff o la vc : Nat} {E E' : TypeId} {vs vs' : Array Value} (hne : vb ≠ b) (hb : w.heap[b]? = some (.cells vs E (0, 0))) (hvb : w.heap[vb]? = some (.cells vs' E' (0, 0))) (hsz : vs.size ≠ 0) (lb cb : Nat) :
    (callFunc 200 #[.slice (some ⟨vb, voff, none⟩) la vc, .slice (some ⟨b, o, none⟩) lb cb]).run Tryz.prog w = .ok (.value (.bool false)) w := by
  have tL : Tryz.prog.underlying 85 = some (.slice 91) := by kernel_rfl
  have iE : (Tryz.prog.info? 91).map (·.size) = some 5 := by kernel_rfl
  have zE : ∀ w, (Go.sizeOf 91).run Tryz.prog w = .ok 5 w := fun w => by
    cases hq : Tryz.prog.info? 91 with
    | none => simp [hq] at iE
    | some x => simp [hq] at iE; simp [sizeOf, typeInfo, hq, iE]
  rw [run_callFunc_extern Tryz.func200 (by kernel_rfl) (by kernel_rfl) (by kernel_rfl) (e := Extern.SlicesOverlaps.overlaps #[85, 85] #[4]) (by kernel_rfl),
    Lib.run_overlaps_apart w 85 4 91 tL 5 zE ⟨vb, voff, none⟩ ⟨b, o, none⟩ la vc lb cb hne E' E vs'.size vs.size (by simp [Go.World.shape?, hvb]) (by simp [Go.World.shape?, hb]) hsz (by simp [Go.World.frozen?, hvb]) (by simp [Go.World.frozen?, hvb])]
  rfl
set_option maxHeartbeats 4000000 in
set_option maxRecDepth 100000 in
theorem sem_insItems {i : Int} {xs ys : List Item} (h0 : 0 ≤ i) (h1 : i ≤ xs.length) (hy : ys.length = 1) (hx : xs.length ≤ 1048576) :
    FSem Tryz.prog 139 [.vec 0, .int .i64 i, .vec 1] [(true, .vec .item xs), (true, .vec .item ys)] (.vec 2) [(true, .dead), (true, .vec .item ys), (true, .vec .item (insL_Items xs i.toNat ys))] := by
  refine ⟨by simp, ?_, ?_, ?_, ?_⟩
  · intro k b hk
    match k, hk with
    | 0, hk => simp at hk
    | 1, hk => simp at hk
    | k + 2, hk => simp at hk
  · intro k b hk
    match k, hk with
    | 0, hk => exact ⟨.dead, rfl, by cases b <;> trivial⟩
    | 1, hk => simp at hk; subst hk; exact ⟨_, rfl, stays_refl _⟩
    | k + 2, hk => simp at hk
  · intro k e hk he
    match k, hk, he with
    | 2, hk, he => simp at he; subst he; rfl
    | k + 3, hk, he => simp at he
  intro wr env w us hh hnew hc
  have c0 : ofL [(true, Blk.vec .item xs), (true, Blk.vec .item ys)] 0 = some (true, .vec .item xs) := rfl
  have c1 : ofL [(true, Blk.vec .item xs), (true, Blk.vec .item ys)] 1 = some (true, .vec .item ys) := rfl
  have c2 : ofL [(true, Blk.vec .item xs), (true, Blk.vec .item ys)] 2 = none := rfl
  match us, hc with
  | [v0, v1, v2], ⟨hv0, hv1, hv2, _⟩ =>
  simp only [conc2, concC, c0] at hv0
  simp only [conc2, concC] at hv1
  simp only [conc2, concC, c1] at hv2
  subst hv0 hv1 hv2
  obtain ⟨l0, r0⟩ := hh.blk 0 true _ c0
  obtain ⟨l1, r1⟩ := hh.blk 1 true _ c1
  rw [hy] at l1
  rcases r1 with r1 | ⟨vb, voff, vE, vvs, vfz, hvb, hvheap, hvsize, hvlies, hvfz⟩
  · omega
  have hvfz := hvfz rfl
  subst hvfz
  obtain ⟨m, rfl⟩ := Int.eq_ofNat_of_zero_le h0
  have hm : m ≤ xs.length := by omega
  have hov3 : updH (ofL [(true, Blk.vec .item xs), (true, Blk.vec .item ys)]) [(0, true, .dead), (2, true, .vec .item (insL_Items xs m ys))] = ofL [(true, .dead), (true, .vec .item ys), (true, .vec .item (insL_Items xs m ys))] := ofL_over (U := .item) (zs := xs) (ts := insL_Items xs m ys) (R := [(true, .vec .item ys)])
  have hzl : (insL_Items xs m ys).length = xs.length + 1 := by simp [insL_Items, hy]; omega
  have fin : ∀ {x : Option Addr × Nat} {w' : Go.World}, HRel wr (envSet env 2 x) (ofL [(true, .dead), (true, .vec .item ys), (true, .vec .item (insL_Items xs m ys))]) w' → Fr wr w w' →
      ∃ v env', Ending.returned (.slice x.1 (xs.length + 1) x.2) = .returned v ∧ (∀ j, j < 2 → env' j = env j) ∧ HRel wr env' (ofL [(true, .dead), (true, .vec .item ys), (true, .vec .item (insL_Items xs m ys))]) w' ∧
        conc env' (ofL [(true, .dead), (true, .vec .item ys), (true, .vec .item (insL_Items xs m ys))]) (.vec 2) v ∧ Fr wr w w' := fun {x w'} hr hf => by
    refine ⟨_, envSet env 2 x, rfl, fun j hj => by simp only [envSet]; rw [if_neg (by omega)], hr, ?_, hf⟩
    have : ofL [(true, Blk.dead), (true, .vec .item ys), (true, .vec .item (insL_Items xs m ys))] 2 = some (true, .vec .item (insL_Items xs m ys)) := rfl
    simp only [conc, conc2, concC, this, hzl, envSet, if_true]
  have tL : Tryz.prog.underlying 85 = some (.slice 91) := by kernel_rfl
  have t3 : Tryz.prog.underlying 3 = some (.int .i64) := by kernel_rfl
  have hi0 : (Tryz.prog.info? 91).map (fun i => (i.size, i.bytes, i.zero.map fun z => z.cells.size)) = some (5, 40, some 5) := by kernel_rfl
  obtain ⟨ni, hni, hsz, hby, z, hz, hzs⟩ : ∃ ni, Tryz.prog.info? 91 = some ni ∧ ni.size = 5 ∧ ni.bytes = 40 ∧ ∃ z, ni.zero = some z ∧ z.cells.size = 5 := by
    obtain ⟨ni, h1, h2⟩ := Option.map_eq_some_iff.1 hi0
    simp only [Prod.mk.injEq] at h2
    obtain ⟨z, h3, h4⟩ := Option.map_eq_some_iff.1 h2.2.2
    exact ⟨ni, h1, h2.1, h2.2.1, z, h3, h4⟩
  have hszk : (Tryz.prog.info? 91).map (·.size) = some 5 := by rw [hni, Option.map_some, hsz]
  have hyc : ∀ q v, (flat .item ys)[q]? = some v → w.cell? ⟨vb, voff + q, none⟩ = some v := fun q v hq => by
    rw [cell_row hvheap]
    exact lies_flat.1 hvlies q v hq
  have hyl : (flat .item ys).length = 5 := by
    have := flat_length .item ys
    rw [hy] at this
    simpa [Ty.sz] using this
  have hxl : (flat .item (xs.drop m)).length = (xs.length - m) * 5 := by
    have := flat_length .item (xs.drop m)
    rw [List.length_drop] at this
    exact this
  rw [hy, hvb]
  by_cases he : m = xs.length
  · subst he
    have hz0 : insL_Items xs xs.length ys = xs ++ ys := by simp [insL_Items]
    obtain ⟨v, w', hrun, env', x1, x2, x3, x4⟩ := append_good (P := Tryz.prog) (U := .item) (ty := 85) hh hnew tL hni hsz hz hzs c0 c2 (ys := ys) (u := .slice (some ⟨vb, voff, none⟩) ys.length (env 1).2) ⟨_, _, rfl, fun _ => ⟨vb, voff, rfl, hyc⟩⟩ (by omega) (by rw [hy, hby]; unfold room; omega)
    rw [hy] at hrun
    have hw := insItems_end (env 0).1 xs.length (env 0).2 vb voff (env 1).2 v w w' l0 hx (fun ty => by exact hrun)
    refine hw.mono ?_
    rintro e W ⟨rfl, rfl⟩
    rw [← hz0] at x2 x4
    rw [hov3] at x2 x4
    refine ⟨v, env', rfl, fun j hj => ?_, x2, x4, x3⟩
    match j, hj with
    | 0, _ => exact (x1.same 0 _ _ c0).1
    | 1, _ => exact (x1.same 1 _ _ c1).1
  have hlt : m < xs.length := by omega
  rcases r0 with r0 | ⟨b, off, E, vs, fz, hb, hheap, hsize, hlies, hfz⟩
  · omega
  have hfz := hfz rfl
  subst hfz
  have hsize : off + (env 0).2 * 5 ≤ vs.size := hsize
  have hne : vb ≠ b := fun e => by
    subst e
    refine hh.dj 0 1 true _ true _ (by omega) c0 c1 (.inl rfl) vb ?_ ?_
    · simp only [own]; rw [if_neg (by omega), hb]; rfl
    · simp only [own]; rw [if_neg (by omega), hvb]; rfl
  have hxc : ∀ q v, (flat .item (xs.drop m))[q]? = some v → vs[off + m * 5 + q]? = some v := fun q v hq => by
    have h1 : (flat .item xs)[m * 5 + q]? = some v := by
      rw [flat_drop, List.getElem?_drop] at hq
      exact hq
    have := lies_flat.1 hlies _ _ h1
    rw [← this]
    congr 1
    omega
  have hmul : (m + 1) * 5 = m * 5 + 5 := by omega
  rw [hb]
  by_cases hroom : xs.length + 1 ≤ (env 0).2
  · have hk := lies_insert (U := .item) (ys := ys) (i := m) hlies hm (by rw [hy]; change off + (xs.length + 1) * 5 ≤ vs.size; omega)
    have hsub : (xs.length - m) * 5 + m * 5 = xs.length * 5 := by rw [← Nat.add_mul]; congr 1; omega
    obtain ⟨row1, hrow1⟩ : ∃ row1 : Array Value, row1 = (vs.toList.take (off + (m + 1) * 5) ++ flat .item (xs.drop m) ++ vs.toList.drop (off + (m + 1) * 5 + (flat .item (xs.drop m)).length)).toArray := ⟨_, rfl⟩
    obtain ⟨row2, hrow2⟩ : ∃ row2 : Array Value, row2 = (row1.toList.take (off + m * 5) ++ flat .item ys ++ row1.toList.drop (off + m * 5 + (flat .item ys).length)).toArray := ⟨_, rfl⟩
    have hs1 : row1.size = vs.size := by
      rw [hrow1]
      simp only [List.size_toArray, List.length_append, List.length_take, List.length_drop, hxl, Array.length_toList]
      omega
    have hs2 : row2.size = vs.size := by
      rw [hrow2]
      simp only [List.size_toArray, List.length_append, List.length_take, List.length_drop, hyl, Array.length_toList, hs1]
      omega
    have hlies2 : Lies .item (insL_Items xs m ys) row2 off := by
      rw [hrow2, hrow1]
      rw [hy] at hk
      exact hk
    have hcp1 : ∀ ty dc sc, (Builtin.copy_ #[85, 85] ty #[.slice (some ⟨b, off + (m + 1) * 5, none⟩) (xs.length - m) dc, .slice (some ⟨b, off + m * 5, none⟩) (xs.length + 1 - m) sc]).run Tryz.prog w.drew = .ok (goInt (Nat.min (xs.length + 1 - m) (xs.length - m))) (w.drew.setRow b row1) := fun ty dc sc => by
      rw [hrow1]
      exact run_copy_row_k w.drew 85 85 ty 91 b (off + (m + 1) * 5) (xs.length - m) dc ⟨b, off + m * 5, none⟩ (xs.length + 1 - m) sc 5 vs E (flat .item (xs.drop m)) tL hszk hheap
        (by rw [hxl]; congr 1; exact (Nat.min_eq_right (by omega)).symm) (fun q v hq => by rw [add_addr, cell_row (w := w.drew) hheap]; exact hxc q v hq) (by rw [hxl]; omega) (flat_one _ _)
    have hg1 : (w.drew.setRow b row1).heap[b]? = some (.cells row1 E (0, 0)) := setRow_heap w.drew b vs row1 E (0, 0) hheap
    have hcp2 : ∀ ty dc sc, (Builtin.copy_ #[85, 85] ty #[.slice (some ⟨b, off + m * 5, none⟩) (xs.length + 1 - m) dc, .slice (some ⟨vb, voff, none⟩) 1 sc]).run Tryz.prog (w.drew.setRow b row1) = .ok (goInt (Nat.min 1 (xs.length + 1 - m))) ((w.drew.setRow b row1).setRow b row2) := fun ty dc sc => by
      rw [hrow2]
      exact run_copy_row_k (w.drew.setRow b row1) 85 85 ty 91 b (off + m * 5) (xs.length + 1 - m) dc ⟨vb, voff, none⟩ 1 sc 5 row1 E (flat .item ys) tL hszk hg1
        (by rw [hyl, show Nat.min 1 (xs.length + 1 - m) = 1 from Nat.min_eq_left (by omega)]) (fun q v hq => by
          rw [add_addr]
          have : (w.drew.setRow b row1).heap[vb]? = some (.cells vvs vE (0, 0)) := by rw [setRow_other w.drew b vb row1 hne]; exact hvheap
          rw [cell_row this]
          exact lies_flat.1 hvlies q v hq) (by rw [hyl]; omega) (flat_one _ _)
    have hw := insItems_room b off xs.length (env 0).2 m vb voff (env 1).2 row1 row2 _ _ w hlt hroom hx (fun lb cb => ov_Items hne hheap hvheap (by omega) lb cb) hcp1 hcp2
    refine hw.mono ?_
    rintro e W ⟨rfl, rfl⟩
    have := over_inplace (w' := (w.drew.setRow b row1).setRow b row2) hh c0 c2 hnew (row := row2) hb (by omega) (fun y hy => by rw [setRow_other _ b y _ hy, setRow_other _ b y _ hy]; rfl) (setRow_heap _ b row1 row2 E (0, 0) hg1) (by change off + (env 0).2 * 5 ≤ row2.size; omega) (by rw [hzl]; exact hroom) hlies2 rfl rfl rfl ((size_setRow _ b row2).trans (size_setRow w.drew b row1))
    rw [hov3] at this
    have := fin this.2.1 this.2.2
    rw [hb] at this
    exact this
  · have hold : (Builtin.firstCells ni.size m (.slice (some ⟨b, off, none⟩) m (env 0).2)).run Tryz.prog w.drew = .ok (flat .item (xs.take m)).toArray w.drew := by
      rw [hsz]
      refine run_firstCells_some w.drew 5 m ⟨b, off, none⟩ m (env 0).2 (flat .item (xs.take m)) (by rw [flat_length, List.length_take, Nat.min_eq_left hm]; rfl) (fun q v hq => ?_)
      have hql : q < m * 5 := by
        have := (List.getElem?_eq_some_iff.1 hq).1
        rw [flat_length, List.length_take, Nat.min_eq_left hm] at this
        exact this
      rw [flat_get_take hql] at hq
      rw [add_addr, cell_row (w := w.drew) hheap]
      exact lies_flat.1 hlies q v hq
    have hfit := growslice_fits (need := xs.length + 1) (old := (env 0).2) (bytes := ni.bytes) (by omega) (by rw [hby]; omega)
    have hrz := fun ty => Lib.run_append_grow_zeros (P := Tryz.prog) w 85 3 ty 91 ni z .i64 .i64 tL t3 hni hz (some ⟨b, off, none⟩) m (env 0).2 (flat .item (xs.take m)) hold (xs.length + 1 - m) (by omega) (by omega) (by omega) (by omega) (by rw [hby]; omega) (by rw [show m + (xs.length + 1 - m) = xs.length + 1 by omega]; exact hfit)
    rw [show m + (xs.length + 1 - m) = xs.length + 1 by omega, show ((xs.length + 1 - m : Nat) : Int) = (xs.length : Int) + 1 - (m : Int) by omega] at hrz
    have hG := grownCap_need (w := w) (xs.length + 1) (env 0).2 91
    obtain ⟨G, hGe⟩ : ∃ G, G = grownCap w (xs.length + 1) (env 0).2 91 := ⟨_, rfl⟩
    rw [← hGe] at hG hrz
    obtain ⟨rest, hrest⟩ : ∃ rest : Array Value, rest = Builtin.zeroCells z.cells (xs.length + 1 - m) ++ Builtin.zeroCells z.cells (G - (xs.length + 1)) := ⟨_, rfl⟩
    obtain ⟨ROW, hROW⟩ : ∃ ROW : Array Value, ROW = (flat .item (xs.take m)).toArray ++ Builtin.zeroCells z.cells (xs.length + 1 - m) ++ Builtin.zeroCells z.cells (G - (xs.length + 1)) := ⟨_, rfl⟩
    rw [← hROW] at hrz
    have hsub : (xs.length - m) * 5 + m * 5 = xs.length * 5 := by rw [← Nat.add_mul]; congr 1; omega
    have htl : (flat .item (xs.take m)).length = m * 5 := by rw [flat_length, List.length_take, Nat.min_eq_left hm]; rfl
    have hRs : ROW.size = G * 5 := by
      rw [hROW]
      simp only [Array.size_append, List.size_toArray, htl, size_zeroCells, hzs]
      rw [← Nat.add_mul, ← Nat.add_mul]
      congr 1
      omega
    have hRl : ROW.toList = flat .item (xs.take m) ++ rest.toList := by rw [hROW, hrest]; simp
    have hk := lies_grow (U := .item) (ys := ys) (i := m) hRl hm (by rw [hy, hRs]; exact Nat.mul_le_mul_right _ hG)
    obtain ⟨row1, hrow1⟩ : ∃ row1 : Array Value, row1 = (ROW.toList.take (m * 5) ++ flat .item ys ++ ROW.toList.drop (m * 5 + (flat .item ys).length)).toArray := ⟨_, rfl⟩
    obtain ⟨row2, hrow2⟩ : ∃ row2 : Array Value, row2 = (row1.toList.take ((m + 1) * 5) ++ flat .item (xs.drop m) ++ row1.toList.drop ((m + 1) * 5 + (flat .item (xs.drop m)).length)).toArray := ⟨_, rfl⟩
    have hGm : (xs.length + 1) * 5 ≤ G * 5 := Nat.mul_le_mul_right _ hG
    have hs1 : row1.size = ROW.size := by
      rw [hrow1]
      simp only [List.size_toArray, List.length_append, List.length_take, List.length_drop, hyl, Array.length_toList]
      omega
    have hs2 : row2.size = ROW.size := by
      rw [hrow2]
      simp only [List.size_toArray, List.length_append, List.length_take, List.length_drop, hxl, Array.length_toList, hs1]
      omega
    have hlies2 : Lies .item (insL_Items xs m ys) row2 0 := by
      rw [hrow2, hrow1]
      rw [hy] at hk
      exact hk
    have hbN : b < w.heap.size := (Array.getElem?_eq_some_iff.1 hheap).1
    have hvN : vb < w.heap.size := (Array.getElem?_eq_some_iff.1 hvheap).1
    obtain ⟨A, hA⟩ : ∃ A, A = w.drew.alloc (.cells ROW 91) := ⟨_, rfl⟩
    rw [← hA] at hrz
    have hAN : A.heap[w.heap.size]? = some (.cells ROW 91 (0, 0)) := by rw [hA]; exact Array.getElem?_push_size
    have hAo : ∀ y, y < w.heap.size → A.heap[y]? = w.heap[y]? := fun y hy => by
      rw [hA]
      have : (w.drew.alloc (.cells ROW 91)).heap = w.heap.push (.cells ROW 91) := rfl
      rw [this, Array.getElem?_push, if_neg (by omega)]
    have hcpA : ∀ ty dc sc, (Builtin.copy_ #[85, 85] ty #[.slice (some ⟨w.heap.size, m * 5, none⟩) (xs.length + 1 - m) dc, .slice (some ⟨vb, voff, none⟩) 1 sc]).run Tryz.prog A = .ok (goInt (Nat.min 1 (xs.length + 1 - m))) (A.setRow w.heap.size row1) := fun ty dc sc => by
      rw [hrow1]
      exact run_copy_row_k A 85 85 ty 91 w.heap.size (m * 5) (xs.length + 1 - m) dc ⟨vb, voff, none⟩ 1 sc 5 ROW 91 (flat .item ys) tL hszk hAN
        (by rw [hyl, show Nat.min 1 (xs.length + 1 - m) = 1 from Nat.min_eq_left (by omega)]) (fun q v hq => by
          rw [add_addr, cell_row ((hAo vb hvN).trans hvheap)]
          exact lies_flat.1 hvlies q v hq) (by rw [hyl, hRs]; omega) (flat_one _ _)
    have hg1 : (A.setRow w.heap.size row1).drew.heap[w.heap.size]? = some (.cells row1 91 (0, 0)) := setRow_heap A w.heap.size ROW row1 91 (0, 0) hAN
    have hcpB : ∀ ty dc sc, (Builtin.copy_ #[85, 85] ty #[.slice (some ⟨w.heap.size, (m + 1) * 5, none⟩) (xs.length - m) dc, .slice (some ⟨b, off + m * 5, none⟩) (xs.length - m) sc]).run Tryz.prog (A.setRow w.heap.size row1).drew = .ok (goInt (Nat.min (xs.length - m) (xs.length - m))) ((A.setRow w.heap.size row1).drew.setRow w.heap.size row2) := fun ty dc sc => by
      rw [hrow2]
      exact run_copy_row_k (A.setRow w.heap.size row1).drew 85 85 ty 91 w.heap.size ((m + 1) * 5) (xs.length - m) dc ⟨b, off + m * 5, none⟩ (xs.length - m) sc 5 row1 91 (flat .item (xs.drop m)) tL hszk hg1
        (by rw [hxl]; congr 1; exact (Nat.min_self _).symm) (fun q v hq => by
          have : (A.setRow w.heap.size row1).drew.heap[b]? = some (.cells vs E (0, 0)) := by
            have := setRow_other A w.heap.size b row1 (by omega)
            exact this.trans ((hAo b hbN).trans hheap)
          rw [add_addr, cell_row this]
          exact hxc q v hq) (by rw [hxl, hs1, hRs]; omega) (flat_one _ _)
    have hw := insItems_grow b off xs.length (env 0).2 m vb voff (env 1).2 w.heap.size G _ _ w A _ _ hlt l0 (by omega) hG hx hrz hcpA hcpB
    refine hw.mono ?_
    rintro e W ⟨rfl, rfl⟩
    have hAsz : A.heap.size = w.heap.size + 1 := by rw [hA]; exact Array.size_push _
    have := over_new (w' := (A.setRow w.heap.size row1).drew.setRow w.heap.size row2) hh c0 c2 hnew (gc := G) (row := row2)
      (fun y hy => by
        have e1 := setRow_other (A.setRow w.heap.size row1).drew w.heap.size y row2 (by omega)
        have e2 := setRow_other A w.heap.size y row1 (by omega)
        exact e1.trans (e2.trans (hAo y hy)))
      (setRow_heap _ w.heap.size row1 row2 91 (0, 0) hg1) (by change G * 5 ≤ row2.size; omega) (by rw [hzl]; exact hG) hlies2 (by rw [hA]; rfl) (by rw [hA]; rfl) (by rw [hA]; rfl) (by rw [size_setRow, drew_heap, size_setRow, hAsz]; omega)
    rw [hov3] at this
    exact fin this.2.1 this.2.2
theorem ok_insItems : FsOk Tryz.prog 139 fs_insItems := by
  refine ⟨fun w args => run_callFunc Tryz.func139 (by kernel_rfl) (by kernel_rfl) w args, ?_⟩
  intro args L p r L' h hp
  unfold fs_insItems at h
  dsimp only at h
  split at h
  case h_2 => cases h
  rename_i i xs ys
  simp only [Option.some.injEq, Prod.mk.injEq] at h
  obtain ⟨rfl, rfl, rfl⟩ := h
  obtain ⟨h0, h1, h2, h3⟩ := hp _ rfl
  exact sem_insItems h0 h1 h2 h3

end Go.Proofs.YtdhbkcaaijgocaaGreat.Sym

namespace Go.Proofs.YtdhbkcaaijgocaaGreat.Sym
open Go
set_option linter.unusedVariables false
set_option linter.unusedSimpArgs false
set_option maxRecDepth 100000

theorem wrap_u64 {n : Int} (h1 : 0 ≤ n) (h2 : n ≤ 9223372036854775807) : IntKind.u64.wrap n = n := by
  have : IntKind.u64.wrap n = n % 18446744073709551616 := rfl
  rw [this]
  omega
noncomputable def fs_cmpId : Fs := ⟨[], fun args H => match args, H with
  | [.agg [.int .i64 xI, .int .i64 xLX, .int .i64 xLY, .int .i64 xHX, .int .i64 xHY], .int .i64 id], [] => some (none, .int .i64 (W ((Item.mk xI (Box.mk (Vec.mk xLX xLY) (Vec.mk xHX xHY))).Id - id)), [])
  | _, _ => none⟩

theorem vc_cmpId (xI : Int) (xLX : Int) (xLY : Int) (xHX : Int) (xHY : Int) (id : Int) (Q : SV → List Ent → Prop) :
    fnVC tt (look []) L0 Tryz.f199 [.agg [.int .i64 xI, .int .i64 xLX, .int .i64 xLY, .int .i64 xHX, .int .i64 xHY], .int .i64 id] [] Q =
    (Q (SV.int IntKind.i64 (IntKind.wrap IntKind.i64 (xI - id))) []) := by kernel_rfl

theorem ok_cmpId : FsOk Tryz.prog 199 fs_cmpId := fsOk_of tt_ok tabFs_nil mixed Tryz.func199 (by kernel_rfl) (by kernel_rfl) (by
    intro args LL p r HH h hp
    unfold fs_cmpId at h
    dsimp only at h
    split at h
    case h_2 => cases h
    rename_i xI xLX xLY xHX xHY id
    simp only [Option.some.injEq, Prod.mk.injEq] at h
    obtain ⟨rfl, rfl, rfl⟩ := h
    refine ⟨by simp [Form, stays], L0, ?_⟩
    rw [vc_cmpId]
    try dsimp only
    exact ⟨rfl, rfl⟩)

def LSbsItems  : LS where
  S := List Item × Unit × Int × Unit × Int × Int × Int
  live := [(0, [none]), (1, [none]), (2, [none]), (8, [none]), (9, [none]), (10, [none])]
  shape := fun s => ([.vec 0, .int .i64 s.2.2.1, .fn 199 none, .int .i64 s.2.2.2.2.1, .int .i64 s.2.2.2.2.2.1, .int .i64 s.2.2.2.2.2.2], [(false, .vec .item s.1)])
  get := fun v h => match v, h with
    | [.vec 0, .int .i64 id, .fn 199 none, .int .i64 n, .int .i64 i, .int .i64 j], [(false, .vec .item xs)] => some (xs, (), id, (), n, i, j)
    | _, _ => none
  inv := fun s0 s => Holds (s.1 = s0.1 ∧ s.2.2.1 = s0.2.2.1 ∧ s.2.2.2.2.1 = s0.1.length ∧ 0 ≤ s.2.2.2.2.2.1 ∧ s.2.2.2.2.2.1 ≤ s.2.2.2.2.2.2 ∧ s.2.2.2.2.2.2 ≤ s0.1.length ∧ (∀ e, e < s.2.2.2.2.2.1.toNat → (Ty.ix .item s0.1 e).Id < s0.2.2.1) ∧ (∀ e, s.2.2.2.2.2.2.toNat ≤ e → e < s0.1.length → s0.2.2.1 ≤ (Ty.ix .item s0.1 e).Id))
  mu := fun s => (s.2.2.2.2.2.2 - s.2.2.2.2.2.1).toNat
  ok := by
    intro v h s hg
    try dsimp only at hg
    split at hg <;> cases hg
    rfl

def L_bsItems : Loops := fun n => match n with
  | 3 => some LSbsItems
  | _ => none
noncomputable def fs_bsItems : Fs := ⟨[], fun args H => match args, H with
  | [.vec 0, .int .i64 id, .fn 199 none], [(false, .vec .item xs)] => some ((some (itemsOk xs = true ∧ 0 ≤ id ∧ id ≤ 1000000000)), .tup [.int .i64 (atI xs id), .bool (hasI xs id)], [(false, .vec .item xs)])
  | _, _ => none⟩

theorem vc_bsItems (id : Int) (xs : List Item) (Q : SV → List Ent → Prop) :
    fnVC tt (look [(199, fs_cmpId)]) (L_bsItems) Tryz.f198 [.vec 0, .int .i64 id, .fn 199 none] [(false, .vec .item xs)] Q =
    (let w_ := IntKind.wrap IntKind.i64; let n_ := Int.toNat; let im_ := Ty.ix Ty.item; Holds (xs = xs ∧ id = id ∧ (↑(List.length xs) : Int) = (↑(List.length xs) : Int) ∧ (0 : Int) ≤ (0 : Int) ∧ (0 : Int) ≤ (↑(List.length xs) : Int) ∧ (↑(List.length xs) : Int) ≤ (↑(List.length xs) : Int) ∧ (∀ (e : Nat), e < n_ (0 : Int) → Item.Id (im_ xs e) < id) ∧ ∀ (e : Nat), n_ (↑(List.length xs) : Int) ≤ e → e < List.length xs → id ≤ Item.Id (im_ xs e)) ∧ ∀ (y1 : List Item × Unit × Int × Unit × Int × Int × Int), let y1f0_ := Prod.fst y1; let y1f2_ := Prod.fst (Prod.snd (Prod.snd y1)); let y1f4_ := Prod.fst (Prod.snd (Prod.snd (Prod.snd (Prod.snd y1)))); let y1s5_ := Prod.snd (Prod.snd (Prod.snd (Prod.snd (Prod.snd y1)))); let y1f5_ := Prod.fst (Prod.snd (Prod.snd (Prod.snd (Prod.snd (Prod.snd y1))))); let y1s6_ := Prod.snd (Prod.snd (Prod.snd (Prod.snd (Prod.snd (Prod.snd y1))))); let A4_ := (↑(List.length xs) : Int); let A2_ := (Int.fdiv (IntKind.wrap IntKind.u64 (w_ (Prod.fst y1s5_ + y1s6_))) (2 : Int)); let A3_ := (w_ A2_ + (1 : Int)); Holds (Prod.fst y1 = xs ∧ y1f2_ = id ∧ y1f4_ = A4_ ∧ (0 : Int) ≤ y1f5_ ∧ y1f5_ ≤ y1s6_ ∧ y1s6_ ≤ A4_ ∧ (∀ (e : Nat), e < n_ y1f5_ → Item.Id (im_ xs e) < id) ∧ ∀ (e : Nat), n_ y1s6_ ≤ e → e < List.length xs → id ≤ Item.Id (im_ xs e)) → ifB (decide (Prod.fst y1s5_ < y1s6_)) (((0 : Int) ≤ w_ A2_ ∧ w_ A2_ < (↑(List.length y1f0_) : Int)) ∧ ifB (decide (W (Item.Id (im_ y1f0_ (n_ (w_ A2_))) - y1f2_) < (0 : Int))) (Holds (Prod.fst y1 = xs ∧ y1f2_ = id ∧ y1f4_ = A4_ ∧ (0 : Int) ≤ w_ A3_ ∧ w_ A3_ ≤ y1s6_ ∧ y1s6_ ≤ A4_ ∧ (∀ (e : Nat), e < n_ (w_ A3_) → Item.Id (im_ xs e) < id) ∧ ∀ (e : Nat), n_ y1s6_ ≤ e → e < List.length xs → id ≤ Item.Id (im_ xs e)) ∧ n_ (Prod.snd y1s5_ - w_ A3_) < n_ (Prod.snd y1s5_ - y1f5_)) (Holds (Prod.fst y1 = xs ∧ y1f2_ = id ∧ y1f4_ = A4_ ∧ (0 : Int) ≤ y1f5_ ∧ y1f5_ ≤ w_ A2_ ∧ w_ A2_ ≤ A4_ ∧ (∀ (e : Nat), e < n_ y1f5_ → Item.Id (im_ xs e) < id) ∧ ∀ (e : Nat), n_ (w_ A2_) ≤ e → e < List.length xs → id ≤ Item.Id (im_ xs e)) ∧ n_ (w_ A2_ - y1f5_) < n_ (Prod.snd y1s5_ - y1f5_))) (ifB (decide (Prod.fst y1s5_ < y1f4_)) (((0 : Int) ≤ y1f5_ ∧ y1f5_ < (↑(List.length y1f0_) : Int)) ∧ Q (SV.tup [SV.int IntKind.i64 y1f5_, SV.bool (W (Item.Id (im_ y1f0_ (n_ y1f5_)) - y1f2_) == (0 : Int))]) [(false, Blk.vec Ty.item y1f0_)]) (Q (SV.tup [SV.int IntKind.i64 y1f5_, SV.bool false]) [(false, Blk.vec Ty.item y1f0_)]))) := by kernel_rfl

theorem ok_bsItems : FsOk Tryz.prog 198 fs_bsItems := fsOk_of tt_ok (tabFs_cons ok_cmpId tabFs_nil) mixed Tryz.func198 (by kernel_rfl) (by kernel_rfl) (by
    intro args LL p r HH h hp
    unfold fs_bsItems at h
    dsimp only at h
    split at h
    case h_2 => cases h
    rename_i id xs
    simp only [Option.some.injEq, Prod.mk.injEq] at h
    obtain ⟨rfl, rfl, rfl⟩ := h
    refine ⟨by simp [Form, stays], (L_bsItems), ?_⟩
    rw [vc_bsItems]
    try dsimp only
    obtain ⟨hok, hi0, hi1⟩ := hp _ rfl
    have hl := itemsOk_len hok
    refine ⟨⟨(by trivial), (by trivial), (by trivial), by omega, by omega, by omega, fun e he => absurd he (by simp), fun e he he2 => by omega⟩, ?_⟩
    rintro ⟨xs', u, id', f, n, i, j⟩ ⟨h⟩
    dsimp only at h ⊢
    obtain ⟨rfl, rfl, rfl, h0, h1, h2, h3, h4⟩ := h
    have hid : ∀ e, e < xs'.length → 0 ≤ (Ty.ix .item xs' e).Id ∧ (Ty.ix .item xs' e).Id ≤ 1000000000 := fun e he => by
      have := (itemsOk_iff.1 hok).2.1 e he
      simp only [itemOk, isIn, Bool.and_eq_true, decide_eq_true_eq] at this
      exact this.1
    have w1 : IntKind.i64.wrap (i + j) = i + j := wrap_small (by omega) (by omega)
    have w2 : IntKind.u64.wrap (i + j) = i + j := wrap_u64 (by omega) (by omega)
    have w3 : (i + j).fdiv 2 = (i + j) / 2 := Int.fdiv_eq_ediv_of_nonneg _ (by omega)
    have w4 : IntKind.i64.wrap ((i + j) / 2) = (i + j) / 2 := wrap_small (by omega) (by omega)
    have w5 : IntKind.i64.wrap ((i + j) / 2 + 1) = (i + j) / 2 + 1 := wrap_small (by omega) (by omega)
    simp only [w1, w2, w3, w4, w5]
    refine ifB_of (fun c => ?_) (fun c => ?_)
    · have c := of_decide_eq_true c
      have hm : ((i + j) / 2).toNat < xs'.length := by omega
      have hb := hid _ hm
      have w6 : W ((Ty.ix .item xs' ((i + j) / 2).toNat).Id - id') = (Ty.ix .item xs' ((i + j) / 2).toNat).Id - id' := wrap_small (by omega) (by omega)
      refine ⟨⟨by omega, by omega⟩, ifB_of (fun c2 => ?_) (fun c2 => ?_)⟩
      · have c2 := of_decide_eq_true c2
        rw [w6] at c2
        refine ⟨⟨(by trivial), (by trivial), (by trivial), by omega, by omega, by omega, fun e he => ?_, h4⟩, by omega⟩
        by_cases q : e = ((i + j) / 2).toNat
        · rw [q]; omega
        · have := items_lt hok (a := e) (b := ((i + j) / 2).toNat) (by omega) hm
          omega
      · have c2 := of_decide_eq_false c2
        rw [w6] at c2
        refine ⟨⟨(by trivial), (by trivial), (by trivial), by omega, by omega, by omega, h3, fun e he he2 => ?_⟩, by omega⟩
        by_cases q : e = ((i + j) / 2).toNat
        · rw [q]; omega
        · have := items_lt hok (a := ((i + j) / 2).toNat) (b := e) (by omega) he2
          omega
    · have c := of_decide_eq_false c
      have e : i = j := by omega
      subst e
      have hk : atI xs' id' = i.toNat := pref_eq (T := .item) (by omega) (fun e he => decide_eq_true (h3 e he)) (fun hlt => decide_eq_false (by have := h4 i.toNat (by omega) hlt; omega))
      refine ifB_of (fun c2 => ⟨⟨by omega, of_decide_eq_true c2⟩, ?_⟩) (fun c2 => ?_)
      · have c2 := of_decide_eq_true c2
        have hm : i.toNat < xs'.length := by omega
        have hb := hid _ hm
        have w6 : W ((Ty.ix .item xs' i.toNat).Id - id') = (Ty.ix .item xs' i.toNat).Id - id' := wrap_small (by omega) (by omega)
        unfold hasI
        rw [hk, w6]
        have e1 : ((i.toNat : Nat) : Int) = i := by omega
        have e2 : ((Ty.ix .item xs' i.toNat).Id - id' == 0) = ((Ty.ix .item xs' i.toNat).Id == id') := by
          rw [Bool.eq_iff_iff]
          simp only [beq_iff_eq]
          omega
        rw [e1, e2]
        simp [hm]
      · have c2 := of_decide_eq_false c2
        unfold hasI
        rw [hk]
        have e1 : ((i.toNat : Nat) : Int) = i := by omega
        rw [e1]
        simp [show ¬ i.toNat < xs'.length by omega])

noncomputable def fs_findId : Fs := ⟨[], fun args H => match args, H with
  | [.agg [.vec 0], .int .i64 id], [(false, .vec .item xs)] => some ((some (itemsOk xs = true ∧ 0 ≤ id ∧ id ≤ 1000000000)), .tup [.int .i64 (atI xs id), .bool (hasI xs id)], [(false, .vec .item xs)])
  | _, _ => none⟩

theorem vc_findId (id : Int) (xs : List Item) (Q : SV → List Ent → Prop) :
    fnVC tt (look [(198, fs_bsItems)]) L0 Tryz.f138 [.agg [.vec 0], .int .i64 id] [(false, .vec .item xs)] Q =
    ((itemsOk xs = true ∧ (0 : Int) ≤ id ∧ id ≤ (1000000000 : Int)) ∧ Q (SV.tup [SV.int IntKind.i64 (↑(atI xs id) : Int), SV.bool (hasI xs id)]) [(false, Blk.vec Ty.item xs)]) := by kernel_rfl

theorem ok_findId : FsOk Tryz.prog 138 fs_findId := fsOk_of tt_ok (tabFs_cons ok_bsItems tabFs_nil) mixed Tryz.func138 (by kernel_rfl) (by kernel_rfl) (by
    intro args LL p r HH h hp
    unfold fs_findId at h
    dsimp only at h
    split at h
    case h_2 => cases h
    rename_i id xs
    simp only [Option.some.injEq, Prod.mk.injEq] at h
    obtain ⟨rfl, rfl, rfl⟩ := h
    refine ⟨by simp [Form, stays], L0, ?_⟩
    rw [vc_findId]
    try dsimp only
    exact ⟨hp _ rfl, rfl, rfl⟩)

noncomputable def fs_implBroadPut : Fs := ⟨[], fun args H => match args, H with
  | [.agg [.vec 0], .agg [.int .i64 i, .int .i64 a, .int .i64 b, .int .i64 c, .int .i64 d]], [(false, .vec .item xs)] => some ((some (xs.length ≤ 1048576)), .tup [.agg [.vec 1], .bool (putF xs ⟨i, ⟨⟨a, b⟩, ⟨c, d⟩⟩⟩).2], [(false, .vec .item xs), (true, .vec .item (putF xs ⟨i, ⟨⟨a, b⟩, ⟨c, d⟩⟩⟩).1)])
  | _, _ => none⟩

theorem vc_implBroadPut (i : Int) (a : Int) (b : Int) (c : Int) (d : Int) (xs : List Item) (Q : SV → List Ent → Prop) :
    fnVC tt (look [(135, fs_implBroadOk), (136, fs_cloneItems), (137, fs_implItemOk), (138, fs_findId), (139, fs_insItems)]) L0 Tryz.f59 [.agg [.vec 0], .agg [.int .i64 i, .int .i64 a, .int .i64 b, .int .i64 c, .int .i64 d]] [(false, .vec .item xs)] Q =
    (List.length xs ≤ (1048576 : Nat) ∧ ifB (!itemsOk xs) (Q (SV.tup [SV.agg [SV.vec (1 : Nat)], SV.bool false]) [(false, Blk.vec Ty.item xs), (true, Blk.vec Ty.item [])]) (List.length xs ≤ (1048576 : Nat) ∧ ifB (!itemOk (Item.mk i (Box.mk (Vec.mk a b) (Vec.mk c d)))) (Q (SV.tup [SV.agg [SV.vec (1 : Nat)], SV.bool false]) [(false, Blk.vec Ty.item xs), (true, Blk.vec Ty.item xs)]) ((itemsOk xs = true ∧ (0 : Int) ≤ i ∧ i ≤ (1000000000 : Int)) ∧ ifB (hasI xs i) (((0 : Int) ≤ (↑(atI xs i) : Int) ∧ (↑(atI xs i) : Int) < (↑(List.length xs) : Int)) ∧ Q (SV.tup [SV.agg [SV.vec (1 : Nat)], SV.bool true]) [(false, Blk.vec Ty.item xs), (true, Blk.vec Ty.item (List.set xs (Int.toNat (↑(atI xs i) : Int)) (Item.mk i (Box.mk (Vec.mk a b) (Vec.mk c d)))))]) (ifB ((↑(List.length xs) : Int) == (24 : Int)) (Q (SV.tup [SV.agg [SV.vec (1 : Nat)], SV.bool false]) [(false, Blk.vec Ty.item xs), (true, Blk.vec Ty.item xs)]) (((0 : Int) ≤ (↑(atI xs i) : Int) ∧ (↑(atI xs i) : Int) ≤ (↑(List.length xs) : Int) ∧ List.length [Item.mk i (Box.mk (Vec.mk a b) (Vec.mk c d))] = (1 : Nat) ∧ List.length xs ≤ (1048576 : Nat)) ∧ Q (SV.tup [SV.agg [SV.vec (1 : Nat)], SV.bool true]) [(false, Blk.vec Ty.item xs), (true, Blk.vec Ty.item (insL_Items xs (Int.toNat (↑(atI xs i) : Int)) [Item.mk i (Box.mk (Vec.mk a b) (Vec.mk c d))]))]))))) := by kernel_rfl

theorem ok_implBroadPut : FsOk Tryz.prog 59 fs_implBroadPut := fsOk_of tt_ok (tabFs_cons ok_implBroadOk (tabFs_cons ok_cloneItems (tabFs_cons ok_implItemOk (tabFs_cons ok_findId (tabFs_cons ok_insItems tabFs_nil))))) mixed Tryz.func59 (by kernel_rfl) (by kernel_rfl) (by
    intro args LL p r HH h hp
    unfold fs_implBroadPut at h
    dsimp only at h
    split at h
    case h_2 => cases h
    rename_i i a b c d xs
    simp only [Option.some.injEq, Prod.mk.injEq] at h
    obtain ⟨rfl, rfl, rfl⟩ := h
    refine ⟨by simp [Form, stays], L0, ?_⟩
    rw [vc_implBroadPut]
    try dsimp only
    have hb := hp _ rfl
    have hk := atI_le xs i
    refine ⟨hb, ifB_of (fun c1 => ?_) (fun c1 => ⟨hb, ifB_of (fun c2 => ?_) (fun c2 => ?_)⟩)⟩
    · simp [putF, not_true c1]
    · simp [putF, not_false c1, not_true c2]
    have c2' := not_false c2
    have hid : 0 ≤ i ∧ i ≤ 1000000000 := by
      simp only [itemOk, isIn, Bool.and_eq_true, decide_eq_true_eq] at c2'
      exact c2'.1
    refine ⟨⟨not_false c1, hid⟩, ifB_of (fun c4 => ?_) (fun c4 => ifB_of (fun c5 => ?_) (fun c5 => ?_))⟩
    · have := hasI_lt c4
      refine ⟨⟨by omega, by omega⟩, ?_⟩
      simp [putF, not_false c1, not_false c2, c4]
    · have c5 : (xs.length : Int) = 24 := by simpa using c5
      simp [putF, not_false c1, not_false c2, c4, show xs.length ≥ 24 by omega]
    · have c5 : ¬ (xs.length : Int) = 24 := by simpa using c5
      have := itemsOk_len (not_false c1)
      refine ⟨⟨by omega, by omega, rfl, hb⟩, ?_⟩
      simp [putF, insI, insL_Items, not_false c1, not_false c2, c4, show ¬ xs.length ≥ 24 by omega])

end Go.Proofs.YtdhbkcaaijgocaaGreat.Sym

namespace Go.Proofs.YtdhbkcaaijgocaaGreat.Sym
open Go
set_option linter.unusedVariables false
set_option linter.unusedSimpArgs false
set_option maxRecDepth 100000

def rayBoxP (z : Ray × Box) : Prop := wayP z.1
instance : Nonempty {x : Ray × Box // rayBoxP x} := ⟨⟨(⟨⟨0, 0⟩, ⟨0, 0⟩⟩, ⟨⟨0, 0⟩, ⟨0, 0⟩⟩), by simp [rayBoxP, wayP, placeA]⟩⟩
end Go.Proofs.YtdhbkcaaijgocaaGreat.Sym

namespace Go.Proofs.YtdhbkcaaijgocaaGreat.Sym
open Go
set_option linter.unusedVariables false
set_option linter.unusedSimpArgs false
set_option maxRecDepth 100000

def shapeBounds (s : Shape) (p : Vec) : Box := bif shapeOk s && placeOk p then bounds s p else ⟨⟨0, 0⟩, ⟨0, 0⟩⟩
noncomputable def fs_implShapeBounds : Fs := ⟨[], fun args H => match args, H with
  | [.agg [.int .i64 sK, .int .i64 sW, .int .i64 sH], .agg [.int .i64 pX, .int .i64 pY]], [] => some (none, .agg [.int .i64 (shapeBounds (Shape.mk sK sW sH) (Vec.mk pX pY)).Low.X, .int .i64 (shapeBounds (Shape.mk sK sW sH) (Vec.mk pX pY)).Low.Y, .int .i64 (shapeBounds (Shape.mk sK sW sH) (Vec.mk pX pY)).High.X, .int .i64 (shapeBounds (Shape.mk sK sW sH) (Vec.mk pX pY)).High.Y], [])
  | _, _ => none⟩

theorem vc_implShapeBounds (sK : Int) (sW : Int) (sH : Int) (pX : Int) (pY : Int) (Q : SV → List Ent → Prop) :
    fnVC tt (look [(126, fs_implShapeOk), (127, fs_isPlace), (119, fs_implBounds)]) L0 Tryz.f49 [.agg [.int .i64 sK, .int .i64 sW, .int .i64 sH], .agg [.int .i64 pX, .int .i64 pY]] [] Q =
    (ifB (!shapeOk (Shape.mk sK sW sH)) (Q (SV.agg [SV.int IntKind.i64 (0 : Int), SV.int IntKind.i64 (0 : Int), SV.int IntKind.i64 (0 : Int), SV.int IntKind.i64 (0 : Int)]) []) (ifB (!placeOk (Vec.mk pX pY)) (Q (SV.agg [SV.int IntKind.i64 (0 : Int), SV.int IntKind.i64 (0 : Int), SV.int IntKind.i64 (0 : Int), SV.int IntKind.i64 (0 : Int)]) []) (Q (SV.agg [SV.int IntKind.i64 (Vec.X (Box.Low (bounds (Shape.mk sK sW sH) (Vec.mk pX pY)))), SV.int IntKind.i64 (Vec.Y (Box.Low (bounds (Shape.mk sK sW sH) (Vec.mk pX pY)))), SV.int IntKind.i64 (Vec.X (Box.High (bounds (Shape.mk sK sW sH) (Vec.mk pX pY)))), SV.int IntKind.i64 (Vec.Y (Box.High (bounds (Shape.mk sK sW sH) (Vec.mk pX pY))))]) []))) := by kernel_rfl

theorem ok_implShapeBounds : FsOk Tryz.prog 49 fs_implShapeBounds := fsOk_of tt_ok (tabFs_cons ok_implShapeOk (tabFs_cons ok_isPlace (tabFs_cons ok_implBounds tabFs_nil))) mixed Tryz.func49 (by kernel_rfl) (by kernel_rfl) (by
    intro args LL p r HH h hp
    unfold fs_implShapeBounds at h
    dsimp only at h
    split at h
    case h_2 => cases h
    rename_i sK sW sH pX pY
    simp only [Option.some.injEq, Prod.mk.injEq] at h
    obtain ⟨rfl, rfl, rfl⟩ := h
    refine ⟨by simp [Form, stays], L0, ?_⟩
    rw [vc_implShapeBounds]
    try dsimp only
    refine ifB_of (fun c => ?_) (fun c => ifB_of (fun c2 => ?_) (fun c2 => ?_))
    · simp [shapeBounds, not_true c]
    · simp [shapeBounds, not_true c2]
    · simp [shapeBounds, not_false c, not_false c2])

end Go.Proofs.YtdhbkcaaijgocaaGreat.Sym

namespace Go.Proofs.YtdhbkcaaijgocaaGreat.Sym
open Go
set_option linter.unusedVariables false
set_option linter.unusedSimpArgs false
set_option maxRecDepth 100000
noncomputable section

def LSlsp1  : LS where
  S := List Int × List Body × List Pair × List Item × Int
  live := [(3, [some .body]), (4, [some .pair]), (5, [some .item]), (6, [none])]
  shape := fun s => ([.vec 1, .vec 2, .ptr 4 0 0, .int .i64 s.2.2.2.2], [(false, .vec .byte s.1), (true, .vec .body s.2.1), (true, .vec .pair s.2.2.1), (true, .vec .item s.2.2.2.1), (true, .box [.vec 3])])
  get := fun v h => match v, h with
    | [.vec 1, .vec 2, .ptr 4 0 0, .int .i64 i], [(false, .vec .byte b), (true, .vec .body xs), (true, .vec .pair ps), (true, .vec .item z), (true, .box [.vec 3])] => some (b, xs, ps, z, i)
    | _, _ => none
  inv := fun s0 s => Holds (s.1 = s0.1 ∧ s.2.1 = s0.2.1 ∧ s.2.2.1 = s0.2.2.1 ∧ 0 ≤ s.2.2.2.2 ∧ s.2.2.2.2 ≤ s0.2.1.length ∧ s.2.2.2.1 = (s0.2.1.take s.2.2.2.2.toNat).map itemOf)
  mu := fun s => ((s.2.1.length : Int) - s.2.2.2.2).toNat
  ok := by
    intro v h s hg
    try dsimp only at hg
    split at hg <;> cases hg
    rfl

def LSlsp2  : LS where
  S := List Int × List Body × List Pair × List Pair × Int
  live := [(3, [some .body]), (4, [some .pair]), (9, [some .pair]), (10, [none])]
  shape := fun s => ([.vec 1, .vec 2, .vec 3, .int .i64 s.2.2.2.2], [(false, .vec .byte s.1), (true, .vec .body s.2.1), (true, .vec .pair s.2.2.1), (true, .vec .pair s.2.2.2.1)])
  get := fun v h => match v, h with
    | [.vec 1, .vec 2, .vec 3, .int .i64 i], [(false, .vec .byte b), (true, .vec .body xs), (true, .vec .pair ps), (true, .vec .pair near)] => some (b, xs, ps, near, i)
    | _, _ => none
  inv := fun s0 s => Holds (s.1 = s0.1 ∧ s.2.1 = s0.2.1 ∧ s.2.2.1 = s0.2.2.1 ∧ s.2.2.2.1 = s0.2.2.2.1 ∧ 0 ≤ s.2.2.2.2 ∧ s.2.2.2.2 ≤ s0.2.2.1.length)
  mu := fun s => ((s.2.2.1.length : Int) - s.2.2.2.2).toNat
  ok := by
    intro v h s hg
    try dsimp only at hg
    split at hg <;> cases hg
    rfl

def LSlsp3  : LS where
  S := List Int × List Body × List Pair × List Pair × Int × Bool × Int
  live := [(3, [some .body]), (4, [some .pair]), (9, [some .pair]), (10, [none]), (11, [none]), (12, [none])]
  shape := fun s => ([.vec 1, .vec 2, .vec 3, .int .i64 s.2.2.2.2.1, .bool s.2.2.2.2.2.1, .int .i64 s.2.2.2.2.2.2], [(false, .vec .byte s.1), (true, .vec .body s.2.1), (true, .vec .pair s.2.2.1), (true, .vec .pair s.2.2.2.1)])
  get := fun v h => match v, h with
    | [.vec 1, .vec 2, .vec 3, .int .i64 i, .bool found, .int .i64 k], [(false, .vec .byte b), (true, .vec .body xs), (true, .vec .pair ps), (true, .vec .pair near)] => some (b, xs, ps, near, i, found, k)
    | _, _ => none
  inv := fun s0 s => Holds (s.1 = s0.1 ∧ s.2.1 = s0.2.1 ∧ s.2.2.1 = s0.2.2.1 ∧ s.2.2.2.1 = s0.2.2.2.1 ∧ s.2.2.2.2.1 = s0.2.2.2.2.1 ∧ 0 ≤ s.2.2.2.2.2.2 ∧ s.2.2.2.2.2.2 ≤ s0.2.2.2.1.length ∧ (s.2.2.2.2.2.1 = false → ∀ j, j < s.2.2.2.2.2.2.toNat → Ty.ix .pair s0.2.2.2.1 j ≠ Ty.ix .pair s0.2.2.1 s0.2.2.2.2.1.toNat))
  mu := fun s => ((s.2.2.2.1.length : Int) - s.2.2.2.2.2.2).toNat
  ok := by
    intro v h s hg
    try dsimp only at hg
    split at hg <;> cases hg
    rfl

def L_lawStepPairs : Loops := fun n => match n with
  | 9 => some LSlsp1
  | 17 => some LSlsp2
  | 21 => some LSlsp3
  | _ => none
noncomputable def fs_lawStepPairs : Fs := ⟨[], fun args H => match args, H with
  | [.vec 0], [(false, .vec .byte b)] => some ((some (LOk .byte b)), .bool (true), [(false, .vec .byte b)])
  | _, _ => none⟩

theorem vc_lawStepPairs (b : List Int) (Q : SV → List Ent → Prop) :
    fnVC tt (look [(55, fs_DrawStepPairs), (56, fs_implStepPairs), (58, fs_specStepPairs), (57, fs_lawsPqPairs), (37, fs_specBodiesOk), (119, fs_implBounds), (49, fs_implShapeBounds), (59, fs_implBroadPut), (60, fs_implBroadPairs), (61, fs_implContacts)]) (L_lawStepPairs) Tryz.f10 [.vec 0] [(false, .vec .byte b)] Q =
    (let w_ := IntKind.wrap IntKind.i64; let n_ := Int.toNat; let ip_ := Ty.ix Ty.pair; let vy_ := Blk.vec Ty.byte; let A11_ := (Subtype.val (g_DrawStepPairs b)); ifB (decide ((↑(List.length b) : Int) > (1048576 : Int))) (Q (SV.bool true) [(false, vy_ b)]) (BytesOk b ∧ List.length A11_ ≤ (1048576 : Nat) ∧ List.length A11_ ≤ (1048576 : Nat) ∧ List.length (stepPairs A11_) ≤ (4611686018427387904 : Nat) ∧ ifB (!same (stepPairs A11_) (stepPairs A11_)) (List.length A11_ ≤ (1048576 : Nat) ∧ List.length (stepPairs A11_) ≤ (4611686018427387904 : Nat) ∧ Q (SV.bool (same (stepPairs A11_) (stepPairs A11_))) [(false, vy_ b)]) (List.length A11_ ≤ (4611686018427387904 : Nat) ∧ ifB (!bodiesOk A11_) (List.length A11_ ≤ (1048576 : Nat) ∧ List.length (stepPairs A11_) ≤ (4611686018427387904 : Nat) ∧ Q (SV.bool (same (stepPairs A11_) (stepPairs A11_))) [(false, vy_ b)]) (Holds (b = b ∧ Subtype.val (g_DrawStepPairs b) = Subtype.val (g_DrawStepPairs b) ∧ stepPairs A11_ = stepPairs A11_ ∧ (0 : Int) ≤ (0 : Int) ∧ (0 : Int) ≤ (↑(List.length A11_) : Int) ∧ [] = List.map itemOf (List.take (n_ (0 : Int)) A11_)) ∧ ∀ (y7 : List Int × List Body × List Pair × List Item × Int), let y7f0_ := Prod.fst y7; let y7s1_ := Prod.snd y7; let y7f1_ := Prod.fst (Prod.snd y7); let y7f2_ := Prod.fst (Prod.snd (Prod.snd y7)); let y7s3_ := Prod.snd (Prod.snd (Prod.snd y7)); let y7f3_ := Prod.fst (Prod.snd (Prod.snd (Prod.snd y7))); let y7s4_ := Prod.snd (Prod.snd (Prod.snd (Prod.snd y7))); let A10_ := (↑(List.length y7f1_) : Int); let A9_ := A11_; let A8_ := (putF y7f3_ (Item.mk (Body.Id (Ty.ix Ty.body y7f1_ (n_ y7s4_))) (shapeBounds (Body.Shape (Ty.ix Ty.body y7f1_ (n_ y7s4_))) (Body.At (Ty.ix Ty.body y7f1_ (n_ y7s4_)))))); Holds (Prod.fst y7 = b ∧ y7f1_ = Subtype.val (g_DrawStepPairs b) ∧ y7f2_ = stepPairs A9_ ∧ (0 : Int) ≤ y7s4_ ∧ y7s4_ ≤ (↑(List.length A9_) : Int) ∧ y7f3_ = List.map itemOf (List.take (n_ y7s4_) A9_)) → ifB (decide (Prod.snd y7s3_ < A10_)) (((0 : Int) ≤ y7s4_ ∧ y7s4_ < A10_) ∧ ((0 : Int) ≤ y7s4_ ∧ y7s4_ < A10_) ∧ ((0 : Int) ≤ y7s4_ ∧ y7s4_ < A10_) ∧ List.length y7f3_ ≤ (1048576 : Nat) ∧ ifB (!Prod.snd A8_) (Q (SV.bool false) [(false, vy_ y7f0_)]) (Holds (Prod.fst y7 = b ∧ y7f1_ = Subtype.val (g_DrawStepPairs b) ∧ y7f2_ = stepPairs A9_ ∧ (0 : Int) ≤ w_ (Prod.snd y7s3_ + (1 : Int)) ∧ w_ (Prod.snd y7s3_ + (1 : Int)) ≤ (↑(List.length A9_) : Int) ∧ Prod.fst A8_ = List.map itemOf (List.take (n_ (w_ (Prod.snd y7s3_ + (1 : Int)))) A9_)) ∧ n_ (A10_ - w_ (Prod.snd y7s3_ + (1 : Int))) < n_ (A10_ - y7s4_))) (List.length y7f3_ ≤ (1048576 : Nat) ∧ Holds (Prod.fst y7 = y7f0_ ∧ y7f1_ = y7f1_ ∧ y7f2_ = y7f2_ ∧ broadPairs y7f3_ = broadPairs y7f3_ ∧ (0 : Int) ≤ (0 : Int) ∧ (0 : Int) ≤ (↑(List.length y7f2_) : Int)) ∧ ∀ (y6 : List Int × List Body × List Pair × List Pair × Int), let y6f0_ := Prod.fst y6; let y6f1_ := Prod.fst (Prod.snd y6); let y6f2_ := Prod.fst (Prod.snd (Prod.snd y6)); let y6f3_ := Prod.fst (Prod.snd (Prod.snd (Prod.snd y6))); let y6s4_ := Prod.snd (Prod.snd (Prod.snd (Prod.snd y6))); Holds (Prod.fst y6 = y7f0_ ∧ y6f1_ = y7f1_ ∧ y6f2_ = y7f2_ ∧ y6f3_ = broadPairs y7f3_ ∧ (0 : Int) ≤ y6s4_ ∧ y6s4_ ≤ (↑(List.length y7f2_) : Int)) → ifB (decide (Prod.snd (Prod.snd (Prod.snd (Prod.snd y6))) < (↑(List.length y6f2_) : Int))) (Holds (Prod.fst y6 = y6f0_ ∧ y6f1_ = y6f1_ ∧ y6f2_ = y6f2_ ∧ y6f3_ = y6f3_ ∧ y6s4_ = y6s4_ ∧ (0 : Int) ≤ (0 : Int) ∧ (0 : Int) ≤ (↑(List.length y6f3_) : Int) ∧ (false = false → ∀ (j : Nat), j < n_ (0 : Int) → ip_ y6f3_ j ≠ ip_ y6f2_ (n_ y6s4_))) ∧ ∀ (y1 : List Int × List Body × List Pair × List Pair × Int × Bool × Int), let y1f0_ := Prod.fst y1; let y1s1_ := Prod.snd y1; let y1f1_ := Prod.fst (Prod.snd y1); let y1f2_ := Prod.fst (Prod.snd (Prod.snd y1)); let y1f3_ := Prod.fst (Prod.snd (Prod.snd (Prod.snd y1))); let y1s4_ := Prod.snd (Prod.snd (Prod.snd (Prod.snd y1))); let y1f4_ := Prod.fst (Prod.snd (Prod.snd (Prod.snd (Prod.snd y1)))); let y1s5_ := Prod.snd (Prod.snd (Prod.snd (Prod.snd (Prod.snd y1)))); let y1f5_ := Prod.fst (Prod.snd (Prod.snd (Prod.snd (Prod.snd (Prod.snd y1))))); let y1s6_ := Prod.snd (Prod.snd (Prod.snd (Prod.snd (Prod.snd (Prod.snd y1))))); let A5_ := (↑(List.length y1f3_) : Int); let A4_ := (Prod.snd (Prod.snd y6)); let A3_ := (Prod.snd y1s5_ + (1 : Int)); let A2_ := (Prod.snd A4_); Holds (Prod.fst y1 = y6f0_ ∧ y1f1_ = y6f1_ ∧ y1f2_ = Prod.fst A4_ ∧ y1f3_ = Prod.fst A2_ ∧ y1f4_ = Prod.snd A2_ ∧ (0 : Int) ≤ y1s6_ ∧ y1s6_ ≤ (↑(List.length (Prod.fst A2_)) : Int) ∧ (Prod.fst y1s5_ = false → ∀ (j : Nat), j < n_ y1s6_ → ip_ (Prod.fst A2_) j ≠ ip_ (Prod.fst A4_) (n_ (Prod.snd A2_)))) → ifB (decide (Prod.snd y1s5_ < A5_)) (ifB y1f5_ (Holds (Prod.fst y1 = y6f0_ ∧ y1f1_ = y6f1_ ∧ y1f2_ = Prod.fst A4_ ∧ y1f3_ = Prod.fst A2_ ∧ y1f4_ = Prod.snd A2_ ∧ (0 : Int) ≤ w_ A3_ ∧ w_ A3_ ≤ (↑(List.length (Prod.fst A2_)) : Int) ∧ (true = false → ∀ (j : Nat), j < n_ (w_ A3_) → ip_ (Prod.fst A2_) j ≠ ip_ (Prod.fst A4_) (n_ (Prod.snd A2_)))) ∧ n_ (A5_ - w_ A3_) < n_ (A5_ - y1s6_)) (((0 : Int) ≤ y1s6_ ∧ y1s6_ < A5_) ∧ ((0 : Int) ≤ y1f4_ ∧ y1f4_ < (↑(List.length y1f2_) : Int)) ∧ Holds (Prod.fst y1 = y6f0_ ∧ y1f1_ = y6f1_ ∧ y1f2_ = Prod.fst A4_ ∧ y1f3_ = Prod.fst A2_ ∧ y1f4_ = Prod.snd A2_ ∧ (0 : Int) ≤ w_ A3_ ∧ w_ A3_ ≤ (↑(List.length (Prod.fst A2_)) : Int) ∧ ((Pair.A (ip_ y1f3_ (n_ y1s6_)) == Pair.A (ip_ y1f2_ (n_ y1f4_)) && Pair.B (ip_ y1f3_ (n_ y1s6_)) == Pair.B (ip_ y1f2_ (n_ y1f4_))) = false → ∀ (j : Nat), j < n_ (w_ A3_) → ip_ (Prod.fst A2_) j ≠ ip_ (Prod.fst A4_) (n_ (Prod.snd A2_)))) ∧ n_ (A5_ - w_ A3_) < n_ (A5_ - y1s6_))) (ifB (!y1f5_) (Q (SV.bool false) [(false, vy_ y1f0_)]) (Holds (Prod.fst y1 = y7f0_ ∧ y1f1_ = y7f1_ ∧ y1f2_ = y7f2_ ∧ y1f3_ = broadPairs y7f3_ ∧ (0 : Int) ≤ w_ (Prod.fst y1s4_ + (1 : Int)) ∧ w_ (Prod.fst y1s4_ + (1 : Int)) ≤ (↑(List.length y7f2_) : Int)) ∧ n_ ((↑(List.length y1f2_) : Int) - w_ (Prod.fst y1s4_ + (1 : Int))) < n_ ((↑(List.length (Prod.fst A4_)) : Int) - Prod.snd A2_)))) (List.length y6f1_ ≤ (1048576 : Nat) ∧ Q (SV.bool ((↑(List.length y6f2_) : Int) == (↑(List.length (contactsOf y6f1_)) : Int))) [(false, vy_ y6f0_)])))))) := by kernel_rfl

theorem ok_lawStepPairs : FsOk Tryz.prog 10 fs_lawStepPairs := fsOk_of tt_ok (tabFs_cons ok_DrawStepPairs (tabFs_cons ok_implStepPairs (tabFs_cons ok_specStepPairs (tabFs_cons ok_lawsPqPairs (tabFs_cons ok_specBodiesOk (tabFs_cons ok_implBounds (tabFs_cons ok_implShapeBounds (tabFs_cons ok_implBroadPut (tabFs_cons ok_implBroadPairs (tabFs_cons ok_implContacts tabFs_nil)))))))))) mixed Tryz.func10 (by kernel_rfl) (by kernel_rfl) (by
    intro args LL p r HH h hp
    unfold fs_lawStepPairs at h
    dsimp only at h
    split at h
    case h_2 => cases h
    rename_i b
    simp only [Option.some.injEq, Prod.mk.injEq] at h
    obtain ⟨rfl, rfl, rfl⟩ := h
    refine ⟨by simp [Form, stays], (L_lawStepPairs), ?_⟩
    rw [vc_lawStepPairs]
    try dsimp only
    have hb := bytesOk_of (hp _ rfl)
    refine ifB_of (fun c => ⟨rfl, rfl⟩) (fun c => ⟨hb, ?_⟩)
    generalize g_DrawStepPairs b = z
    obtain ⟨xs, h1⟩ := z
    simp only [bodiesP] at h1
    dsimp only at h1 ⊢
    have g1 := length_stepPairs xs
    simp only [same_self, Bool.not_true, ifBt, ifBf]
    refine ⟨by omega, by omega, by omega, by omega, ifB_of (fun d => ⟨by omega, by omega, (by trivial), (by trivial)⟩) (fun d => ⟨⟨(by trivial), (by trivial), (by trivial), by omega, by omega, rfl⟩, ?_⟩)⟩
    have hok := not_false d
    have hl := bodiesOk_len hok
    rintro ⟨b', xs', ps, z, i⟩ ⟨h⟩
    dsimp only at h ⊢
    obtain ⟨rfl, rfl, rfl, i0, i1, rfl⟩ := h
    have hlen : ((xs'.take i.toNat).map itemOf).length ≤ 1048576 := by
      rw [List.length_map, List.length_take]
      omega
    refine ifB_of (fun c1 => ?_) (fun c1 => ?_)
    · have cc := of_decide_eq_true c1
      have hi : i.toNat < xs'.length := by omega
      have e1 : (i + 1).toNat = i.toNat + 1 := by omega
      have w : IntKind.i64.wrap (i + 1) = i + 1 := wrap_small (by omega) (by omega)
      have hB := bok_iff.1 (bodiesOk_each hok hi)
      have hsb : shapeBounds (Ty.ix .body xs' i.toNat).Shape (Ty.ix .body xs' i.toNat).At = bounds (Ty.ix .body xs' i.toNat).Shape (Ty.ix .body xs' i.toNat).At := by
        unfold shapeBounds
        rw [hB.2.1, placeOk_V hB.2.2.1]
        rfl
      have hput : putF ((xs'.take i.toNat).map itemOf) (Item.mk (Ty.ix .body xs' i.toNat).Id (bounds (Ty.ix .body xs' i.toNat).Shape (Ty.ix .body xs' i.toNat).At)) = ((xs'.take (i.toNat + 1)).map itemOf, true) := put_next hok hi
      rw [w, e1, hsb, hput]
      refine ⟨⟨i0, cc⟩, ⟨i0, cc⟩, ⟨i0, cc⟩, hlen, ifB_of (fun z => (by cases z)) (fun _ => ⟨⟨(by trivial), (by trivial), (by trivial), by omega, by omega, rfl⟩, by omega⟩)⟩
    · have cc := of_decide_eq_false c1
      refine ⟨hlen, ⟨(by trivial), (by trivial), (by trivial), (by trivial), by omega, by omega⟩, ?_⟩
      rw [List.take_of_length_le (show xs'.length ≤ i.toNat by omega)]
      clear hlen i0 i1 cc c1
      rintro ⟨b2, xs2, ps2, near, i⟩ ⟨h⟩
      dsimp only at h ⊢
      obtain ⟨rfl, rfl, rfl, rfl, i0, i1⟩ := h
      refine ifB_of (fun c2 => ?_) (fun c2 => ?_)
      · have cc := of_decide_eq_true c2
        clear c2
        refine ⟨⟨(by trivial), (by trivial), (by trivial), (by trivial), (by trivial), by omega, by omega, fun _ j hj => absurd hj (by simp)⟩, ?_⟩
        rintro ⟨b3, xs3, ps3, near3, i3, found, k⟩ ⟨h⟩
        dsimp only at h ⊢
        obtain ⟨rfl, rfl, rfl, rfl, rfl, k0, k1, hf⟩ := h
        have hnl : (broadPairs (xs3.map itemOf)).length ≤ 576 := length_broadPairs
        refine ifB_of (fun c3 => ?_) (fun c3 => ?_)
        · have c3 := of_decide_eq_true c3
          have e1 : (k + 1).toNat = k.toNat + 1 := by omega
          have w : IntKind.i64.wrap (k + 1) = k + 1 := wrap_small (by omega) (by omega)
          rw [w, e1]
          refine ifB_of (fun f => ⟨⟨(by trivial), (by trivial), (by trivial), (by trivial), (by trivial), by omega, by omega, fun z => (by cases z)⟩, by omega⟩) (fun f => ⟨⟨k0, c3⟩, ⟨i0, cc⟩, ⟨(by trivial), (by trivial), (by trivial), (by trivial), (by trivial), by omega, by omega, fun z j hj => ?_⟩, by omega⟩)
          by_cases e : j = k.toNat
          · rw [e]
            intro q
            rw [q] at z
            simp at z
          · exact hf f j (by omega)
        · have c3 := of_decide_eq_false c3
          have w : IntKind.i64.wrap (i3 + 1) = i3 + 1 := wrap_small (by omega) (by omega)
          rw [w]
          refine ifB_of (fun f => ?_) (fun f => ⟨⟨(by trivial), (by trivial), (by trivial), (by trivial), by omega, by omega⟩, by omega⟩)
          exfalso
          have hm : Ty.ix .pair (stepPairs xs3) i3.toNat ∈ stepPairs xs3 := List.mem_of_getElem? (ix_get (T := .pair) (by omega))
          obtain ⟨j, hj, e⟩ := List.getElem_of_mem (step_near hok hm)
          have e2 : Ty.ix .pair (broadPairs (xs3.map itemOf)) j = Ty.ix .pair (stepPairs xs3) i3.toNat := ix_eq (T := .pair) (by rw [← e]; exact List.getElem?_eq_getElem hj)
          exact hf (not_true f) j (by omega) e2
      · rw [length_stepPairs_c, beq_self_eq_true]
        exact ⟨by omega, (by trivial), (by trivial)⟩)

end
end Go.Proofs.YtdhbkcaaijgocaaGreat.Sym

namespace Go.Proofs.YtdhbkcaaijgocaaGreat.Sym
open Go
set_option linter.unusedVariables false
set_option linter.unusedSimpArgs false
set_option maxRecDepth 100000

theorem mem_ix {T : Ty} {xs : List T.El} {x : T.El} (h : x ∈ xs) : ∃ i, i < xs.length ∧ T.ix xs i = x := by
  obtain ⟨i, hi, e⟩ := List.mem_iff_getElem.1 h
  exact ⟨i, hi, ix_eq (by rw [← e]; exact List.getElem?_eq_getElem hi)⟩
def goneP (z : List Item × Int) : Prop := z.1.length ≤ 25
instance : Nonempty {x : List Item × Int // goneP x} := ⟨⟨([], 0), by simp [goneP]⟩⟩
end Go.Proofs.YtdhbkcaaijgocaaGreat.Sym

namespace Go.Proofs.YtdhbkcaaijgocaaGreat.Sym
open Go
set_option linter.unusedVariables false
set_option linter.unusedSimpArgs false
set_option maxRecDepth 100000

def hasN (xs : List Int) (n : Int) : Bool := xs.any fun y => y == n
theorem hasN_true {xs : List Int} {n : Int} : hasN xs n = true ↔ n ∈ xs := by
  simp [hasN]
theorem hasN_false {xs : List Int} {n : Int} (h : ∀ e, e < xs.length → (Ty.ix .int xs e == n) = false) : hasN xs n = false := by
  cases q : hasN xs n with
  | false => rfl
  | true =>
    obtain ⟨i, hi, e⟩ := mem_ix (T := .int) (hasN_true.1 q)
    have := h i hi
    rw [e] at this
    simp at this
def LSpqHas  : LS where
  S := List Int × Unit × Int × Int
  live := [(0, [none]), (1, [none]), (5, [none])]
  shape := fun s => ([.vec 0, .int .i64 s.2.2.1, .int .i64 s.2.2.2], [(false, .vec .int s.1)])
  get := fun v h => match v, h with
    | [.vec 0, .int .i64 n, .int .i64 i], [(false, .vec .int xs)] => some (xs, (), n, i)
    | _, _ => none
  inv := fun s0 s => Holds (s.1 = s0.1 ∧ s.2.2.1 = s0.2.2.1 ∧ 0 ≤ s.2.2.2 ∧ s.2.2.2 ≤ s0.1.length ∧ (∀ e, e < s.2.2.2.toNat → (Ty.ix .int s0.1 e == s0.2.2.1) = false))
  mu := fun s => ((s.1.length : Int) - s.2.2.2).toNat
  ok := by
    intro v h s hg
    try dsimp only at hg
    split at hg <;> cases hg
    rfl

def L_pqHas : Loops := fun n => match n with
  | 2 => some LSpqHas
  | _ => none
noncomputable def fs_lawsPqHas : Fs := ⟨[], fun args H => match args, H with
  | [.vec 0, .int .i64 n], [(false, .vec .int xs)] => some ((some (xs.length ≤ 1048576)), .bool (hasN xs n), [(false, .vec .int xs)])
  | _, _ => none⟩

theorem vc_lawsPqHas (xs : List Int) (n : Int) (Q : SV → List Ent → Prop) :
    fnVC tt (look []) (L_pqHas) Tryz.f54 [.vec 0, .int .i64 n] [(false, .vec .int xs)] Q =
    (Holds (xs = xs ∧ n = n ∧ (0 : Int) ≤ (0 : Int) ∧ (0 : Int) ≤ (↑(List.length xs) : Int) ∧ ∀ (e : Nat), e < Int.toNat (0 : Int) → (Ty.ix Ty.int xs e == n) = false) ∧ ∀ (x : List Int × Unit × Int × Int), Holds (Prod.fst x = xs ∧ Prod.fst (Prod.snd (Prod.snd x)) = n ∧ (0 : Int) ≤ Prod.snd (Prod.snd (Prod.snd x)) ∧ Prod.snd (Prod.snd (Prod.snd x)) ≤ (↑(List.length xs) : Int) ∧ ∀ (e : Nat), e < Int.toNat (Prod.snd (Prod.snd (Prod.snd x))) → (Ty.ix Ty.int xs e == n) = false) → ifB (decide (Prod.snd (Prod.snd (Prod.snd x)) < (↑(List.length (Prod.fst x)) : Int))) (((0 : Int) ≤ Prod.snd (Prod.snd (Prod.snd x)) ∧ Prod.snd (Prod.snd (Prod.snd x)) < (↑(List.length (Prod.fst x)) : Int)) ∧ ifB (Ty.ix Ty.int (Prod.fst x) (Int.toNat (Prod.snd (Prod.snd (Prod.snd x)))) == Prod.fst (Prod.snd (Prod.snd x))) (Q (SV.bool true) [(false, Blk.vec Ty.int (Prod.fst x))]) (Holds (Prod.fst x = xs ∧ Prod.fst (Prod.snd (Prod.snd x)) = n ∧ (0 : Int) ≤ IntKind.wrap IntKind.i64 (Prod.snd (Prod.snd (Prod.snd x)) + (1 : Int)) ∧ IntKind.wrap IntKind.i64 (Prod.snd (Prod.snd (Prod.snd x)) + (1 : Int)) ≤ (↑(List.length xs) : Int) ∧ ∀ (e : Nat), e < Int.toNat (IntKind.wrap IntKind.i64 (Prod.snd (Prod.snd (Prod.snd x)) + (1 : Int))) → (Ty.ix Ty.int xs e == n) = false) ∧ Int.toNat ((↑(List.length (Prod.fst x)) : Int) - IntKind.wrap IntKind.i64 (Prod.snd (Prod.snd (Prod.snd x)) + (1 : Int))) < Int.toNat ((↑(List.length (Prod.fst x)) : Int) - Prod.snd (Prod.snd (Prod.snd x))))) (Q (SV.bool false) [(false, Blk.vec Ty.int (Prod.fst x))])) := by kernel_rfl

theorem ok_lawsPqHas : FsOk Tryz.prog 54 fs_lawsPqHas := fsOk_of tt_ok tabFs_nil mixed Tryz.func54 (by kernel_rfl) (by kernel_rfl) (by
    intro args LL p r HH h hp
    unfold fs_lawsPqHas at h
    dsimp only at h
    split at h
    case h_2 => cases h
    rename_i n xs
    simp only [Option.some.injEq, Prod.mk.injEq] at h
    obtain ⟨rfl, rfl, rfl⟩ := h
    refine ⟨by simp [Form, stays], (L_pqHas), ?_⟩
    rw [vc_lawsPqHas]
    try dsimp only
    have hb := hp _ rfl
    refine ⟨⟨(by trivial), (by trivial), by omega, by omega, fun e he => absurd he (by simp)⟩, ?_⟩
    rintro ⟨xs', u, n', i⟩ ⟨h⟩
    dsimp only at h ⊢
    obtain ⟨rfl, rfl, i0, i1, i2⟩ := h
    refine ifB_of (fun c => ?_) (fun c => ?_)
    · have c := of_decide_eq_true c
      refine ⟨⟨i0, c⟩, ifB_of (fun c2 => ?_) (fun c2 => ?_)⟩
      · have e := ix_mem (T := .int) (xs := xs') (i := i.toNat) (by omega)
        have c2 : Ty.ix .int xs' i.toNat = n' := by simpa using c2
        rw [c2] at e
        exact ⟨by rw [hasN_true.2 e], (by trivial)⟩
      · have w : IntKind.i64.wrap (i + 1) = i + 1 := wrap_small (by omega) (by omega)
        rw [w]
        refine ⟨⟨(by trivial), (by trivial), by omega, by omega, fun e he => ?_⟩, by omega⟩
        by_cases q : e = i.toNat
        · rw [q]; exact c2
        · exact i2 e (by omega)
    · have c := of_decide_eq_false c
      exact ⟨by rw [hasN_false fun e he => i2 e (by omega)], (by trivial)⟩)

def askP (z : List Item × Box) : Prop := z.1.length ≤ 25
instance : Nonempty {x : List Item × Box // askP x} := ⟨⟨([], ⟨⟨0, 0⟩, ⟨0, 0⟩⟩), by simp [askP]⟩⟩
noncomputable def fs_implBoxMeets : Fs := ⟨[], fun args H => match args, H with
  | [.agg [.int .i64 aLX, .int .i64 aLY, .int .i64 aHX, .int .i64 aHY], .agg [.int .i64 bLX, .int .i64 bLY, .int .i64 bHX, .int .i64 bHY]], [] => some (none, .bool (boxOk (Box.mk (Vec.mk aLX aLY) (Vec.mk aHX aHY)) && boxOk (Box.mk (Vec.mk bLX bLY) (Vec.mk bHX bHY)) && boxMeets (Box.mk (Vec.mk aLX aLY) (Vec.mk aHX aHY)) (Box.mk (Vec.mk bLX bLY) (Vec.mk bHX bHY))), [])
  | _, _ => none⟩

theorem vc_implBoxMeets (aLX : Int) (aLY : Int) (aHX : Int) (aHY : Int) (bLX : Int) (bLY : Int) (bHX : Int) (bHY : Int) (Q : SV → List Ent → Prop) :
    fnVC tt (look [(116, fs_implBoxOk), (120, fs_implMeets)]) L0 Tryz.f48 [.agg [.int .i64 aLX, .int .i64 aLY, .int .i64 aHX, .int .i64 aHY], .agg [.int .i64 bLX, .int .i64 bLY, .int .i64 bHX, .int .i64 bHY]] [] Q =
    (ifB (boxOk (Box.mk (Vec.mk aLX aLY) (Vec.mk aHX aHY))) (ifB (boxOk (Box.mk (Vec.mk bLX bLY) (Vec.mk bHX bHY))) (Q (SV.bool (boxMeets (Box.mk (Vec.mk aLX aLY) (Vec.mk aHX aHY)) (Box.mk (Vec.mk bLX bLY) (Vec.mk bHX bHY)))) []) (Q (SV.bool false) [])) (Q (SV.bool false) [])) := by kernel_rfl

theorem ok_implBoxMeets : FsOk Tryz.prog 48 fs_implBoxMeets := fsOk_of tt_ok (tabFs_cons ok_implBoxOk (tabFs_cons ok_implMeets tabFs_nil)) mixed Tryz.func48 (by kernel_rfl) (by kernel_rfl) (by
    intro args LL p r HH h hp
    unfold fs_implBoxMeets at h
    dsimp only at h
    split at h
    case h_2 => cases h
    rename_i aLX aLY aHX aHY bLX bLY bHX bHY
    simp only [Option.some.injEq, Prod.mk.injEq] at h
    obtain ⟨rfl, rfl, rfl⟩ := h
    refine ⟨by simp [Form, stays], L0, ?_⟩
    rw [vc_implBoxMeets]
    try dsimp only
    refine ifB_of (fun c => ifB_of (fun c2 => ?_) (fun c2 => ?_)) (fun c => ?_)
    · simp [c, c2]
    · simp [c, c2]
    · simp [c])

def listP (z : List Item) : Prop := z.length ≤ 25
instance : Nonempty {x : List Item // listP x} := ⟨⟨[], by simp [listP]⟩⟩
end Go.Proofs.YtdhbkcaaijgocaaGreat.Sym

namespace Go.Proofs.YtdhbkcaaijgocaaGreat.Sym
open Go
set_option linter.unusedVariables false
set_option linter.unusedSimpArgs false
set_option maxRecDepth 100000
noncomputable section

abbrev Wd := Int × Int × List Body × List Pair
def inD (z : Wd × Box) : Prop := worldD z.1
instance : Nonempty {x : Wd × Box // inD x} := ⟨⟨((0, 0, [], []), ⟨⟨0, 0⟩, ⟨0, 0⟩⟩), by simp [inD, worldD]⟩⟩
noncomputable def g_DrawWorldIn (b : List Int) : {x : (Int × Int × List Body × List Pair) × Box // inD x} := someAns tt (look [(102, fs_l1Open), (114, fs_l11AnyWorld), (115, fs_l11AnyBox)]) Tryz.f42 [.vec 0] [(false, .vec .byte b)] (fun x : {x : (Int × Int × List Body × List Pair) × Box // inD x} => (.tup [.agg [.int .i64 ((x.1).1).1, .int .i64 ((x.1).1).2.1, .vec 1, .vec 2], .agg [.int .i64 ((x.1).2).Low.X, .int .i64 ((x.1).2).Low.Y, .int .i64 ((x.1).2).High.X, .int .i64 ((x.1).2).High.Y]] : SV)) (fun x : {x : (Int × Int × List Body × List Pair) × Box // inD x} => ([(false, .vec .byte b), (true, .vec .body (((x.1).1).2.2.1)), (true, .vec .pair (((x.1).1).2.2.2))] : List Ent))
noncomputable def fs_DrawWorldIn : Fs := ⟨[], fun args H => match args, H with
  | [.vec 0], [(false, .vec .byte b)] => some ((some (BytesOk b)), .tup [.agg [.int .i64 (((g_DrawWorldIn b).1).1).1, .int .i64 (((g_DrawWorldIn b).1).1).2.1, .vec 1, .vec 2], .agg [.int .i64 (((g_DrawWorldIn b).1).2).Low.X, .int .i64 (((g_DrawWorldIn b).1).2).Low.Y, .int .i64 (((g_DrawWorldIn b).1).2).High.X, .int .i64 (((g_DrawWorldIn b).1).2).High.Y]], [(false, .vec .byte b), (true, .vec .body ((((g_DrawWorldIn b).1).1).2.2.1)), (true, .vec .pair ((((g_DrawWorldIn b).1).1).2.2.2))])
  | _, _ => none⟩

theorem vc_DrawWorldIn (b : List Int) (Q : SV → List Ent → Prop) :
    fnVC tt (look [(102, fs_l1Open), (114, fs_l11AnyWorld), (115, fs_l11AnyBox)]) L0 Tryz.f42 [.vec 0] [(false, .vec .byte b)] Q =
    (((0 : Int) ≤ (0 : Int) ∧ (0 : Int) + (1000 : Int) ≤ (1000000000000 : Int) ∧ BytesOk (List.take (min (List.length b) (2000 : Nat)) (List.drop (0 : Nat) b))) ∧ ((0 : Int) ≤ (0 : Int) + (↑(Prod.snd (g_l11AnyWorld (List.take (min (List.length b) (2000 : Nat)) (List.drop (0 : Nat) b)) (0 : Int)) % (1001 : Nat)) : Int) ∧ (0 : Int) + (↑(Prod.snd (g_l11AnyWorld (List.take (min (List.length b) (2000 : Nat)) (List.drop (0 : Nat) b)) (0 : Int)) % (1001 : Nat)) : Int) + (8 : Int) ≤ (1000000000000 : Int) ∧ BytesOk (List.take (min (List.length b) (2000 : Nat)) (List.drop (0 : Nat) b))) ∧ Q (SV.tup [SV.agg [SV.int IntKind.i64 (Prod.fst (Subtype.val (Prod.fst (g_l11AnyWorld (List.take (min (List.length b) (2000 : Nat)) (List.drop (0 : Nat) b)) (0 : Int))))), SV.int IntKind.i64 (Prod.fst (Prod.snd (Subtype.val (Prod.fst (g_l11AnyWorld (List.take (min (List.length b) (2000 : Nat)) (List.drop (0 : Nat) b)) (0 : Int)))))), SV.vec (1 : Nat), SV.vec (2 : Nat)], SV.agg [SV.int IntKind.i64 (Vec.X (Box.Low (Prod.fst (g_l11AnyBox (List.take (min (List.length b) (2000 : Nat)) (List.drop (0 : Nat) b)) ((0 : Int) + (↑(Prod.snd (g_l11AnyWorld (List.take (min (List.length b) (2000 : Nat)) (List.drop (0 : Nat) b)) (0 : Int)) % (1001 : Nat)) : Int)))))), SV.int IntKind.i64 (Vec.Y (Box.Low (Prod.fst (g_l11AnyBox (List.take (min (List.length b) (2000 : Nat)) (List.drop (0 : Nat) b)) ((0 : Int) + (↑(Prod.snd (g_l11AnyWorld (List.take (min (List.length b) (2000 : Nat)) (List.drop (0 : Nat) b)) (0 : Int)) % (1001 : Nat)) : Int)))))), SV.int IntKind.i64 (Vec.X (Box.High (Prod.fst (g_l11AnyBox (List.take (min (List.length b) (2000 : Nat)) (List.drop (0 : Nat) b)) ((0 : Int) + (↑(Prod.snd (g_l11AnyWorld (List.take (min (List.length b) (2000 : Nat)) (List.drop (0 : Nat) b)) (0 : Int)) % (1001 : Nat)) : Int)))))), SV.int IntKind.i64 (Vec.Y (Box.High (Prod.fst (g_l11AnyBox (List.take (min (List.length b) (2000 : Nat)) (List.drop (0 : Nat) b)) ((0 : Int) + (↑(Prod.snd (g_l11AnyWorld (List.take (min (List.length b) (2000 : Nat)) (List.drop (0 : Nat) b)) (0 : Int)) % (1001 : Nat)) : Int))))))]]) [(false, Blk.vec Ty.byte b), (true, Blk.vec Ty.body (Prod.fst (Prod.snd (Prod.snd (Subtype.val (Prod.fst (g_l11AnyWorld (List.take (min (List.length b) (2000 : Nat)) (List.drop (0 : Nat) b)) (0 : Int)))))))), (true, Blk.vec Ty.pair (Prod.snd (Prod.snd (Prod.snd (Subtype.val (Prod.fst (g_l11AnyWorld (List.take (min (List.length b) (2000 : Nat)) (List.drop (0 : Nat) b)) (0 : Int))))))))]) := by kernel_rfl

theorem ok_DrawWorldIn : FsOk Tryz.prog 42 fs_DrawWorldIn := fsOk_of tt_ok (tabFs_cons ok_l1Open (tabFs_cons ok_l11AnyWorld (tabFs_cons ok_l11AnyBox tabFs_nil))) mixed Tryz.func42 (by kernel_rfl) (by kernel_rfl) (by
    intro args LL p0 r HH h hp
    unfold fs_DrawWorldIn at h
    dsimp only at h
    split at h
    case h_2 => cases h
    rename_i b
    simp only [Option.some.injEq, Prod.mk.injEq] at h
    obtain ⟨rfl, rfl, rfl⟩ := h
    refine ⟨by simp [Form, stays], L0, ?_⟩
    have hby := hp _ rfl
    refine someAns_ok (R := (fun x : {x : (Int × Int × List Body × List Pair) × Box // inD x} => (.tup [.agg [.int .i64 ((x.1).1).1, .int .i64 ((x.1).1).2.1, .vec 1, .vec 2], .agg [.int .i64 ((x.1).2).Low.X, .int .i64 ((x.1).2).Low.Y, .int .i64 ((x.1).2).High.X, .int .i64 ((x.1).2).High.Y]] : SV))) (HH := (fun x : {x : (Int × Int × List Body × List Pair) × Box // inD x} => ([(false, .vec .byte b), (true, .vec .body (((x.1).1).2.2.1)), (true, .vec .pair (((x.1).1).2.2.2))] : List Ent))) (by kernel_rfl) ?_
    have fin : ∀ (z0T : Int) (z0P : Int) (z0B : List Body) (z0Q : List Pair) (z1LX : Int) (z1LY : Int) (z1HX : Int) (z1HY : Int), inD ((z0T, z0P, z0B, z0Q), (Box.mk (Vec.mk z1LX z1LY) (Vec.mk z1HX z1HY))) → ∃ x : {x : (Int × Int × List Body × List Pair) × Box // inD x}, ((.tup [.agg [.int .i64 ((((z0T, z0P, z0B, z0Q), (Box.mk (Vec.mk z1LX z1LY) (Vec.mk z1HX z1HY)))).1).1, .int .i64 ((((z0T, z0P, z0B, z0Q), (Box.mk (Vec.mk z1LX z1LY) (Vec.mk z1HX z1HY)))).1).2.1, .vec 1, .vec 2], .agg [.int .i64 ((((z0T, z0P, z0B, z0Q), (Box.mk (Vec.mk z1LX z1LY) (Vec.mk z1HX z1HY)))).2).Low.X, .int .i64 ((((z0T, z0P, z0B, z0Q), (Box.mk (Vec.mk z1LX z1LY) (Vec.mk z1HX z1HY)))).2).Low.Y, .int .i64 ((((z0T, z0P, z0B, z0Q), (Box.mk (Vec.mk z1LX z1LY) (Vec.mk z1HX z1HY)))).2).High.X, .int .i64 ((((z0T, z0P, z0B, z0Q), (Box.mk (Vec.mk z1LX z1LY) (Vec.mk z1HX z1HY)))).2).High.Y]] : SV) : SV) = (fun x : {x : (Int × Int × List Body × List Pair) × Box // inD x} => (.tup [.agg [.int .i64 ((x.1).1).1, .int .i64 ((x.1).1).2.1, .vec 1, .vec 2], .agg [.int .i64 ((x.1).2).Low.X, .int .i64 ((x.1).2).Low.Y, .int .i64 ((x.1).2).High.X, .int .i64 ((x.1).2).High.Y]] : SV)) x ∧ (([(false, .vec .byte b), (true, .vec .body (((((z0T, z0P, z0B, z0Q), (Box.mk (Vec.mk z1LX z1LY) (Vec.mk z1HX z1HY)))).1).2.2.1)), (true, .vec .pair (((((z0T, z0P, z0B, z0Q), (Box.mk (Vec.mk z1LX z1LY) (Vec.mk z1HX z1HY)))).1).2.2.2))] : List Ent) : List Ent) = (fun x : {x : (Int × Int × List Body × List Pair) × Box // inD x} => ([(false, .vec .byte b), (true, .vec .body (((x.1).1).2.2.1)), (true, .vec .pair (((x.1).1).2.2.2))] : List Ent)) x := fun z0T z0P z0B z0Q z1LX z1LY z1HX z1HY hpred => ⟨⟨((z0T, z0P, z0B, z0Q), (Box.mk (Vec.mk z1LX z1LY) (Vec.mk z1HX z1HY))), hpred⟩, rfl, rfl⟩
    rw [vc_DrawWorldIn]
    try dsimp only
    try dsimp only at fin
    repeat' (first | refine ifB_of (fun _ => ?_) (fun _ => ?_) | refine pre_of ?_ (fun _ => ?_))
    all_goals first
      | (refine fin _ _ _ _ _ _ _ _ ?_; exact (g_l11AnyWorld _ _).1.2)
      | omega
      | exact hby
      | exact hby.part _ _
      | exact Nat.le_add_left _ _
      | exact ⟨by omega, by omega, hby.part _ _⟩
      | exact ⟨by omega, by omega, hby.part _ _, by omega⟩
      | exact ⟨by omega, by omega, hby.part _ _, Nat.le_add_left _ _⟩)

def atD (z : Wd × Vec) : Prop := worldD z.1
instance : Nonempty {x : Wd × Vec // atD x} := ⟨⟨((0, 0, [], []), ⟨0, 0⟩), by simp [atD, worldD]⟩⟩
noncomputable def g_DrawWorldAt (b : List Int) : {x : (Int × Int × List Body × List Pair) × Vec // atD x} := someAns tt (look [(102, fs_l1Open), (114, fs_l11AnyWorld), (128, fs_l11AnyPlace), (105, fs_rdPick)]) Tryz.f50 [.vec 0] [(false, .vec .byte b)] (fun x : {x : (Int × Int × List Body × List Pair) × Vec // atD x} => (.tup [.agg [.int .i64 ((x.1).1).1, .int .i64 ((x.1).1).2.1, .vec 1, .vec 2], .agg [.int .i64 ((x.1).2).X, .int .i64 ((x.1).2).Y]] : SV)) (fun x : {x : (Int × Int × List Body × List Pair) × Vec // atD x} => ([(false, .vec .byte b), (true, .vec .body (((x.1).1).2.2.1)), (true, .vec .pair (((x.1).1).2.2.2))] : List Ent))
noncomputable def fs_DrawWorldAt : Fs := ⟨[], fun args H => match args, H with
  | [.vec 0], [(false, .vec .byte b)] => some ((some (BytesOk b)), .tup [.agg [.int .i64 (((g_DrawWorldAt b).1).1).1, .int .i64 (((g_DrawWorldAt b).1).1).2.1, .vec 1, .vec 2], .agg [.int .i64 (((g_DrawWorldAt b).1).2).X, .int .i64 (((g_DrawWorldAt b).1).2).Y]], [(false, .vec .byte b), (true, .vec .body ((((g_DrawWorldAt b).1).1).2.2.1)), (true, .vec .pair ((((g_DrawWorldAt b).1).1).2.2.2))])
  | _, _ => none⟩

theorem vc_DrawWorldAt (b : List Int) (Q : SV → List Ent → Prop) :
    fnVC tt (look [(102, fs_l1Open), (114, fs_l11AnyWorld), (128, fs_l11AnyPlace), (105, fs_rdPick)]) L0 Tryz.f50 [.vec 0] [(false, .vec .byte b)] Q =
    (let w_ := IntKind.wrap IntKind.i64; let s_ := SV.int IntKind.i64; let A1_ := (List.take (min (List.length b) (2000 : Nat)) (List.drop (0 : Nat) b)); let A6_ := (Subtype.val (Prod.fst (g_l11AnyWorld A1_ (0 : Int)))); let A3_ := (Prod.snd (Prod.snd A6_)); let A5_ := (↑(List.length (Prod.fst A3_)) : Int); let A2_ := (↑(Prod.snd (g_l11AnyWorld A1_ (0 : Int)) % (1001 : Nat)) : Int); let A7_ := (Subtype.val (Prod.fst (g_l11AnyPlace A1_ ((0 : Int) + A2_)))); let A4_ := (↑(Prod.snd (g_l11AnyPlace A1_ ((0 : Int) + A2_)) % (5 : Nat)) : Int); ((0 : Int) ≤ (0 : Int) ∧ (0 : Int) + (1000 : Int) ≤ (1000000000000 : Int) ∧ BytesOk A1_) ∧ ((0 : Int) ≤ (0 : Int) + A2_ ∧ (0 : Int) + A2_ + (4 : Int) ≤ (1000000000000 : Int) ∧ BytesOk A1_) ∧ ifB (decide (A5_ > (0 : Int))) (((0 : Int) ≤ (0 : Int) + A2_ + A4_ ∧ (0 : Int) + A2_ + A4_ + (1 : Int) ≤ (1000000000000 : Int) ∧ BytesOk A1_ ∧ (1 : Int) ≤ (2 : Int)) ∧ ifB (g_rdPick A1_ ((0 : Int) + A2_ + A4_) (2 : Int) % (2 : Int) == (0 : Int)) (((0 : Int) ≤ (0 : Int) + A2_ + A4_ + (1 : Int) ∧ (0 : Int) + A2_ + A4_ + (1 : Int) + (1 : Int) ≤ (1000000000000 : Int) ∧ BytesOk A1_ ∧ (1 : Int) ≤ A5_) ∧ ((0 : Int) ≤ g_rdPick A1_ ((0 : Int) + A2_ + A4_ + (1 : Int)) A5_ % A5_ ∧ g_rdPick A1_ ((0 : Int) + A2_ + A4_ + (1 : Int)) A5_ % A5_ < A5_) ∧ ((0 : Int) ≤ (0 : Int) + A2_ + A4_ + (1 : Int) + (1 : Int) ∧ (0 : Int) + A2_ + A4_ + (1 : Int) + (1 : Int) + (1 : Int) ≤ (1000000000000 : Int) ∧ BytesOk A1_ ∧ (1 : Int) ≤ (256 : Int)) ∧ ((0 : Int) ≤ (0 : Int) + A2_ + A4_ + (1 : Int) + (1 : Int) + (1 : Int) ∧ (0 : Int) + A2_ + A4_ + (1 : Int) + (1 : Int) + (1 : Int) + (1 : Int) ≤ (1000000000000 : Int) ∧ BytesOk A1_ ∧ (1 : Int) ≤ (256 : Int)) ∧ Q (SV.tup [SV.agg [s_ (Prod.fst A6_), s_ (Prod.fst (Prod.snd A6_)), SV.vec (1 : Nat), SV.vec (2 : Nat)], SV.agg [s_ (w_ (w_ (Vec.X (Body.At (Ty.ix Ty.body (Prod.fst A3_) (Int.toNat (g_rdPick A1_ ((0 : Int) + A2_ + A4_ + (1 : Int)) A5_ % A5_)))) + w_ (g_rdPick A1_ ((0 : Int) + A2_ + A4_ + (1 : Int) + (1 : Int)) (256 : Int) % (256 : Int) * (2 : Int))) - (256 : Int))), s_ (w_ (w_ (Vec.Y (Body.At (Ty.ix Ty.body (Prod.fst A3_) (Int.toNat (g_rdPick A1_ ((0 : Int) + A2_ + A4_ + (1 : Int)) A5_ % A5_)))) + w_ (g_rdPick A1_ ((0 : Int) + A2_ + A4_ + (1 : Int) + (1 : Int) + (1 : Int)) (256 : Int) % (256 : Int) * (2 : Int))) - (256 : Int)))]]) [(false, Blk.vec Ty.byte b), (true, Blk.vec Ty.body (Prod.fst A3_)), (true, Blk.vec Ty.pair (Prod.snd A3_))]) (Q (SV.tup [SV.agg [s_ (Prod.fst A6_), s_ (Prod.fst (Prod.snd A6_)), SV.vec (1 : Nat), SV.vec (2 : Nat)], SV.agg [s_ (Vec.X A7_), s_ (Vec.Y A7_)]]) [(false, Blk.vec Ty.byte b), (true, Blk.vec Ty.body (Prod.fst A3_)), (true, Blk.vec Ty.pair (Prod.snd A3_))])) (Q (SV.tup [SV.agg [s_ (Prod.fst A6_), s_ (Prod.fst (Prod.snd A6_)), SV.vec (1 : Nat), SV.vec (2 : Nat)], SV.agg [s_ (Vec.X A7_), s_ (Vec.Y A7_)]]) [(false, Blk.vec Ty.byte b), (true, Blk.vec Ty.body (Prod.fst A3_)), (true, Blk.vec Ty.pair (Prod.snd A3_))])) := by kernel_rfl

theorem ok_DrawWorldAt : FsOk Tryz.prog 50 fs_DrawWorldAt := fsOk_of tt_ok (tabFs_cons ok_l1Open (tabFs_cons ok_l11AnyWorld (tabFs_cons ok_l11AnyPlace (tabFs_cons ok_rdPick tabFs_nil)))) mixed Tryz.func50 (by kernel_rfl) (by kernel_rfl) (by
    intro args LL p0 r HH h hp
    unfold fs_DrawWorldAt at h
    dsimp only at h
    split at h
    case h_2 => cases h
    rename_i b
    simp only [Option.some.injEq, Prod.mk.injEq] at h
    obtain ⟨rfl, rfl, rfl⟩ := h
    refine ⟨by simp [Form, stays], L0, ?_⟩
    have hby := hp _ rfl
    refine someAns_ok (R := (fun x : {x : (Int × Int × List Body × List Pair) × Vec // atD x} => (.tup [.agg [.int .i64 ((x.1).1).1, .int .i64 ((x.1).1).2.1, .vec 1, .vec 2], .agg [.int .i64 ((x.1).2).X, .int .i64 ((x.1).2).Y]] : SV))) (HH := (fun x : {x : (Int × Int × List Body × List Pair) × Vec // atD x} => ([(false, .vec .byte b), (true, .vec .body (((x.1).1).2.2.1)), (true, .vec .pair (((x.1).1).2.2.2))] : List Ent))) (by kernel_rfl) ?_
    have fin : ∀ (z0T : Int) (z0P : Int) (z0B : List Body) (z0Q : List Pair) (z1X : Int) (z1Y : Int), atD ((z0T, z0P, z0B, z0Q), (Vec.mk z1X z1Y)) → ∃ x : {x : (Int × Int × List Body × List Pair) × Vec // atD x}, ((.tup [.agg [.int .i64 ((((z0T, z0P, z0B, z0Q), (Vec.mk z1X z1Y))).1).1, .int .i64 ((((z0T, z0P, z0B, z0Q), (Vec.mk z1X z1Y))).1).2.1, .vec 1, .vec 2], .agg [.int .i64 ((((z0T, z0P, z0B, z0Q), (Vec.mk z1X z1Y))).2).X, .int .i64 ((((z0T, z0P, z0B, z0Q), (Vec.mk z1X z1Y))).2).Y]] : SV) : SV) = (fun x : {x : (Int × Int × List Body × List Pair) × Vec // atD x} => (.tup [.agg [.int .i64 ((x.1).1).1, .int .i64 ((x.1).1).2.1, .vec 1, .vec 2], .agg [.int .i64 ((x.1).2).X, .int .i64 ((x.1).2).Y]] : SV)) x ∧ (([(false, .vec .byte b), (true, .vec .body (((((z0T, z0P, z0B, z0Q), (Vec.mk z1X z1Y))).1).2.2.1)), (true, .vec .pair (((((z0T, z0P, z0B, z0Q), (Vec.mk z1X z1Y))).1).2.2.2))] : List Ent) : List Ent) = (fun x : {x : (Int × Int × List Body × List Pair) × Vec // atD x} => ([(false, .vec .byte b), (true, .vec .body (((x.1).1).2.2.1)), (true, .vec .pair (((x.1).1).2.2.2))] : List Ent)) x := fun z0T z0P z0B z0Q z1X z1Y hpred => ⟨⟨((z0T, z0P, z0B, z0Q), (Vec.mk z1X z1Y)), hpred⟩, rfl, rfl⟩
    rw [vc_DrawWorldAt]
    try dsimp only
    try dsimp only at fin
    have hc := hby.part 0 (min b.length 2000)
    generalize List.take (min b.length 2000) (List.drop 0 b) = c at *
    have hw := (g_l11AnyWorld c 0).1.2
    simp only [worldD] at hw
    repeat' (first | refine ifB_of (fun _ => ?_) (fun _ => ?_) | refine pre_of ?_ (fun _ => ?_))
    all_goals first
      | omega
      | exact hc
      | exact Nat.le_add_left _ _
      | (refine fin _ _ _ _ _ _ ?_; exact hw)
      | exact Int.emod_nonneg _ (by have := of_decide_eq_true ‹decide (_ > (0 : Int)) = true›; omega)
      | exact Int.emod_lt_of_pos _ (by have := of_decide_eq_true ‹decide (_ > (0 : Int)) = true›; omega)
      | (have := of_decide_eq_true ‹decide (_ > (0 : Int)) = true›; omega))

def rayWD (z : Wd × Ray) : Prop := worldD z.1
instance : Nonempty {x : Wd × Ray // rayWD x} := ⟨⟨((0, 0, [], []), ⟨⟨0, 0⟩, ⟨0, 0⟩⟩), by simp [rayWD, worldD]⟩⟩
noncomputable def g_DrawWorldRay (b : List Int) : {x : (Int × Int × List Body × List Pair) × Ray // rayWD x} := someAns tt (look [(102, fs_l1Open), (114, fs_l11AnyWorld), (146, fs_l11Ray), (105, fs_rdPick)]) Tryz.f64 [.vec 0] [(false, .vec .byte b)] (fun x : {x : (Int × Int × List Body × List Pair) × Ray // rayWD x} => (.tup [.agg [.int .i64 ((x.1).1).1, .int .i64 ((x.1).1).2.1, .vec 1, .vec 2], .agg [.int .i64 ((x.1).2).From.X, .int .i64 ((x.1).2).From.Y, .int .i64 ((x.1).2).Way.X, .int .i64 ((x.1).2).Way.Y]] : SV)) (fun x : {x : (Int × Int × List Body × List Pair) × Ray // rayWD x} => ([(false, .vec .byte b), (true, .vec .body (((x.1).1).2.2.1)), (true, .vec .pair (((x.1).1).2.2.2))] : List Ent))
noncomputable def fs_DrawWorldRay : Fs := ⟨[], fun args H => match args, H with
  | [.vec 0], [(false, .vec .byte b)] => some ((some (BytesOk b)), .tup [.agg [.int .i64 (((g_DrawWorldRay b).1).1).1, .int .i64 (((g_DrawWorldRay b).1).1).2.1, .vec 1, .vec 2], .agg [.int .i64 (((g_DrawWorldRay b).1).2).From.X, .int .i64 (((g_DrawWorldRay b).1).2).From.Y, .int .i64 (((g_DrawWorldRay b).1).2).Way.X, .int .i64 (((g_DrawWorldRay b).1).2).Way.Y]], [(false, .vec .byte b), (true, .vec .body ((((g_DrawWorldRay b).1).1).2.2.1)), (true, .vec .pair ((((g_DrawWorldRay b).1).1).2.2.2))])
  | _, _ => none⟩

theorem vc_DrawWorldRay (b : List Int) (Q : SV → List Ent → Prop) :
    fnVC tt (look [(102, fs_l1Open), (114, fs_l11AnyWorld), (146, fs_l11Ray), (105, fs_rdPick)]) L0 Tryz.f64 [.vec 0] [(false, .vec .byte b)] Q =
    (let w_ := IntKind.wrap IntKind.i64; let s_ := SV.int IntKind.i64; let A1_ := (List.take (min (List.length b) (2000 : Nat)) (List.drop (0 : Nat) b)); let A7_ := (Subtype.val (Prod.fst (g_l11AnyWorld A1_ (0 : Int)))); let A3_ := (Prod.snd (Prod.snd A7_)); let A6_ := (↑(List.length (Prod.fst A3_)) : Int); let A2_ := (↑(Prod.snd (g_l11AnyWorld A1_ (0 : Int)) % (1001 : Nat)) : Int); let A5_ := (↑(Prod.snd (g_l11Ray A1_ ((0 : Int) + A2_)) % (13 : Nat)) : Int); let A4_ := (Subtype.val (Prod.fst (g_l11Ray A1_ ((0 : Int) + A2_)))); ((0 : Int) ≤ (0 : Int) ∧ (0 : Int) + (1000 : Int) ≤ (1000000000000 : Int) ∧ BytesOk A1_) ∧ ((0 : Int) ≤ (0 : Int) + A2_ ∧ (0 : Int) + A2_ + (12 : Int) ≤ (1000000000000 : Int) ∧ BytesOk A1_) ∧ ifB (decide (A6_ > (0 : Int))) (((0 : Int) ≤ (0 : Int) + A2_ + A5_ ∧ (0 : Int) + A2_ + A5_ + (1 : Int) ≤ (1000000000000 : Int) ∧ BytesOk A1_ ∧ (1 : Int) ≤ (2 : Int)) ∧ ifB (g_rdPick A1_ ((0 : Int) + A2_ + A5_) (2 : Int) % (2 : Int) == (0 : Int)) (((0 : Int) ≤ (0 : Int) + A2_ + A5_ + (1 : Int) ∧ (0 : Int) + A2_ + A5_ + (1 : Int) + (1 : Int) ≤ (1000000000000 : Int) ∧ BytesOk A1_ ∧ (1 : Int) ≤ A6_) ∧ ((0 : Int) ≤ g_rdPick A1_ ((0 : Int) + A2_ + A5_ + (1 : Int)) A6_ % A6_ ∧ g_rdPick A1_ ((0 : Int) + A2_ + A5_ + (1 : Int)) A6_ % A6_ < A6_) ∧ Q (SV.tup [SV.agg [s_ (Prod.fst A7_), s_ (Prod.fst (Prod.snd A7_)), SV.vec (1 : Nat), SV.vec (2 : Nat)], SV.agg [s_ (Vec.X (Ray.From A4_)), s_ (Vec.Y (Ray.From A4_)), s_ (w_ (w_ (Vec.X (Body.At (Ty.ix Ty.body (Prod.fst A3_) (Int.toNat (g_rdPick A1_ ((0 : Int) + A2_ + A5_ + (1 : Int)) A6_ % A6_)))) - Vec.X (Ray.From A4_)) * (2 : Int))), s_ (w_ (w_ (Vec.Y (Body.At (Ty.ix Ty.body (Prod.fst A3_) (Int.toNat (g_rdPick A1_ ((0 : Int) + A2_ + A5_ + (1 : Int)) A6_ % A6_)))) - Vec.Y (Ray.From A4_)) * (2 : Int)))]]) [(false, Blk.vec Ty.byte b), (true, Blk.vec Ty.body (Prod.fst A3_)), (true, Blk.vec Ty.pair (Prod.snd A3_))]) (Q (SV.tup [SV.agg [s_ (Prod.fst A7_), s_ (Prod.fst (Prod.snd A7_)), SV.vec (1 : Nat), SV.vec (2 : Nat)], SV.agg [s_ (Vec.X (Ray.From A4_)), s_ (Vec.Y (Ray.From A4_)), s_ (Vec.X (Ray.Way A4_)), s_ (Vec.Y (Ray.Way A4_))]]) [(false, Blk.vec Ty.byte b), (true, Blk.vec Ty.body (Prod.fst A3_)), (true, Blk.vec Ty.pair (Prod.snd A3_))])) (Q (SV.tup [SV.agg [s_ (Prod.fst A7_), s_ (Prod.fst (Prod.snd A7_)), SV.vec (1 : Nat), SV.vec (2 : Nat)], SV.agg [s_ (Vec.X (Ray.From A4_)), s_ (Vec.Y (Ray.From A4_)), s_ (Vec.X (Ray.Way A4_)), s_ (Vec.Y (Ray.Way A4_))]]) [(false, Blk.vec Ty.byte b), (true, Blk.vec Ty.body (Prod.fst A3_)), (true, Blk.vec Ty.pair (Prod.snd A3_))])) := by kernel_rfl

theorem ok_DrawWorldRay : FsOk Tryz.prog 64 fs_DrawWorldRay := fsOk_of tt_ok (tabFs_cons ok_l1Open (tabFs_cons ok_l11AnyWorld (tabFs_cons ok_l11Ray (tabFs_cons ok_rdPick tabFs_nil)))) mixed Tryz.func64 (by kernel_rfl) (by kernel_rfl) (by
    intro args LL p0 r HH h hp
    unfold fs_DrawWorldRay at h
    dsimp only at h
    split at h
    case h_2 => cases h
    rename_i b
    simp only [Option.some.injEq, Prod.mk.injEq] at h
    obtain ⟨rfl, rfl, rfl⟩ := h
    refine ⟨by simp [Form, stays], L0, ?_⟩
    have hby := hp _ rfl
    refine someAns_ok (R := (fun x : {x : (Int × Int × List Body × List Pair) × Ray // rayWD x} => (.tup [.agg [.int .i64 ((x.1).1).1, .int .i64 ((x.1).1).2.1, .vec 1, .vec 2], .agg [.int .i64 ((x.1).2).From.X, .int .i64 ((x.1).2).From.Y, .int .i64 ((x.1).2).Way.X, .int .i64 ((x.1).2).Way.Y]] : SV))) (HH := (fun x : {x : (Int × Int × List Body × List Pair) × Ray // rayWD x} => ([(false, .vec .byte b), (true, .vec .body (((x.1).1).2.2.1)), (true, .vec .pair (((x.1).1).2.2.2))] : List Ent))) (by kernel_rfl) ?_
    have fin : ∀ (z0T : Int) (z0P : Int) (z0B : List Body) (z0Q : List Pair) (z1FX : Int) (z1FY : Int) (z1WX : Int) (z1WY : Int), rayWD ((z0T, z0P, z0B, z0Q), (Ray.mk (Vec.mk z1FX z1FY) (Vec.mk z1WX z1WY))) → ∃ x : {x : (Int × Int × List Body × List Pair) × Ray // rayWD x}, ((.tup [.agg [.int .i64 ((((z0T, z0P, z0B, z0Q), (Ray.mk (Vec.mk z1FX z1FY) (Vec.mk z1WX z1WY)))).1).1, .int .i64 ((((z0T, z0P, z0B, z0Q), (Ray.mk (Vec.mk z1FX z1FY) (Vec.mk z1WX z1WY)))).1).2.1, .vec 1, .vec 2], .agg [.int .i64 ((((z0T, z0P, z0B, z0Q), (Ray.mk (Vec.mk z1FX z1FY) (Vec.mk z1WX z1WY)))).2).From.X, .int .i64 ((((z0T, z0P, z0B, z0Q), (Ray.mk (Vec.mk z1FX z1FY) (Vec.mk z1WX z1WY)))).2).From.Y, .int .i64 ((((z0T, z0P, z0B, z0Q), (Ray.mk (Vec.mk z1FX z1FY) (Vec.mk z1WX z1WY)))).2).Way.X, .int .i64 ((((z0T, z0P, z0B, z0Q), (Ray.mk (Vec.mk z1FX z1FY) (Vec.mk z1WX z1WY)))).2).Way.Y]] : SV) : SV) = (fun x : {x : (Int × Int × List Body × List Pair) × Ray // rayWD x} => (.tup [.agg [.int .i64 ((x.1).1).1, .int .i64 ((x.1).1).2.1, .vec 1, .vec 2], .agg [.int .i64 ((x.1).2).From.X, .int .i64 ((x.1).2).From.Y, .int .i64 ((x.1).2).Way.X, .int .i64 ((x.1).2).Way.Y]] : SV)) x ∧ (([(false, .vec .byte b), (true, .vec .body (((((z0T, z0P, z0B, z0Q), (Ray.mk (Vec.mk z1FX z1FY) (Vec.mk z1WX z1WY)))).1).2.2.1)), (true, .vec .pair (((((z0T, z0P, z0B, z0Q), (Ray.mk (Vec.mk z1FX z1FY) (Vec.mk z1WX z1WY)))).1).2.2.2))] : List Ent) : List Ent) = (fun x : {x : (Int × Int × List Body × List Pair) × Ray // rayWD x} => ([(false, .vec .byte b), (true, .vec .body (((x.1).1).2.2.1)), (true, .vec .pair (((x.1).1).2.2.2))] : List Ent)) x := fun z0T z0P z0B z0Q z1FX z1FY z1WX z1WY hpred => ⟨⟨((z0T, z0P, z0B, z0Q), (Ray.mk (Vec.mk z1FX z1FY) (Vec.mk z1WX z1WY))), hpred⟩, rfl, rfl⟩
    rw [vc_DrawWorldRay]
    try dsimp only
    try dsimp only at fin
    have hc := hby.part 0 (min b.length 2000)
    generalize List.take (min b.length 2000) (List.drop 0 b) = c at *
    have hw := (g_l11AnyWorld c 0).1.2
    simp only [worldD] at hw
    repeat' (first | refine ifB_of (fun _ => ?_) (fun _ => ?_) | refine pre_of ?_ (fun _ => ?_))
    all_goals first
      | omega
      | exact hc
      | exact Nat.le_add_left _ _
      | (refine fin _ _ _ _ _ _ _ _ ?_; exact hw)
      | exact Int.emod_nonneg _ (by have := of_decide_eq_true ‹decide (_ > (0 : Int)) = true›; omega)
      | exact Int.emod_lt_of_pos _ (by have := of_decide_eq_true ‹decide (_ > (0 : Int)) = true›; omega)
      | (have := of_decide_eq_true ‹decide (_ > (0 : Int)) = true›; omega))

noncomputable def g_l11Id (b : List Int) (p : Int) (wT : Int) (wP : Int) (wB : List Body) (wQ : List Pair) : (Int) × Nat := someAns tt (look [(105, fs_rdPick)]) Tryz.f154 [.ptr 1 0 0, .agg [.int .i64 wT, .int .i64 wP, .vec 2, .vec 3]] [(false, .vec .byte b), (true, .box [.vec 0, .int .i64 p]), (false, .vec .body wB), (false, .vec .pair wQ)] (fun x : (Int) × Nat => (.int .i64 (x.1) : SV)) (fun x : (Int) × Nat => ([(false, .vec .byte b), (true, .box [.vec 0, .int .i64 (p + ((x.2 % 3 : Nat) : Int))]), (false, .vec .body wB), (false, .vec .pair wQ)] : List Ent))
noncomputable def fs_l11Id : Fs := ⟨[], fun args H => match args, H with
  | [.ptr 1 0 0, .agg [.int .i64 wT, .int .i64 wP, .vec 2, .vec 3]], [(false, .vec .byte b), (true, .box [.vec 0, .int .i64 p]), (false, .vec .body wB), (false, .vec .pair wQ)] => some ((some (0 ≤ p ∧ p + 2 ≤ 1000000000000 ∧ BytesOk b ∧ wB.length ≤ 1048576)), .int .i64 ((g_l11Id b p wT wP wB wQ).1), [(false, .vec .byte b), (true, .box [.vec 0, .int .i64 (p + (((g_l11Id b p wT wP wB wQ).2 % 3 : Nat) : Int))]), (false, .vec .body wB), (false, .vec .pair wQ)])
  | _, _ => none⟩

theorem vc_l11Id (b : List Int) (p : Int) (wT : Int) (wP : Int) (wB : List Body) (wQ : List Pair) (Q : SV → List Ent → Prop) :
    fnVC tt (look [(105, fs_rdPick)]) L0 Tryz.f154 [.ptr 1 0 0, .agg [.int .i64 wT, .int .i64 wP, .vec 2, .vec 3]] [(false, .vec .byte b), (true, .box [.vec 0, .int .i64 p]), (false, .vec .body wB), (false, .vec .pair wQ)] Q =
    (ifB ((↑(List.length wB) : Int) == (0 : Int)) (((0 : Int) ≤ p ∧ p + (1 : Int) ≤ (1000000000000 : Int) ∧ BytesOk b ∧ (1 : Int) ≤ (60 : Int)) ∧ Q (SV.int IntKind.i64 (IntKind.wrap IntKind.i64 (g_rdPick b p (60 : Int) % (60 : Int) - (1 : Int)))) [(false, Blk.vec Ty.byte b), (true, Blk.box [SV.vec (0 : Nat), SV.int IntKind.i64 (p + (1 : Int))]), (false, Blk.vec Ty.body wB), (false, Blk.vec Ty.pair wQ)]) (((0 : Int) ≤ p ∧ p + (1 : Int) ≤ (1000000000000 : Int) ∧ BytesOk b ∧ (1 : Int) ≤ (8 : Int)) ∧ ifB (g_rdPick b p (8 : Int) % (8 : Int) == (0 : Int)) (((0 : Int) ≤ p + (1 : Int) ∧ p + (1 : Int) + (1 : Int) ≤ (1000000000000 : Int) ∧ BytesOk b ∧ (1 : Int) ≤ (60 : Int)) ∧ Q (SV.int IntKind.i64 (IntKind.wrap IntKind.i64 (g_rdPick b (p + (1 : Int)) (60 : Int) % (60 : Int) - (1 : Int)))) [(false, Blk.vec Ty.byte b), (true, Blk.box [SV.vec (0 : Nat), SV.int IntKind.i64 (p + (1 : Int) + (1 : Int))]), (false, Blk.vec Ty.body wB), (false, Blk.vec Ty.pair wQ)]) (((0 : Int) ≤ p + (1 : Int) ∧ p + (1 : Int) + (1 : Int) ≤ (1000000000000 : Int) ∧ BytesOk b ∧ (1 : Int) ≤ (↑(List.length wB) : Int)) ∧ ((0 : Int) ≤ g_rdPick b (p + (1 : Int)) (↑(List.length wB) : Int) % (↑(List.length wB) : Int) ∧ g_rdPick b (p + (1 : Int)) (↑(List.length wB) : Int) % (↑(List.length wB) : Int) < (↑(List.length wB) : Int)) ∧ Q (SV.int IntKind.i64 (Body.Id (Ty.ix Ty.body wB (Int.toNat (g_rdPick b (p + (1 : Int)) (↑(List.length wB) : Int) % (↑(List.length wB) : Int)))))) [(false, Blk.vec Ty.byte b), (true, Blk.box [SV.vec (0 : Nat), SV.int IntKind.i64 (p + (1 : Int) + (1 : Int))]), (false, Blk.vec Ty.body wB), (false, Blk.vec Ty.pair wQ)]))) := by kernel_rfl

theorem ok_l11Id : FsOk Tryz.prog 154 fs_l11Id := fsOk_of tt_ok (tabFs_cons ok_rdPick tabFs_nil) mixed Tryz.func154 (by kernel_rfl) (by kernel_rfl) (by
    intro args LL p0 r HH h hp
    unfold fs_l11Id at h
    dsimp only at h
    split at h
    case h_2 => cases h
    rename_i wT wP b p wB wQ
    simp only [Option.some.injEq, Prod.mk.injEq] at h
    obtain ⟨rfl, rfl, rfl⟩ := h
    refine ⟨by simp [Form, stays], L0, ?_⟩
    obtain ⟨hp0, hp1, hby, hpp⟩ := hp _ rfl
    refine someAns_ok (R := (fun x : (Int) × Nat => (.int .i64 (x.1) : SV))) (HH := (fun x : (Int) × Nat => ([(false, .vec .byte b), (true, .box [.vec 0, .int .i64 (p + ((x.2 % 3 : Nat) : Int))]), (false, .vec .body wB), (false, .vec .pair wQ)] : List Ent))) (by kernel_rfl) ?_
    have fin : ∀ (z : Int) (p' : Int), p ≤ p' → p' ≤ p + 2 → ∃ x : (Int) × Nat, ((.int .i64 (z) : SV) : SV) = (fun x : (Int) × Nat => (.int .i64 (x.1) : SV)) x ∧ (([(false, .vec .byte b), (true, .box [.vec 0, .int .i64 p']), (false, .vec .body wB), (false, .vec .pair wQ)] : List Ent) : List Ent) = (fun x : (Int) × Nat => ([(false, .vec .byte b), (true, .box [.vec 0, .int .i64 (p + ((x.2 % 3 : Nat) : Int))]), (false, .vec .body wB), (false, .vec .pair wQ)] : List Ent)) x := fun z p' h1 h2 => ⟨(z, (p' - p).toNat), rfl, by
      have : p + (((p' - p).toNat % 3 : Nat) : Int) = p' := by omega
      dsimp only
      rw [this]⟩
    rw [vc_l11Id]
    try dsimp only
    try dsimp only at fin
    repeat' (first | refine ifB_of (fun _ => ?_) (fun _ => ?_) | refine pre_of ?_ (fun _ => ?_))
    all_goals first
      | omega
      | exact hby
      | (refine fin _ _ ?_ ?_ <;> omega)
      | (have := beq_eq_false_iff_ne.1 ‹((wB.length : Int) == 0) = false›; omega)
      | exact Int.emod_nonneg _ (by have := beq_eq_false_iff_ne.1 ‹((wB.length : Int) == 0) = false›; omega)
      | exact Int.emod_lt_of_pos _ (by have := beq_eq_false_iff_ne.1 ‹((wB.length : Int) == 0) = false›; omega))

def pushWD (z : Wd × Int × Vec) : Prop := worldD z.1
instance : Nonempty {x : Wd × Int × Vec // pushWD x} := ⟨⟨((0, 0, [], []), 0, ⟨0, 0⟩), by simp [pushWD, worldD]⟩⟩
noncomputable def g_DrawWorldPush (b : List Int) : {x : (Int × Int × List Body × List Pair) × Int × Vec // pushWD x} := someAns tt (look [(102, fs_l1Open), (114, fs_l11AnyWorld), (152, fs_l11Drive), (105, fs_rdPick), (153, fs_rdOne), (154, fs_l11Id)]) Tryz.f68 [.vec 0] [(false, .vec .byte b)] (fun x : {x : (Int × Int × List Body × List Pair) × Int × Vec // pushWD x} => (.tup [.agg [.int .i64 ((x.1).1).1, .int .i64 ((x.1).1).2.1, .vec 1, .vec 2], .int .i64 ((x.1).2.1), .agg [.int .i64 ((x.1).2.2).X, .int .i64 ((x.1).2.2).Y]] : SV)) (fun x : {x : (Int × Int × List Body × List Pair) × Int × Vec // pushWD x} => ([(false, .vec .byte b), (true, .vec .body (((x.1).1).2.2.1)), (true, .vec .pair (((x.1).1).2.2.2))] : List Ent))
noncomputable def fs_DrawWorldPush : Fs := ⟨[], fun args H => match args, H with
  | [.vec 0], [(false, .vec .byte b)] => some ((some (BytesOk b)), .tup [.agg [.int .i64 (((g_DrawWorldPush b).1).1).1, .int .i64 (((g_DrawWorldPush b).1).1).2.1, .vec 1, .vec 2], .int .i64 (((g_DrawWorldPush b).1).2.1), .agg [.int .i64 (((g_DrawWorldPush b).1).2.2).X, .int .i64 (((g_DrawWorldPush b).1).2.2).Y]], [(false, .vec .byte b), (true, .vec .body ((((g_DrawWorldPush b).1).1).2.2.1)), (true, .vec .pair ((((g_DrawWorldPush b).1).1).2.2.2))])
  | _, _ => none⟩

theorem vc_DrawWorldPush (b : List Int) (Q : SV → List Ent → Prop) :
    fnVC tt (look [(102, fs_l1Open), (114, fs_l11AnyWorld), (152, fs_l11Drive), (105, fs_rdPick), (153, fs_rdOne), (154, fs_l11Id)]) L0 Tryz.f68 [.vec 0] [(false, .vec .byte b)] Q =
    (let s_ := SV.int IntKind.i64; let A2_ := (List.take (min (List.length b) (2000 : Nat)) (List.drop (0 : Nat) b)); let A1_ := (g_l11AnyWorld A2_ (0 : Int)); let A4_ := (Prod.snd (Subtype.val (Prod.fst A1_))); let A3_ := (↑(Prod.snd A1_ % (1001 : Nat)) : Int); ((0 : Int) ≤ (0 : Int) ∧ (0 : Int) + (1000 : Int) ≤ (1000000000000 : Int) ∧ BytesOk A2_) ∧ ((0 : Int) ≤ (0 : Int) + A3_ ∧ (0 : Int) + A3_ + (3 : Int) ≤ (1000000000000 : Int) ∧ BytesOk A2_ ∧ (0 : Int) ≤ (2 : Int) ∧ (2 : Int) ≤ (100 : Int)) ∧ ((0 : Int) ≤ (0 : Int) + A3_ + (3 : Int) ∧ (0 : Int) + A3_ + (3 : Int) + (1 : Int) ≤ (1000000000000 : Int) ∧ BytesOk A2_ ∧ (1 : Int) ≤ (12 : Int)) ∧ ifB (g_rdPick A2_ ((0 : Int) + A3_ + (3 : Int)) (12 : Int) % (12 : Int) == (0 : Int)) (((0 : Int) ≤ (0 : Int) + A3_ + (3 : Int) + (1 : Int) ∧ (0 : Int) + A3_ + (3 : Int) + (1 : Int) + (1 : Int) ≤ (1000000000000 : Int) ∧ BytesOk A2_ ∧ (1 : Nat) ≤ List.length [(20000000 : Int), (20000001 : Int)]) ∧ ((0 : Int) ≤ (0 : Int) + A3_ + (3 : Int) + (1 : Int) + (1 : Int) ∧ (0 : Int) + A3_ + (3 : Int) + (1 : Int) + (1 : Int) + (2 : Int) ≤ (1000000000000 : Int) ∧ BytesOk A2_ ∧ List.length (Prod.fst (Prod.snd A4_)) ≤ (1048576 : Nat)) ∧ Q (SV.tup [SV.agg [s_ (Prod.fst (Subtype.val (Prod.fst A1_))), s_ (Prod.fst A4_), SV.vec (1 : Nat), SV.vec (2 : Nat)], s_ (Prod.fst (g_l11Id A2_ ((0 : Int) + A3_ + (3 : Int) + (1 : Int) + (1 : Int)) (Prod.fst (Subtype.val (Prod.fst A1_))) (Prod.fst A4_) (Prod.fst (Prod.snd A4_)) (Prod.snd (Prod.snd A4_)))), SV.agg [s_ (Ty.ix Ty.int [(20000000 : Int), (20000001 : Int)] (Int.toNat (g_rdPick A2_ ((0 : Int) + A3_ + (3 : Int) + (1 : Int)) (↑(List.length [(20000000 : Int), (20000001 : Int)]) : Int) % (↑(List.length [(20000000 : Int), (20000001 : Int)]) : Int)))), s_ (Vec.Y (Subtype.val (Prod.fst (g_l11Drive A2_ ((0 : Int) + A3_) (2 : Int)))))]]) [(false, Blk.vec Ty.byte b), (true, Blk.vec Ty.body (Prod.fst (Prod.snd A4_))), (true, Blk.vec Ty.pair (Prod.snd (Prod.snd A4_)))]) (((0 : Int) ≤ (0 : Int) + A3_ + (3 : Int) + (1 : Int) ∧ (0 : Int) + A3_ + (3 : Int) + (1 : Int) + (2 : Int) ≤ (1000000000000 : Int) ∧ BytesOk A2_ ∧ List.length (Prod.fst (Prod.snd A4_)) ≤ (1048576 : Nat)) ∧ Q (SV.tup [SV.agg [s_ (Prod.fst (Subtype.val (Prod.fst A1_))), s_ (Prod.fst A4_), SV.vec (1 : Nat), SV.vec (2 : Nat)], s_ (Prod.fst (g_l11Id A2_ ((0 : Int) + A3_ + (3 : Int) + (1 : Int)) (Prod.fst (Subtype.val (Prod.fst A1_))) (Prod.fst A4_) (Prod.fst (Prod.snd A4_)) (Prod.snd (Prod.snd A4_)))), SV.agg [s_ (Vec.X (Subtype.val (Prod.fst (g_l11Drive A2_ ((0 : Int) + A3_) (2 : Int))))), s_ (Vec.Y (Subtype.val (Prod.fst (g_l11Drive A2_ ((0 : Int) + A3_) (2 : Int)))))]]) [(false, Blk.vec Ty.byte b), (true, Blk.vec Ty.body (Prod.fst (Prod.snd A4_))), (true, Blk.vec Ty.pair (Prod.snd (Prod.snd A4_)))])) := by kernel_rfl

theorem ok_DrawWorldPush : FsOk Tryz.prog 68 fs_DrawWorldPush := fsOk_of tt_ok (tabFs_cons ok_l1Open (tabFs_cons ok_l11AnyWorld (tabFs_cons ok_l11Drive (tabFs_cons ok_rdPick (tabFs_cons ok_rdOne (tabFs_cons ok_l11Id tabFs_nil)))))) mixed Tryz.func68 (by kernel_rfl) (by kernel_rfl) (by
    intro args LL p0 r HH h hp
    unfold fs_DrawWorldPush at h
    dsimp only at h
    split at h
    case h_2 => cases h
    rename_i b
    simp only [Option.some.injEq, Prod.mk.injEq] at h
    obtain ⟨rfl, rfl, rfl⟩ := h
    refine ⟨by simp [Form, stays], L0, ?_⟩
    have hby := hp _ rfl
    refine someAns_ok (R := (fun x : {x : (Int × Int × List Body × List Pair) × Int × Vec // pushWD x} => (.tup [.agg [.int .i64 ((x.1).1).1, .int .i64 ((x.1).1).2.1, .vec 1, .vec 2], .int .i64 ((x.1).2.1), .agg [.int .i64 ((x.1).2.2).X, .int .i64 ((x.1).2.2).Y]] : SV))) (HH := (fun x : {x : (Int × Int × List Body × List Pair) × Int × Vec // pushWD x} => ([(false, .vec .byte b), (true, .vec .body (((x.1).1).2.2.1)), (true, .vec .pair (((x.1).1).2.2.2))] : List Ent))) (by kernel_rfl) ?_
    have fin : ∀ (z0T : Int) (z0P : Int) (z0B : List Body) (z0Q : List Pair) (z1 : Int) (z2X : Int) (z2Y : Int), pushWD ((z0T, z0P, z0B, z0Q), z1, (Vec.mk z2X z2Y)) → ∃ x : {x : (Int × Int × List Body × List Pair) × Int × Vec // pushWD x}, ((.tup [.agg [.int .i64 ((((z0T, z0P, z0B, z0Q), z1, (Vec.mk z2X z2Y))).1).1, .int .i64 ((((z0T, z0P, z0B, z0Q), z1, (Vec.mk z2X z2Y))).1).2.1, .vec 1, .vec 2], .int .i64 ((((z0T, z0P, z0B, z0Q), z1, (Vec.mk z2X z2Y))).2.1), .agg [.int .i64 ((((z0T, z0P, z0B, z0Q), z1, (Vec.mk z2X z2Y))).2.2).X, .int .i64 ((((z0T, z0P, z0B, z0Q), z1, (Vec.mk z2X z2Y))).2.2).Y]] : SV) : SV) = (fun x : {x : (Int × Int × List Body × List Pair) × Int × Vec // pushWD x} => (.tup [.agg [.int .i64 ((x.1).1).1, .int .i64 ((x.1).1).2.1, .vec 1, .vec 2], .int .i64 ((x.1).2.1), .agg [.int .i64 ((x.1).2.2).X, .int .i64 ((x.1).2.2).Y]] : SV)) x ∧ (([(false, .vec .byte b), (true, .vec .body (((((z0T, z0P, z0B, z0Q), z1, (Vec.mk z2X z2Y))).1).2.2.1)), (true, .vec .pair (((((z0T, z0P, z0B, z0Q), z1, (Vec.mk z2X z2Y))).1).2.2.2))] : List Ent) : List Ent) = (fun x : {x : (Int × Int × List Body × List Pair) × Int × Vec // pushWD x} => ([(false, .vec .byte b), (true, .vec .body (((x.1).1).2.2.1)), (true, .vec .pair (((x.1).1).2.2.2))] : List Ent)) x := fun z0T z0P z0B z0Q z1 z2X z2Y hpred => ⟨⟨((z0T, z0P, z0B, z0Q), z1, (Vec.mk z2X z2Y)), hpred⟩, rfl, rfl⟩
    rw [vc_DrawWorldPush]
    try dsimp only
    try dsimp only at fin
    have hc := hby.part 0 (min b.length 2000)
    generalize List.take (min b.length 2000) (List.drop 0 b) = c at *
    have hw := (g_l11AnyWorld c 0).1.2
    simp only [worldD] at hw
    repeat' (first | refine ifB_of (fun _ => ?_) (fun _ => ?_) | refine pre_of ?_ (fun _ => ?_))
    all_goals first
      | omega
      | exact hc
      | exact Nat.le_add_left _ _
      | (refine fin _ _ _ _ _ _ _ ?_; exact hw)
      | exact Int.emod_nonneg _ (by have := of_decide_eq_true ‹decide (_ > (0 : Int)) = true›; omega)
      | exact Int.emod_lt_of_pos _ (by have := of_decide_eq_true ‹decide (_ > (0 : Int)) = true›; omega)
      | (have := of_decide_eq_true ‹decide (_ > (0 : Int)) = true›; omega))

end
end Go.Proofs.YtdhbkcaaijgocaaGreat.Sym

namespace Go.Proofs.YtdhbkcaaijgocaaGreat.Sym
open Go
set_option linter.unusedVariables false
set_option linter.unusedSimpArgs false
set_option maxRecDepth 100000

noncomputable def fs_lawsPqWorld : Fs := ⟨[], fun args H => match args, H with
  | [.agg [.int .i64 t, .int .i64 p, .vec 0, .vec 1], .agg [.int .i64 t', .int .i64 p', .vec 2, .vec 3]], [(false, .vec .body xs), (false, .vec .pair ps), (false, .vec .body ys), (false, .vec .pair qs)] => some ((some (xs.length ≤ 4611686018427387904 ∧ ps.length ≤ 4611686018427387904)), .bool (eqW4 t p xs ps t' p' ys qs), [(false, .vec .body xs), (false, .vec .pair ps), (false, .vec .body ys), (false, .vec .pair qs)])
  | _, _ => none⟩

theorem vc_lawsPqWorld (t : Int) (p : Int) (t' : Int) (p' : Int) (xs : List Body) (ps : List Pair) (ys : List Body) (qs : List Pair) (Q : SV → List Ent → Prop) :
    fnVC tt (look [(35, fs_lawsPqBodies), (57, fs_lawsPqPairs)]) L0 Tryz.f71 [.agg [.int .i64 t, .int .i64 p, .vec 0, .vec 1], .agg [.int .i64 t', .int .i64 p', .vec 2, .vec 3]] [(false, .vec .body xs), (false, .vec .pair ps), (false, .vec .body ys), (false, .vec .pair qs)] Q =
    (ifB (t == t') (ifB (p == p') (List.length xs ≤ (4611686018427387904 : Nat) ∧ ifB (same xs ys) (List.length ps ≤ (4611686018427387904 : Nat) ∧ Q (SV.bool (same ps qs)) [(false, Blk.vec Ty.body xs), (false, Blk.vec Ty.pair ps), (false, Blk.vec Ty.body ys), (false, Blk.vec Ty.pair qs)]) (Q (SV.bool false) [(false, Blk.vec Ty.body xs), (false, Blk.vec Ty.pair ps), (false, Blk.vec Ty.body ys), (false, Blk.vec Ty.pair qs)])) (Q (SV.bool false) [(false, Blk.vec Ty.body xs), (false, Blk.vec Ty.pair ps), (false, Blk.vec Ty.body ys), (false, Blk.vec Ty.pair qs)])) (Q (SV.bool false) [(false, Blk.vec Ty.body xs), (false, Blk.vec Ty.pair ps), (false, Blk.vec Ty.body ys), (false, Blk.vec Ty.pair qs)])) := by kernel_rfl

theorem ok_lawsPqWorld : FsOk Tryz.prog 71 fs_lawsPqWorld := fsOk_of tt_ok (tabFs_cons ok_lawsPqBodies (tabFs_cons ok_lawsPqPairs tabFs_nil)) mixed Tryz.func71 (by kernel_rfl) (by kernel_rfl) (by
    intro args LL p r HH h hp
    unfold fs_lawsPqWorld at h
    dsimp only at h
    split at h
    case h_2 => cases h
    rename_i t p t' p' xs ps ys qs
    simp only [Option.some.injEq, Prod.mk.injEq] at h
    obtain ⟨rfl, rfl, rfl⟩ := h
    refine ⟨by simp [Form, stays], L0, ?_⟩
    rw [vc_lawsPqWorld]
    try dsimp only
    obtain ⟨hb, hb2⟩ := hp _ rfl
    refine ifB_of (fun c => ifB_of (fun c2 => ⟨hb, ifB_of (fun c3 => ⟨hb2, ?_⟩) (fun c3 => ?_)⟩) (fun c2 => ?_)) (fun c => ?_)
    · simp [eqW4, c, c2, c3]
    · simp [eqW4, c, c2, c3]
    · simp [eqW4, c, c2]
    · simp [eqW4, c])

end Go.Proofs.YtdhbkcaaijgocaaGreat.Sym

namespace Go.Proofs.YtdhbkcaaijgocaaGreat.Sym
open Go
set_option linter.unusedVariables false
set_option linter.unusedSimpArgs false
set_option maxRecDepth 100000
noncomputable section

noncomputable def fs_implPushBox : Fs := ⟨[], fun args H => match args, H with
  | [.ptr 0 0 0, .agg [.int .i64 pX, .int .i64 pY]], [(true, .box [.int .i64 bI, .int .i64 bK, .int .i64 bW, .int .i64 bH, .int .i64 bX, .int .i64 bY, .int .i64 bU, .int .i64 bV, .int .i64 bM, .int .i64 bB, .int .i64 bR, .int .i64 bQ])] => some (none, .tup [], [(true, .box [.int .i64 (pushB (Body.mk bI (Shape.mk bK bW bH) (Vec.mk bX bY) (Vec.mk bU bV) bM bB bR bQ) ⟨pX, pY⟩).Id, .int .i64 (pushB (Body.mk bI (Shape.mk bK bW bH) (Vec.mk bX bY) (Vec.mk bU bV) bM bB bR bQ) ⟨pX, pY⟩).Shape.Kind, .int .i64 (pushB (Body.mk bI (Shape.mk bK bW bH) (Vec.mk bX bY) (Vec.mk bU bV) bM bB bR bQ) ⟨pX, pY⟩).Shape.Wide, .int .i64 (pushB (Body.mk bI (Shape.mk bK bW bH) (Vec.mk bX bY) (Vec.mk bU bV) bM bB bR bQ) ⟨pX, pY⟩).Shape.High, .int .i64 (pushB (Body.mk bI (Shape.mk bK bW bH) (Vec.mk bX bY) (Vec.mk bU bV) bM bB bR bQ) ⟨pX, pY⟩).At.X, .int .i64 (pushB (Body.mk bI (Shape.mk bK bW bH) (Vec.mk bX bY) (Vec.mk bU bV) bM bB bR bQ) ⟨pX, pY⟩).At.Y, .int .i64 (pushB (Body.mk bI (Shape.mk bK bW bH) (Vec.mk bX bY) (Vec.mk bU bV) bM bB bR bQ) ⟨pX, pY⟩).Drive.X, .int .i64 (pushB (Body.mk bI (Shape.mk bK bW bH) (Vec.mk bX bY) (Vec.mk bU bV) bM bB bR bQ) ⟨pX, pY⟩).Drive.Y, .int .i64 (pushB (Body.mk bI (Shape.mk bK bW bH) (Vec.mk bX bY) (Vec.mk bU bV) bM bB bR bQ) ⟨pX, pY⟩).Mass, .int .i64 (pushB (Body.mk bI (Shape.mk bK bW bH) (Vec.mk bX bY) (Vec.mk bU bV) bM bB bR bQ) ⟨pX, pY⟩).Bounce, .int .i64 (pushB (Body.mk bI (Shape.mk bK bW bH) (Vec.mk bX bY) (Vec.mk bU bV) bM bB bR bQ) ⟨pX, pY⟩).Rub, .int .i64 (pushB (Body.mk bI (Shape.mk bK bW bH) (Vec.mk bX bY) (Vec.mk bU bV) bM bB bR bQ) ⟨pX, pY⟩).Quiet])])
  | _, _ => none⟩

theorem vc_implPushBox (bI : Int) (bK : Int) (bW : Int) (bH : Int) (bX : Int) (bY : Int) (bU : Int) (bV : Int) (bM : Int) (bB : Int) (bR : Int) (bQ : Int) (pX : Int) (pY : Int) (Q : SV → List Ent → Prop) :
    fnVC tt (look [(140, fs_bodyFixed), (112, fs_vecPlus), (173, fs_vecClamped)]) L0 Tryz.f157 [.ptr 0 0 0, .agg [.int .i64 pX, .int .i64 pY]] [(true, .box [.int .i64 bI, .int .i64 bK, .int .i64 bW, .int .i64 bH, .int .i64 bX, .int .i64 bY, .int .i64 bU, .int .i64 bV, .int .i64 bM, .int .i64 bB, .int .i64 bR, .int .i64 bQ])] Q =
    (ifB (!bM == (0 : Int)) (Q (SV.tup []) [(true, Blk.box [SV.int IntKind.i64 bI, SV.int IntKind.i64 bK, SV.int IntKind.i64 bW, SV.int IntKind.i64 bH, SV.int IntKind.i64 bX, SV.int IntKind.i64 bY, SV.int IntKind.i64 (withinI (Vec.X (plus (Vec.mk bU bV) (Vec.mk pX pY))) (20000000 : Int)), SV.int IntKind.i64 (withinI (Vec.Y (plus (Vec.mk bU bV) (Vec.mk pX pY))) (20000000 : Int)), SV.int IntKind.i64 bM, SV.int IntKind.i64 bB, SV.int IntKind.i64 bR, SV.int IntKind.i64 (0 : Int)])]) (Q (SV.tup []) [(true, Blk.box [SV.int IntKind.i64 bI, SV.int IntKind.i64 bK, SV.int IntKind.i64 bW, SV.int IntKind.i64 bH, SV.int IntKind.i64 bX, SV.int IntKind.i64 bY, SV.int IntKind.i64 bU, SV.int IntKind.i64 bV, SV.int IntKind.i64 bM, SV.int IntKind.i64 bB, SV.int IntKind.i64 bR, SV.int IntKind.i64 bQ])])) := by kernel_rfl

theorem ok_implPushBox : FsOk Tryz.prog 157 fs_implPushBox := fsOk_of tt_ok (tabFs_cons ok_bodyFixed (tabFs_cons ok_vecPlus (tabFs_cons ok_vecClamped tabFs_nil))) mixed Tryz.func157 (by kernel_rfl) (by kernel_rfl) (by
    intro args LL p r HH h hp
    unfold fs_implPushBox at h
    dsimp only at h
    split at h
    case h_2 => cases h
    rename_i pX pY bI bK bW bH bX bY bU bV bM bB bR bQ
    simp only [Option.some.injEq, Prod.mk.injEq] at h
    obtain ⟨rfl, rfl, rfl⟩ := h
    refine ⟨by simp [Form, stays], L0, ?_⟩
    rw [vc_implPushBox]
    try dsimp only
    unfold pushB
    refine ifB_of (fun c => ?_) (fun c => ?_)
    · have c : ¬ bM = 0 := by simpa using c
      simp only [if_neg c, plus]
      exact ⟨(by trivial), (by trivial)⟩
    · have c : bM = 0 := by simpa using c
      simp only [if_pos c]
      exact ⟨(by trivial), (by trivial)⟩)

def pushAllB1 (b : Body) (p : Vec) : Body := bif bodyOk b && driveOk p then pushB b p else ⟨0, ⟨0, 0, 0⟩, ⟨0, 0⟩, ⟨0, 0⟩, 0, 0, 0, 0⟩
noncomputable def fs_implBodyPush : Fs := ⟨[], fun args H => match args, H with
  | [.agg [.int .i64 bI, .int .i64 bK, .int .i64 bW, .int .i64 bH, .int .i64 bX, .int .i64 bY, .int .i64 bU, .int .i64 bV, .int .i64 bM, .int .i64 bB, .int .i64 bR, .int .i64 bQ], .agg [.int .i64 pX, .int .i64 pY]], [] => some (none, .agg [.int .i64 (pushAllB1 (Body.mk bI (Shape.mk bK bW bH) (Vec.mk bX bY) (Vec.mk bU bV) bM bB bR bQ) (Vec.mk pX pY)).Id, .int .i64 (pushAllB1 (Body.mk bI (Shape.mk bK bW bH) (Vec.mk bX bY) (Vec.mk bU bV) bM bB bR bQ) (Vec.mk pX pY)).Shape.Kind, .int .i64 (pushAllB1 (Body.mk bI (Shape.mk bK bW bH) (Vec.mk bX bY) (Vec.mk bU bV) bM bB bR bQ) (Vec.mk pX pY)).Shape.Wide, .int .i64 (pushAllB1 (Body.mk bI (Shape.mk bK bW bH) (Vec.mk bX bY) (Vec.mk bU bV) bM bB bR bQ) (Vec.mk pX pY)).Shape.High, .int .i64 (pushAllB1 (Body.mk bI (Shape.mk bK bW bH) (Vec.mk bX bY) (Vec.mk bU bV) bM bB bR bQ) (Vec.mk pX pY)).At.X, .int .i64 (pushAllB1 (Body.mk bI (Shape.mk bK bW bH) (Vec.mk bX bY) (Vec.mk bU bV) bM bB bR bQ) (Vec.mk pX pY)).At.Y, .int .i64 (pushAllB1 (Body.mk bI (Shape.mk bK bW bH) (Vec.mk bX bY) (Vec.mk bU bV) bM bB bR bQ) (Vec.mk pX pY)).Drive.X, .int .i64 (pushAllB1 (Body.mk bI (Shape.mk bK bW bH) (Vec.mk bX bY) (Vec.mk bU bV) bM bB bR bQ) (Vec.mk pX pY)).Drive.Y, .int .i64 (pushAllB1 (Body.mk bI (Shape.mk bK bW bH) (Vec.mk bX bY) (Vec.mk bU bV) bM bB bR bQ) (Vec.mk pX pY)).Mass, .int .i64 (pushAllB1 (Body.mk bI (Shape.mk bK bW bH) (Vec.mk bX bY) (Vec.mk bU bV) bM bB bR bQ) (Vec.mk pX pY)).Bounce, .int .i64 (pushAllB1 (Body.mk bI (Shape.mk bK bW bH) (Vec.mk bX bY) (Vec.mk bU bV) bM bB bR bQ) (Vec.mk pX pY)).Rub, .int .i64 (pushAllB1 (Body.mk bI (Shape.mk bK bW bH) (Vec.mk bX bY) (Vec.mk bU bV) bM bB bR bQ) (Vec.mk pX pY)).Quiet], [])
  | _, _ => none⟩

theorem vc_implBodyPush (bI : Int) (bK : Int) (bW : Int) (bH : Int) (bX : Int) (bY : Int) (bU : Int) (bV : Int) (bM : Int) (bB : Int) (bR : Int) (bQ : Int) (pX : Int) (pY : Int) (Q : SV → List Ent → Prop) :
    fnVC tt (look [(111, fs_implBodyOk), (156, fs_isDrive), (157, fs_implPushBox)]) L0 Tryz.f72 [.agg [.int .i64 bI, .int .i64 bK, .int .i64 bW, .int .i64 bH, .int .i64 bX, .int .i64 bY, .int .i64 bU, .int .i64 bV, .int .i64 bM, .int .i64 bB, .int .i64 bR, .int .i64 bQ], .agg [.int .i64 pX, .int .i64 pY]] [] Q =
    (ifB (!bodyOk (Body.mk bI (Shape.mk bK bW bH) (Vec.mk bX bY) (Vec.mk bU bV) bM bB bR bQ)) (Q (SV.agg [SV.int IntKind.i64 (0 : Int), SV.int IntKind.i64 (0 : Int), SV.int IntKind.i64 (0 : Int), SV.int IntKind.i64 (0 : Int), SV.int IntKind.i64 (0 : Int), SV.int IntKind.i64 (0 : Int), SV.int IntKind.i64 (0 : Int), SV.int IntKind.i64 (0 : Int), SV.int IntKind.i64 (0 : Int), SV.int IntKind.i64 (0 : Int), SV.int IntKind.i64 (0 : Int), SV.int IntKind.i64 (0 : Int)]) []) (ifB (!driveOk (Vec.mk pX pY)) (Q (SV.agg [SV.int IntKind.i64 (0 : Int), SV.int IntKind.i64 (0 : Int), SV.int IntKind.i64 (0 : Int), SV.int IntKind.i64 (0 : Int), SV.int IntKind.i64 (0 : Int), SV.int IntKind.i64 (0 : Int), SV.int IntKind.i64 (0 : Int), SV.int IntKind.i64 (0 : Int), SV.int IntKind.i64 (0 : Int), SV.int IntKind.i64 (0 : Int), SV.int IntKind.i64 (0 : Int), SV.int IntKind.i64 (0 : Int)]) []) (Q (SV.agg [SV.int IntKind.i64 (Body.Id (pushB (Body.mk bI (Shape.mk bK bW bH) (Vec.mk bX bY) (Vec.mk bU bV) bM bB bR bQ) (Vec.mk pX pY))), SV.int IntKind.i64 (Shape.Kind (Body.Shape (pushB (Body.mk bI (Shape.mk bK bW bH) (Vec.mk bX bY) (Vec.mk bU bV) bM bB bR bQ) (Vec.mk pX pY)))), SV.int IntKind.i64 (Shape.Wide (Body.Shape (pushB (Body.mk bI (Shape.mk bK bW bH) (Vec.mk bX bY) (Vec.mk bU bV) bM bB bR bQ) (Vec.mk pX pY)))), SV.int IntKind.i64 (Shape.High (Body.Shape (pushB (Body.mk bI (Shape.mk bK bW bH) (Vec.mk bX bY) (Vec.mk bU bV) bM bB bR bQ) (Vec.mk pX pY)))), SV.int IntKind.i64 (Vec.X (Body.At (pushB (Body.mk bI (Shape.mk bK bW bH) (Vec.mk bX bY) (Vec.mk bU bV) bM bB bR bQ) (Vec.mk pX pY)))), SV.int IntKind.i64 (Vec.Y (Body.At (pushB (Body.mk bI (Shape.mk bK bW bH) (Vec.mk bX bY) (Vec.mk bU bV) bM bB bR bQ) (Vec.mk pX pY)))), SV.int IntKind.i64 (Vec.X (Body.Drive (pushB (Body.mk bI (Shape.mk bK bW bH) (Vec.mk bX bY) (Vec.mk bU bV) bM bB bR bQ) (Vec.mk pX pY)))), SV.int IntKind.i64 (Vec.Y (Body.Drive (pushB (Body.mk bI (Shape.mk bK bW bH) (Vec.mk bX bY) (Vec.mk bU bV) bM bB bR bQ) (Vec.mk pX pY)))), SV.int IntKind.i64 (Body.Mass (pushB (Body.mk bI (Shape.mk bK bW bH) (Vec.mk bX bY) (Vec.mk bU bV) bM bB bR bQ) (Vec.mk pX pY))), SV.int IntKind.i64 (Body.Bounce (pushB (Body.mk bI (Shape.mk bK bW bH) (Vec.mk bX bY) (Vec.mk bU bV) bM bB bR bQ) (Vec.mk pX pY))), SV.int IntKind.i64 (Body.Rub (pushB (Body.mk bI (Shape.mk bK bW bH) (Vec.mk bX bY) (Vec.mk bU bV) bM bB bR bQ) (Vec.mk pX pY))), SV.int IntKind.i64 (Body.Quiet (pushB (Body.mk bI (Shape.mk bK bW bH) (Vec.mk bX bY) (Vec.mk bU bV) bM bB bR bQ) (Vec.mk pX pY)))]) []))) := by kernel_rfl

theorem ok_implBodyPush : FsOk Tryz.prog 72 fs_implBodyPush := fsOk_of tt_ok (tabFs_cons ok_implBodyOk (tabFs_cons ok_isDrive (tabFs_cons ok_implPushBox tabFs_nil))) mixed Tryz.func72 (by kernel_rfl) (by kernel_rfl) (by
    intro args LL p r HH h hp
    unfold fs_implBodyPush at h
    dsimp only at h
    split at h
    case h_2 => cases h
    rename_i bI bK bW bH bX bY bU bV bM bB bR bQ pX pY
    simp only [Option.some.injEq, Prod.mk.injEq] at h
    obtain ⟨rfl, rfl, rfl⟩ := h
    refine ⟨by simp [Form, stays], L0, ?_⟩
    rw [vc_implBodyPush]
    try dsimp only
    refine ifB_of (fun c => ?_) (fun c => ifB_of (fun c2 => ?_) (fun c2 => ?_))
    · simp [pushAllB1, not_true c]
    · simp [pushAllB1, not_true c2]
    · simp only [pushAllB1, not_false c, not_false c2, Bool.and_self, cond_true]
      exact ⟨(by trivial), (by trivial)⟩)

theorem bounds_okB {b : Body} (h : bodyOk b = true) : boxOk (bounds b.Shape b.At) = true ∧ shapeBounds b.Shape b.At = bounds b.Shape b.At := by
  have h1 := itemOf_ok h
  have hB := bok_iff.1 h
  unfold itemOk itemOf at h1
  rw [Bool.and_eq_true] at h1
  refine ⟨h1.2, ?_⟩
  unfold shapeBounds
  rw [hB.2.1, placeOk_V hB.2.2.1]
  rfl
theorem big_meets {b : Body} (h : bodyOk b = true) : inB ⟨⟨-1000000000, -1000000000⟩, ⟨1000000000, 1000000000⟩⟩ b = true := by
  have hB := bok_iff.1 h
  obtain ⟨e, f1, f2⟩ := bounds_at hB.2.1 hB.2.2.1
  have hs := shapeOk_le hB.2.1
  have hp := hB.2.2.1
  unfold inB
  rw [e]
  have e1 := decide_eq_true (show (boxAt b.At b.Shape.Wide (highOf b.Shape)).Low.X ≤ 1000000000 by unfold boxAt; dsimp only; omega)
  have e2 := decide_eq_true (show -1000000000 ≤ (boxAt b.At b.Shape.Wide (highOf b.Shape)).High.X by unfold boxAt; dsimp only; omega)
  have e3 := decide_eq_true (show (boxAt b.At b.Shape.Wide (highOf b.Shape)).Low.Y ≤ 1000000000 by unfold boxAt; dsimp only; omega)
  have e4 := decide_eq_true (show -1000000000 ≤ (boxAt b.At b.Shape.Wide (highOf b.Shape)).High.Y by unfold boxAt; dsimp only; omega)
  unfold boxMeets
  dsimp only
  rw [e1, e2, e3, e4]
  rfl
theorem idsF_all {f : Body → Bool} {xs : List Body} (h : ∀ k, k < xs.length → f (Ty.ix .body xs k) = true) : (idsF f xs).length = xs.length := by
  unfold idsF
  rw [List.length_map, List.filter_eq_self.2]
  intro x hx
  obtain ⟨k, hk, e⟩ := List.getElem_of_mem hx
  have := h k hk
  rwa [ix_eq (T := .body) (List.getElem?_eq_getElem hk), e] at this
def LSlwi  : LS where
  S := List Int × (Int × Int × List Body × List Pair) × Box × List Int × Int × Int
  live := [(3, [none]), (4, [none]), (5, [some .int]), (6, [none]), (7, [none])]
  shape := fun s => ([.ptr 3 0 0, .ptr 4 0 0, .vec 5, .int .i64 s.2.2.2.2.1, .int .i64 s.2.2.2.2.2], [(false, .vec .byte s.1), (true, .vec .body s.2.1.2.2.1), (true, .vec .pair s.2.1.2.2.2), (true, .box [.int .i64 s.2.1.1, .int .i64 s.2.1.2.1, .vec 1, .vec 2]), (true, .box [.int .i64 s.2.2.1.Low.X, .int .i64 s.2.2.1.Low.Y, .int .i64 s.2.2.1.High.X, .int .i64 s.2.2.1.High.Y]), (true, .vec .int s.2.2.2.1)])
  get := fun v h => match v, h with
    | [.ptr 3 0 0, .ptr 4 0 0, .vec 5, .int .i64 n, .int .i64 i], [(false, .vec .byte b), (true, .vec .body wd_2), (true, .vec .pair wd_3), (true, .box [.int .i64 wd_0, .int .i64 wd_1, .vec 1, .vec 2]), (true, .box [.int .i64 bxLX, .int .i64 bxLY, .int .i64 bxHX, .int .i64 bxHY]), (true, .vec .int ls)] => some (b, (wd_0, wd_1, wd_2, wd_3), (Box.mk (Vec.mk bxLX bxLY) (Vec.mk bxHX bxHY)), ls, n, i)
    | _, _ => none
  inv := fun s0 s => Holds (s.1 = s0.1 ∧ s.2.1 = s0.2.1 ∧ s.2.2.1 = s0.2.2.1 ∧ s.2.2.2.1 = s0.2.2.2.1 ∧ 0 ≤ s.2.2.2.2.2 ∧ s.2.2.2.2.2 ≤ s0.2.1.2.2.1.length ∧ 0 ≤ s.2.2.2.2.1 ∧ s.2.2.2.2.1 ≤ s0.2.2.2.1.length ∧ s0.2.2.2.1.drop s.2.2.2.2.1.toNat = idsF (inB s0.2.2.1) (s0.2.1.2.2.1.drop s.2.2.2.2.2.toNat))
  mu := fun s => ((s.2.1.2.2.1.length : Int) - s.2.2.2.2.2).toNat
  ok := by
    intro v h s hg
    try dsimp only at hg
    split at hg <;> cases hg
    rfl

def L_lawWorldIn : Loops := fun n => match n with
  | 9 => some LSlwi
  | _ => none
noncomputable def fs_lawWorldIn : Fs := ⟨[], fun args H => match args, H with
  | [.vec 0], [(false, .vec .byte b)] => some ((some (LOk .byte b)), .bool (true), [(false, .vec .byte b)])
  | _, _ => none⟩

theorem vc_lawWorldIn (b : List Int) (Q : SV → List Ent → Prop) :
    fnVC tt (look [(42, fs_DrawWorldIn), (43, fs_implWorldIn), (45, fs_specWorldIn), (44, fs_lawsPqInts), (46, fs_specWorldOk), (47, fs_specBoxOk), (49, fs_implShapeBounds), (48, fs_implBoxMeets)]) (L_lawWorldIn) Tryz.f8 [.vec 0] [(false, .vec .byte b)] Q =
    (let w_ := IntKind.wrap IntKind.i64; let n_ := Int.toNat; let vy_ := Blk.vec Ty.byte; let A12_ := (Subtype.val (g_DrawWorldIn b)); let A11_ := (Prod.snd (Prod.snd (Prod.fst A12_))); let A10_ := (worldIn (Prod.fst (Prod.fst A12_)) (Prod.fst (Prod.snd (Prod.fst A12_))) (Prod.fst A11_) (Prod.snd A11_) (Prod.snd A12_)); ifB (decide ((↑(List.length b) : Int) > (1048576 : Int))) (Q (SV.bool true) [(false, vy_ b)]) (BytesOk b ∧ (List.length (Prod.fst A11_) ≤ (1048576 : Nat) ∧ List.length (Prod.snd A11_) ≤ (1048576 : Nat)) ∧ (List.length (Prod.fst A11_) ≤ (1048576 : Nat) ∧ List.length (Prod.snd A11_) ≤ (1048576 : Nat)) ∧ List.length A10_ ≤ (4611686018427387904 : Nat) ∧ ifB (!same A10_ A10_) ((List.length (Prod.fst A11_) ≤ (1048576 : Nat) ∧ List.length (Prod.snd A11_) ≤ (1048576 : Nat)) ∧ List.length A10_ ≤ (4611686018427387904 : Nat) ∧ Q (SV.bool (same A10_ A10_)) [(false, vy_ b)]) ((List.length (Prod.fst A11_) ≤ (1048576 : Nat) ∧ List.length (Prod.snd A11_) ≤ (1048576 : Nat)) ∧ ifB (!worldOk (Prod.fst (Prod.fst A12_)) (Prod.fst (Prod.snd (Prod.fst A12_))) (Prod.fst A11_) (Prod.snd A11_)) ((List.length (Prod.fst A11_) ≤ (1048576 : Nat) ∧ List.length (Prod.snd A11_) ≤ (1048576 : Nat)) ∧ List.length A10_ ≤ (4611686018427387904 : Nat) ∧ Q (SV.bool (same A10_ A10_)) [(false, vy_ b)]) (ifB (!boxOk (Prod.snd A12_)) ((List.length (Prod.fst A11_) ≤ (1048576 : Nat) ∧ List.length (Prod.snd A11_) ≤ (1048576 : Nat)) ∧ List.length A10_ ≤ (4611686018427387904 : Nat) ∧ Q (SV.bool (same A10_ A10_)) [(false, vy_ b)]) (Holds (b = b ∧ Prod.fst A12_ = Prod.fst A12_ ∧ Prod.snd A12_ = Prod.snd A12_ ∧ worldIn (Prod.fst (Prod.fst A12_)) (Prod.fst (Prod.snd (Prod.fst A12_))) (Prod.fst A11_) (Prod.snd A11_) (Prod.snd A12_) = worldIn (Prod.fst (Prod.fst A12_)) (Prod.fst (Prod.snd (Prod.fst A12_))) (Prod.fst A11_) (Prod.snd A11_) (Prod.snd A12_) ∧ (0 : Int) ≤ (0 : Int) ∧ (0 : Int) ≤ (↑(List.length (Prod.fst A11_)) : Int) ∧ (0 : Int) ≤ (0 : Int) ∧ (0 : Int) ≤ (↑(List.length A10_) : Int) ∧ List.drop (n_ (0 : Int)) A10_ = idsF (inB (Prod.snd A12_)) (List.drop (n_ (0 : Int)) (Prod.fst A11_))) ∧ ∀ (y1 : List Int × (Int × Int × List Body × List Pair) × Box × List Int × Int × Int), let y1f0_ := Prod.fst y1; let y1s1_ := Prod.snd y1; let y1f1_ := Prod.fst (Prod.snd y1); let y1f2_ := Prod.fst (Prod.snd (Prod.snd y1)); let y1f3_ := Prod.fst (Prod.snd (Prod.snd (Prod.snd y1))); let y1s4_ := Prod.snd (Prod.snd (Prod.snd (Prod.snd y1))); let y1f4_ := Prod.fst (Prod.snd (Prod.snd (Prod.snd (Prod.snd y1)))); let y1s5_ := Prod.snd (Prod.snd (Prod.snd (Prod.snd (Prod.snd y1)))); let A7_ := (Prod.snd y1s4_ + (1 : Int)); let A4_ := (Prod.fst (Prod.snd (Prod.snd y1f1_))); let A8_ := (Ty.ix Ty.body A4_ (n_ y1s5_)); let A6_ := (↑(List.length A4_) : Int); let A3_ := A12_; let A9_ := (Prod.fst (Prod.snd (Prod.fst A3_))); let A5_ := (Prod.snd (Prod.snd (Prod.fst A3_))); let A2_ := (worldIn (Prod.fst (Prod.fst A3_)) A9_ (Prod.fst A5_) (Prod.snd A5_) (Prod.snd A3_)); Holds (Prod.fst y1 = b ∧ y1f1_ = Prod.fst A3_ ∧ y1f2_ = Prod.snd A3_ ∧ y1f3_ = worldIn (Prod.fst (Prod.fst A3_)) A9_ (Prod.fst A5_) (Prod.snd A5_) (Prod.snd A3_) ∧ (0 : Int) ≤ y1s5_ ∧ y1s5_ ≤ (↑(List.length (Prod.fst A5_)) : Int) ∧ (0 : Int) ≤ y1f4_ ∧ y1f4_ ≤ (↑(List.length A2_) : Int) ∧ List.drop (n_ y1f4_) A2_ = idsF (inB (Prod.snd A3_)) (List.drop (n_ y1s5_) (Prod.fst A5_))) → ifB (decide (Prod.snd y1s4_ < A6_)) (((0 : Int) ≤ y1s5_ ∧ y1s5_ < A6_) ∧ ((0 : Int) ≤ y1s5_ ∧ y1s5_ < A6_) ∧ ifB (boxOk (shapeBounds (Body.Shape A8_) (Body.At A8_)) && boxOk y1f2_ && boxMeets (shapeBounds (Body.Shape A8_) (Body.At A8_)) y1f2_) (ifB (decide (Prod.fst y1s4_ ≥ (↑(List.length y1f3_) : Int))) (Q (SV.bool false) [(false, vy_ y1f0_)]) (((0 : Int) ≤ y1f4_ ∧ y1f4_ < (↑(List.length y1f3_) : Int)) ∧ ((0 : Int) ≤ y1s5_ ∧ y1s5_ < A6_) ∧ ifB (Ty.ix Ty.int y1f3_ (n_ y1f4_) != Body.Id A8_) (Q (SV.bool false) [(false, vy_ y1f0_)]) (Holds (Prod.fst y1 = b ∧ y1f1_ = Prod.fst A3_ ∧ y1f2_ = Prod.snd A3_ ∧ y1f3_ = worldIn (Prod.fst (Prod.fst A3_)) A9_ (Prod.fst A5_) (Prod.snd A5_) (Prod.snd A3_) ∧ (0 : Int) ≤ w_ A7_ ∧ w_ A7_ ≤ (↑(List.length (Prod.fst A5_)) : Int) ∧ (0 : Int) ≤ w_ (Prod.fst y1s4_ + (1 : Int)) ∧ w_ (Prod.fst y1s4_ + (1 : Int)) ≤ (↑(List.length A2_) : Int) ∧ List.drop (n_ (w_ (Prod.fst y1s4_ + (1 : Int)))) A2_ = idsF (inB (Prod.snd A3_)) (List.drop (n_ (w_ A7_)) (Prod.fst A5_))) ∧ n_ (A6_ - w_ A7_) < n_ (A6_ - y1s5_)))) (Holds (Prod.fst y1 = b ∧ y1f1_ = Prod.fst A3_ ∧ y1f2_ = Prod.snd A3_ ∧ y1f3_ = worldIn (Prod.fst (Prod.fst A3_)) A9_ (Prod.fst A5_) (Prod.snd A5_) (Prod.snd A3_) ∧ (0 : Int) ≤ w_ A7_ ∧ w_ A7_ ≤ (↑(List.length (Prod.fst A5_)) : Int) ∧ (0 : Int) ≤ y1f4_ ∧ y1f4_ ≤ (↑(List.length A2_) : Int) ∧ List.drop (n_ y1f4_) A2_ = idsF (inB (Prod.snd A3_)) (List.drop (n_ (w_ A7_)) (Prod.fst A5_))) ∧ n_ (A6_ - w_ A7_) < n_ (A6_ - y1s5_))) ((List.length A4_ ≤ (1048576 : Nat) ∧ List.length (Prod.snd (Prod.snd (Prod.snd y1f1_))) ≤ (1048576 : Nat)) ∧ ifB (Prod.fst y1s4_ == (↑(List.length y1f3_) : Int)) (Q (SV.bool ((↑(List.length (worldIn (Prod.fst y1f1_) (Prod.fst (Prod.snd y1f1_)) A4_ (Prod.snd (Prod.snd (Prod.snd y1f1_))) (Box.mk (Vec.mk (-1000000000 : Int) (-1000000000 : Int)) (Vec.mk (1000000000 : Int) (1000000000 : Int))))) : Int) == A6_)) [(false, vy_ y1f0_)]) (Q (SV.bool false) [(false, vy_ y1f0_)]))))))) := by kernel_rfl

theorem ok_lawWorldIn : FsOk Tryz.prog 8 fs_lawWorldIn := fsOk_of tt_ok (tabFs_cons ok_DrawWorldIn (tabFs_cons ok_implWorldIn (tabFs_cons ok_specWorldIn (tabFs_cons ok_lawsPqInts (tabFs_cons ok_specWorldOk (tabFs_cons ok_specBoxOk (tabFs_cons ok_implShapeBounds (tabFs_cons ok_implBoxMeets tabFs_nil)))))))) mixed Tryz.func8 (by kernel_rfl) (by kernel_rfl) (by
    intro args LL p r HH h hp
    unfold fs_lawWorldIn at h
    dsimp only at h
    split at h
    case h_2 => cases h
    rename_i b
    simp only [Option.some.injEq, Prod.mk.injEq] at h
    obtain ⟨rfl, rfl, rfl⟩ := h
    refine ⟨by simp [Form, stays], (L_lawWorldIn), ?_⟩
    rw [vc_lawWorldIn]
    try dsimp only
    have hb := bytesOk_of (hp _ rfl)
    generalize g_DrawWorldIn b = z
    obtain ⟨⟨⟨t, p, xs, ps⟩, bx⟩, hz⟩ := z
    have hz : worldD (t, p, xs, ps) := hz
    simp only [worldD] at hz
    have g1 := length_worldIn t p xs ps bx
    dsimp only
    simp only [same_self, Bool.not_true, ifBt, ifBf]
    refine ifB_of (fun c => ⟨(by trivial), (by trivial)⟩) (fun c => ⟨hb, ⟨by omega, by omega⟩, ⟨by omega, by omega⟩, by omega, ⟨by omega, by omega⟩, ifB_of (fun d => ⟨⟨by omega, by omega⟩, by omega, (by trivial), (by trivial)⟩) (fun d => ifB_of (fun d2 => ⟨⟨by omega, by omega⟩, by omega, (by trivial), (by trivial)⟩) (fun d2 => ?_))⟩)
    have hW := not_false d
    have hok := worldOk_bodies hW
    have hI : worldIn t p xs ps bx = idsF (inB bx) xs := by simp [worldIn, hW, not_false d2]
    have hA : (worldIn t p xs ps ⟨⟨-1000000000, -1000000000⟩, ⟨1000000000, 1000000000⟩⟩).length = xs.length := by
      have hbx : boxOk ⟨⟨-1000000000, -1000000000⟩, ⟨1000000000, 1000000000⟩⟩ = true := by decide
      simp only [worldIn, hW, hbx, Bool.and_self, cond_true]
      exact idsF_all fun k hk => big_meets (bodiesOk_each hok hk)
    refine ⟨⟨(by trivial), (by trivial), (by trivial), (by trivial), by omega, by omega, by omega, by omega, by rw [hI]; rfl⟩, ?_⟩
    rw [hI] at g1 ⊢
    rintro ⟨b', ⟨t', p', xs', ps'⟩, bx', ls, n, i⟩ ⟨h⟩
    dsimp only at h ⊢
    obtain ⟨rfl, hwd, rfl, rfl, i0, i1, n0, n1, hd⟩ := h
    cases hwd
    refine ifB_of (fun c1 => ?_) (fun c1 => ?_)
    · have cc := of_decide_eq_true c1
      have hi : i.toNat < xs.length := by omega
      have e1 : (i + 1).toNat = i.toNat + 1 := by omega
      have w : IntKind.i64.wrap (i + 1) = i + 1 := wrap_small (by omega) (by omega)
      obtain ⟨hb1, hb2⟩ := bounds_okB (bodiesOk_each hok hi)
      rw [idsF_drop hi] at hd
      rw [w, e1, hb2, hb1, not_false d2, Bool.true_and, Bool.true_and]
      refine ⟨⟨i0, cc⟩, ⟨i0, cc⟩, ifB_of (fun m => ?_) (fun m => ?_)⟩
      · have m : inB bx' (Ty.ix .body xs i.toNat) = true := m
        rw [m] at hd
        have hd : (idsF (inB bx') xs).drop n.toNat = (Ty.ix .body xs i.toNat).Id :: idsF (inB bx') (xs.drop (i.toNat + 1)) := hd
        have hn : n.toNat < (idsF (inB bx') xs).length := by
          refine Nat.lt_of_not_le fun hle => ?_
          rw [drop_end hle] at hd
          cases hd
        have w2 : IntKind.i64.wrap (n + 1) = n + 1 := wrap_small (by omega) (by omega)
        have e2 : (n + 1).toNat = n.toNat + 1 := by omega
        rw [drop_ix (T := .int) hn] at hd
        have hx : Ty.ix .int (idsF (inB bx') xs) n.toNat = (Ty.ix .body xs i.toNat).Id := (List.cons.inj hd).1
        have hr := (List.cons.inj hd).2
        rw [w2, e2]
        refine ifB_of (fun q => ?_) (fun q => ⟨⟨n0, by omega⟩, ⟨i0, cc⟩, ifB_of (fun q2 => ?_) (fun q2 => ⟨⟨(by trivial), (by trivial), (by trivial), (by trivial), by omega, by omega, by omega, by omega, hr⟩, by omega⟩)⟩)
        · have := of_decide_eq_true q
          omega
        · rw [hx] at q2
          simp at q2
      · have m : inB bx' (Ty.ix .body xs i.toNat) = false := m
        rw [m] at hd
        exact ⟨⟨(by trivial), (by trivial), (by trivial), (by trivial), by omega, by omega, by omega, by omega, hd⟩, by omega⟩
    · have cc := of_decide_eq_false c1
      rw [drop_end (show xs.length ≤ i.toNat by omega)] at hd
      have hd : (idsF (inB bx') xs).drop n.toNat = [] := hd
      have hl := congrArg List.length hd
      rw [List.length_drop] at hl
      have hl : (idsF (inB bx') xs).length - n.toNat = 0 := hl
      refine ⟨⟨by omega, by omega⟩, ifB_of (fun q => ?_) (fun q => ?_)⟩
      · rw [hA]
        simp
      · have := beq_eq_false_iff_ne.1 q
        omega)

theorem hasN_ids {xs : List Body} (h : bodiesOk xs = true) {f : Body → Bool} {i : Nat} (hi : i < xs.length) : hasN (idsF f xs) (Ty.ix .body xs i).Id = f (Ty.ix .body xs i) := by
  rw [Bool.eq_iff_iff]
  unfold hasN idsF
  rw [List.any_eq_true]
  constructor
  · rintro ⟨n, hn, e⟩
    obtain ⟨x, hx, rfl⟩ := List.mem_map.1 hn
    obtain ⟨hx1, hx2⟩ := List.mem_filter.1 hx
    obtain ⟨k, hk, ek⟩ := List.getElem_of_mem hx1
    have e2 : Ty.ix .body xs k = x := ix_eq (T := .body) (by rw [← ek]; exact List.getElem?_eq_getElem hk)
    have e := eq_of_beq e
    have : k = i := by
      rcases Nat.lt_trichotomy k i with c | c | c
      · have := bodies_lt2 h c hi
        rw [e2] at this
        omega
      · exact c
      · have := bodies_lt2 h c hk
        rw [e2] at this
        omega
    subst this
    rw [e2]
    exact hx2
  · intro hf
    exact ⟨_, List.mem_map.2 ⟨_, List.mem_filter.2 ⟨List.mem_of_getElem? (ix_get (T := .body) hi), hf⟩, rfl⟩, beq_self_eq_true _⟩
theorem has_in {b : Body} {q : Vec} (hb : bodyOk b = true) (hq : placeOk q = true) (h : shapeHas b.Shape b.At q = true) : inB ⟨q, q⟩ b = true := by
  have hB := bok_iff.1 hb
  obtain ⟨e, f1, f2⟩ := bounds_at hB.2.1 hB.2.2.1
  have hs := shapeOk_le hB.2.1
  unfold shapeHas at h
  unfold inB
  rw [e] at h ⊢
  cases c : b.Shape.Kind == 2 with
  | true =>
    rw [c] at h
    exact has_meets h
  | false =>
    rw [c] at h
    have h := of_decide_eq_true h
    have hk : b.Shape.Kind = 1 := by
      rcases hs.2.2.1 with z | z
      · exact z
      · rw [z] at c
        simp at c
    obtain ⟨m1, m2⟩ := minus_place hB.2.2.1 (placeV_of hq)
    rw [m1] at h
    obtain ⟨s1, s2, s3, s4, s5⟩ := small_square m2
    have hww := mul_le_mul0 (show 0 ≤ b.Shape.Wide by omega) hs.2.1 (show 0 ≤ b.Shape.Wide by omega) hs.2.1
    rw [show W (b.Shape.Wide * b.Shape.Wide) = b.Shape.Wide * b.Shape.Wide from W_small (by omega) (by omega)] at h
    have ax := abs_of_sq (x := q.X - b.At.X) (m := b.Shape.Wide) (by omega) (by dsimp only at s2 s3 s1; omega)
    have ay := abs_of_sq (x := q.Y - b.At.Y) (m := b.Shape.Wide) (by omega) (by dsimp only at s2 s3 s1; omega)
    rw [high_round hk, boxAt_zero]
    exact meets_at (by omega) (by omega) (by omega) (by omega)
def rayHit (r : Ray) (xs : List Body) (j : Nat) (id t : Int) : Bool := (rayShape r (Ty.ix .body xs j).Shape (Ty.ix .body xs j).At).2 && (Ty.ix .body xs j).Id == id && (rayShape r (Ty.ix .body xs j).Shape (Ty.ix .body xs j).At).1 == t
def rok (r : Ray) (xs : List Body) (j : Nat) : Bool := (rayShape r (Ty.ix .body xs j).Shape (Ty.ix .body xs j).At).2
def rat (r : Ray) (xs : List Body) (j : Nat) : Int := (rayShape r (Ty.ix .body xs j).Shape (Ty.ix .body xs j).At).1
/-- What is met first among the first i. -/
def RI (r : Ray) (xs : List Body) (i : Nat) (a : Int × Int) : Prop := (a.1 = -1 ∧ ∀ l, l < i → rok r xs l = false) ∨
  (∃ j, j < i ∧ rok r xs j = true ∧ a = ((Ty.ix .body xs j).Id, rat r xs j) ∧ ∀ l, l < i → rok r xs l = true → rat r xs j ≤ rat r xs l ∧ (rat r xs l = rat r xs j → j ≤ l))
theorem ray_first {r : Ray} {xs : List Body} (h : bodiesOk xs = true) : ∀ i, i ≤ xs.length → RI r xs i ((xs.take i).foldl (rayStep r) (-1, 0))
  | 0, _ => .inl ⟨rfl, fun l hl => absurd hl (by omega)⟩
  | i + 1, hi => by
    have ih := ray_first (r := r) h i (by omega)
    have e : xs.take (i + 1) = xs.take i ++ [Ty.ix .body xs i] := by
      rw [List.take_add_one, ix_get (T := .body) (show i < xs.length by omega)]
      rfl
    rw [e, List.foldl_append]
    generalize (xs.take i).foldl (rayStep r) (-1, 0) = a at *
    have hid := (bok_iff.1 (bodiesOk_each h (show i < xs.length by omega))).1.1
    show RI r xs (i + 1) (rayStep r a (Ty.ix .body xs i))
    unfold rayStep
    cases c : rok r xs i with
    | false =>
      have c' : (rayShape r (Ty.ix .body xs i).Shape (Ty.ix .body xs i).At).2 = false := c
      rw [c', Bool.false_and]
      simp only [cond_false]
      rcases ih with ⟨q1, q2⟩ | ⟨j, q1, q2, q3, q4⟩
      · refine .inl ⟨q1, fun l hl => ?_⟩
        by_cases z : l = i
        · rw [z]; exact c
        · exact q2 l (by omega)
      · refine .inr ⟨j, by omega, q2, q3, fun l hl hk => ?_⟩
        by_cases z : l = i
        · rw [z, c] at hk; cases hk
        · exact q4 l (by omega) hk
    | true =>
      have c' : (rayShape r (Ty.ix .body xs i).Shape (Ty.ix .body xs i).At).2 = true := c
      rw [c', Bool.true_and]
      rcases ih with ⟨q1, q2⟩ | ⟨j, q1, q2, q3, q4⟩
      · rw [q1, decide_eq_true (show (-1 : Int) < 0 by omega), Bool.true_or]
        simp only [cond_true]
        refine .inr ⟨i, by omega, c, rfl, fun l hl hk => ?_⟩
        by_cases z : l = i
        · rw [z]; exact ⟨Int.le_refl _, fun _ => Nat.le_refl _⟩
        · rw [q2 l (by omega)] at hk; cases hk
      · have hj := (bok_iff.1 (bodiesOk_each h (show j < xs.length by omega))).1.1
        have e1 : a.1 = (Ty.ix .body xs j).Id := by rw [q3]
        have e2 : a.2 = rat r xs j := by rw [q3]
        rw [e1, decide_eq_false (show ¬ (Ty.ix .body xs j).Id < 0 by omega), Bool.false_or]
        cases d : decide ((rayShape r (Ty.ix .body xs i).Shape (Ty.ix .body xs i).At).1 < a.2) with
        | true =>
          have d : rat r xs i < a.2 := of_decide_eq_true d
          rw [e2] at d
          simp only [cond_true]
          refine .inr ⟨i, by omega, c, rfl, fun l hl hk => ?_⟩
          by_cases z : l = i
          · rw [z]; exact ⟨Int.le_refl _, fun _ => Nat.le_refl _⟩
          · have := q4 l (by omega) hk
            exact ⟨by omega, fun w => by omega⟩
        | false =>
          have d : ¬ rat r xs i < a.2 := of_decide_eq_false d
          rw [e2] at d
          simp only [cond_false]
          refine .inr ⟨j, by omega, q2, q3, fun l hl hk => ?_⟩
          by_cases z : l = i
          · rw [z]; exact ⟨by omega, fun _ => by omega⟩
          · exact q4 l (by omega) hk
theorem ray_bad {r : Ray} {xs : List Body} (h : rayOk r = false) (j : Nat) : rok r xs j = false := by
  unfold rok rayShape
  simp [h]
theorem worldRay_first {t p : Int} {xs : List Body} {ps : List Pair} {r : Ray} (h : worldOk t p xs ps = true) : RI r xs xs.length (worldRay t p xs ps r) := by
  have hok := worldOk_bodies h
  unfold worldRay
  rw [h, Bool.true_and]
  cases c : rayOk r with
  | true =>
    have := ray_first (r := r) hok xs.length (Nat.le_refl _)
    rwa [List.take_length] at this
  | false => exact .inl ⟨rfl, fun l _ => ray_bad c l⟩
def LSlwa  : LS where
  S := List Int × (Int × Int × List Body × List Pair) × Vec × List Int × List Int × Int
  live := [(3, [none]), (4, [none]), (5, [some .int]), (6, [some .int]), (7, [none])]
  shape := fun s => ([.ptr 3 0 0, .ptr 4 0 0, .vec 5, .vec 6, .int .i64 s.2.2.2.2.2], [(false, .vec .byte s.1), (true, .vec .body s.2.1.2.2.1), (true, .vec .pair s.2.1.2.2.2), (true, .box [.int .i64 s.2.1.1, .int .i64 s.2.1.2.1, .vec 1, .vec 2]), (true, .box [.int .i64 s.2.2.1.X, .int .i64 s.2.2.1.Y]), (true, .vec .int s.2.2.2.1), (true, .vec .int s.2.2.2.2.1)])
  get := fun v h => match v, h with
    | [.ptr 3 0 0, .ptr 4 0 0, .vec 5, .vec 6, .int .i64 i], [(false, .vec .byte b), (true, .vec .body wd_2), (true, .vec .pair wd_3), (true, .box [.int .i64 wd_0, .int .i64 wd_1, .vec 1, .vec 2]), (true, .box [.int .i64 ptX, .int .i64 ptY]), (true, .vec .int ls), (true, .vec .int near)] => some (b, (wd_0, wd_1, wd_2, wd_3), (Vec.mk ptX ptY), ls, near, i)
    | _, _ => none
  inv := fun s0 s => Holds (s.1 = s0.1 ∧ s.2.1 = s0.2.1 ∧ s.2.2.1 = s0.2.2.1 ∧ s.2.2.2.1 = s0.2.2.2.1 ∧ s.2.2.2.2.1 = s0.2.2.2.2.1 ∧ 0 ≤ s.2.2.2.2.2 ∧ s.2.2.2.2.2 ≤ s0.2.1.2.2.1.length)
  mu := fun s => ((s.2.1.2.2.1.length : Int) - s.2.2.2.2.2).toNat
  ok := by
    intro v h s hg
    try dsimp only at hg
    split at hg <;> cases hg
    rfl

def L_lawWorldAt : Loops := fun n => match n with
  | 9 => some LSlwa
  | _ => none
noncomputable def fs_lawWorldAt : Fs := ⟨[], fun args H => match args, H with
  | [.vec 0], [(false, .vec .byte b)] => some ((some (LOk .byte b)), .bool (true), [(false, .vec .byte b)])
  | _, _ => none⟩

theorem vc_lawWorldAt (b : List Int) (Q : SV → List Ent → Prop) :
    fnVC tt (look [(50, fs_DrawWorldAt), (51, fs_implWorldAt), (52, fs_specWorldAt), (44, fs_lawsPqInts), (46, fs_specWorldOk), (43, fs_implWorldIn), (53, fs_implShapeHas), (54, fs_lawsPqHas)]) (L_lawWorldAt) Tryz.f9 [.vec 0] [(false, .vec .byte b)] Q =
    (let w_ := IntKind.wrap IntKind.i64; let vy_ := Blk.vec Ty.byte; let A12_ := (Subtype.val (g_DrawWorldAt b)); let A10_ := (Prod.snd (Prod.fst A12_)); let A14_ := (Prod.snd (Prod.snd A10_)); let A13_ := (Prod.fst (Prod.snd A10_)); let A11_ := (worldAt (Prod.fst (Prod.fst A12_)) (Prod.fst A10_) A13_ A14_ (Prod.snd A12_)); ifB (decide ((↑(List.length b) : Int) > (1048576 : Int))) (Q (SV.bool true) [(false, vy_ b)]) (BytesOk b ∧ (List.length A13_ ≤ (1048576 : Nat) ∧ List.length A14_ ≤ (1048576 : Nat)) ∧ (List.length A13_ ≤ (1048576 : Nat) ∧ List.length A14_ ≤ (1048576 : Nat)) ∧ List.length A11_ ≤ (4611686018427387904 : Nat) ∧ ifB (!same A11_ A11_) ((List.length A13_ ≤ (1048576 : Nat) ∧ List.length A14_ ≤ (1048576 : Nat)) ∧ List.length A11_ ≤ (4611686018427387904 : Nat) ∧ Q (SV.bool (same A11_ A11_)) [(false, vy_ b)]) ((List.length A13_ ≤ (1048576 : Nat) ∧ List.length A14_ ≤ (1048576 : Nat)) ∧ ifB (!worldOk (Prod.fst (Prod.fst A12_)) (Prod.fst A10_) A13_ A14_) ((List.length A13_ ≤ (1048576 : Nat) ∧ List.length A14_ ≤ (1048576 : Nat)) ∧ List.length A11_ ≤ (4611686018427387904 : Nat) ∧ Q (SV.bool (same A11_ A11_)) [(false, vy_ b)]) ((List.length A13_ ≤ (1048576 : Nat) ∧ List.length A14_ ≤ (1048576 : Nat)) ∧ Holds (b = b ∧ Prod.fst A12_ = Prod.fst A12_ ∧ Prod.snd A12_ = Prod.snd A12_ ∧ worldAt (Prod.fst (Prod.fst A12_)) (Prod.fst A10_) A13_ A14_ (Prod.snd A12_) = worldAt (Prod.fst (Prod.fst A12_)) (Prod.fst A10_) A13_ A14_ (Prod.snd A12_) ∧ worldIn (Prod.fst (Prod.fst A12_)) (Prod.fst A10_) A13_ A14_ (Box.mk (Prod.snd A12_) (Prod.snd A12_)) = worldIn (Prod.fst (Prod.fst A12_)) (Prod.fst A10_) A13_ A14_ (Box.mk (Prod.snd A12_) (Prod.snd A12_)) ∧ (0 : Int) ≤ (0 : Int) ∧ (0 : Int) ≤ (↑(List.length A13_) : Int)) ∧ ∀ (y1 : List Int × (Int × Int × List Body × List Pair) × Vec × List Int × List Int × Int), let y1f0_ := Prod.fst y1; let y1s1_ := Prod.snd y1; let y1f1_ := Prod.fst (Prod.snd y1); let y1f2_ := Prod.fst (Prod.snd (Prod.snd y1)); let y1f3_ := Prod.fst (Prod.snd (Prod.snd (Prod.snd y1))); let y1s4_ := Prod.snd (Prod.snd (Prod.snd (Prod.snd y1))); let y1f4_ := Prod.fst (Prod.snd (Prod.snd (Prod.snd (Prod.snd y1)))); let y1s5_ := Prod.snd (Prod.snd (Prod.snd (Prod.snd (Prod.snd y1)))); let A7_ := (Prod.snd y1s4_ + (1 : Int)); let A5_ := (↑(List.length (Prod.fst (Prod.snd (Prod.snd y1f1_)))) : Int); let A3_ := (Ty.ix Ty.body (Prod.fst (Prod.snd (Prod.snd y1f1_))) (Int.toNat y1s5_)); let A8_ := (shapeOk (Body.Shape A3_) && placeOk (Body.At A3_) && placeOk y1f2_ && shapeHas (Body.Shape A3_) (Body.At A3_) y1f2_); let A2_ := A12_; let A9_ := (Prod.fst (Prod.fst A2_)); let A6_ := (Prod.fst (Prod.snd (Prod.fst A2_))); let A4_ := (Prod.snd (Prod.snd (Prod.fst A2_))); Holds (Prod.fst y1 = b ∧ y1f1_ = Prod.fst A2_ ∧ y1f2_ = Prod.snd A2_ ∧ y1f3_ = worldAt A9_ A6_ (Prod.fst A4_) (Prod.snd A4_) (Prod.snd A2_) ∧ y1f4_ = worldIn A9_ A6_ (Prod.fst A4_) (Prod.snd A4_) (Box.mk (Prod.snd A2_) (Prod.snd A2_)) ∧ (0 : Int) ≤ y1s5_ ∧ y1s5_ ≤ (↑(List.length (Prod.fst A4_)) : Int)) → ifB (decide (Prod.snd y1s4_ < A5_)) (((0 : Int) ≤ y1s5_ ∧ y1s5_ < A5_) ∧ List.length y1f3_ ≤ (1048576 : Nat) ∧ ifB (!A8_ == hasN y1f3_ (Body.Id A3_)) (Q (SV.bool false) [(false, vy_ y1f0_)]) (ifB A8_ (List.length y1f4_ ≤ (1048576 : Nat) ∧ ifB (!hasN y1f4_ (Body.Id A3_)) (Q (SV.bool false) [(false, vy_ y1f0_)]) (Holds (Prod.fst y1 = b ∧ y1f1_ = Prod.fst A2_ ∧ y1f2_ = Prod.snd A2_ ∧ y1f3_ = worldAt A9_ A6_ (Prod.fst A4_) (Prod.snd A4_) (Prod.snd A2_) ∧ y1f4_ = worldIn A9_ A6_ (Prod.fst A4_) (Prod.snd A4_) (Box.mk (Prod.snd A2_) (Prod.snd A2_)) ∧ (0 : Int) ≤ w_ A7_ ∧ w_ A7_ ≤ (↑(List.length (Prod.fst A4_)) : Int)) ∧ Int.toNat (A5_ - w_ A7_) < Int.toNat (A5_ - y1s5_))) (Holds (Prod.fst y1 = b ∧ y1f1_ = Prod.fst A2_ ∧ y1f2_ = Prod.snd A2_ ∧ y1f3_ = worldAt A9_ A6_ (Prod.fst A4_) (Prod.snd A4_) (Prod.snd A2_) ∧ y1f4_ = worldIn A9_ A6_ (Prod.fst A4_) (Prod.snd A4_) (Box.mk (Prod.snd A2_) (Prod.snd A2_)) ∧ (0 : Int) ≤ w_ A7_ ∧ w_ A7_ ≤ (↑(List.length (Prod.fst A4_)) : Int)) ∧ Int.toNat (A5_ - w_ A7_) < Int.toNat (A5_ - y1s5_)))) (Q (SV.bool true) [(false, vy_ y1f0_)]))))) := by kernel_rfl

theorem ok_lawWorldAt : FsOk Tryz.prog 9 fs_lawWorldAt := fsOk_of tt_ok (tabFs_cons ok_DrawWorldAt (tabFs_cons ok_implWorldAt (tabFs_cons ok_specWorldAt (tabFs_cons ok_lawsPqInts (tabFs_cons ok_specWorldOk (tabFs_cons ok_implWorldIn (tabFs_cons ok_implShapeHas (tabFs_cons ok_lawsPqHas tabFs_nil)))))))) mixed Tryz.func9 (by kernel_rfl) (by kernel_rfl) (by
    intro args LL p r HH h hp
    unfold fs_lawWorldAt at h
    dsimp only at h
    split at h
    case h_2 => cases h
    rename_i b
    simp only [Option.some.injEq, Prod.mk.injEq] at h
    obtain ⟨rfl, rfl, rfl⟩ := h
    refine ⟨by simp [Form, stays], (L_lawWorldAt), ?_⟩
    rw [vc_lawWorldAt]
    try dsimp only
    have hb := bytesOk_of (hp _ rfl)
    generalize g_DrawWorldAt b = z
    obtain ⟨⟨⟨t, p, xs, ps⟩, q⟩, hz⟩ := z
    have hz : worldD (t, p, xs, ps) := hz
    simp only [worldD] at hz
    have g1 := length_worldAt t p xs ps q
    have g2 := length_worldIn t p xs ps ⟨q, q⟩
    dsimp only
    simp only [same_self, Bool.not_true, ifBt, ifBf]
    refine ifB_of (fun c => ⟨(by trivial), (by trivial)⟩) (fun c => ⟨hb, ⟨by omega, by omega⟩, ⟨by omega, by omega⟩, by omega, ⟨by omega, by omega⟩, ifB_of (fun d => ⟨⟨by omega, by omega⟩, by omega, (by trivial), (by trivial)⟩) (fun d => ⟨⟨by omega, by omega⟩, ⟨(by trivial), (by trivial), (by trivial), (by trivial), (by trivial), by omega, by omega⟩, ?_⟩)⟩)
    have hW := not_false d
    have hok := worldOk_bodies hW
    rintro ⟨b', ⟨t', p', xs', ps'⟩, q', ls, near, i⟩ ⟨h⟩
    dsimp only at h ⊢
    obtain ⟨rfl, hwd, rfl, rfl, rfl, i0, i1⟩ := h
    cases hwd
    refine ifB_of (fun c1 => ?_) (fun c1 => ⟨(by trivial), (by trivial)⟩)
    have cc := of_decide_eq_true c1
    have hi : i.toNat < xs.length := by omega
    have w : IntKind.i64.wrap (i + 1) = i + 1 := wrap_small (by omega) (by omega)
    have hB := bodiesOk_each hok hi
    have hB2 := bok_iff.1 hB
    rw [w, hB2.2.1, placeOk_V hB2.2.2.1, Bool.true_and, Bool.true_and]
    cases hq : placeOk q' with
    | false =>
      have hL : worldAt t p xs ps q' = [] := by simp [worldAt, hq]
      rw [hL, Bool.false_and]
      have hn : hasN [] (Ty.ix .body xs i.toNat).Id = false := rfl
      rw [hn]
      refine ⟨⟨i0, cc⟩, by simp, ?_⟩
      simp only [beq_self_eq_true, Bool.not_true, ifBf]
      exact ⟨⟨(by trivial), (by trivial), (by trivial), (by trivial), (by trivial), by omega, by omega⟩, by omega⟩
    | true =>
      have hL : worldAt t p xs ps q' = idsF (pointB q') xs := by simp [worldAt, hW, hq]
      have hbx : boxOk ⟨q', q'⟩ = true := by
        have := placeV_of hq
        obtain ⟨p1, p2, p3, p4⟩ := this
        unfold boxOk vecOk isIn
        simp only [Bool.and_eq_true, decide_eq_true_eq]
        omega
      have hN : worldIn t p xs ps ⟨q', q'⟩ = idsF (inB ⟨q', q'⟩) xs := by simp [worldIn, hW, hbx]
      rw [hL, hN, hasN_ids hok hi, hasN_ids hok hi, Bool.true_and]
      have hp : pointB q' (Ty.ix .body xs i.toNat) = shapeHas (Ty.ix .body xs i.toNat).Shape (Ty.ix .body xs i.toNat).At q' := rfl
      rw [hp]
      rw [hL] at g1
      rw [hN] at g2
      simp only [beq_self_eq_true, Bool.not_true, ifBf]
      refine ⟨⟨i0, cc⟩, by omega, ifB_of (fun m => ⟨by omega, ?_⟩) (fun m => ⟨⟨(by trivial), (by trivial), (by trivial), (by trivial), (by trivial), by omega, by omega⟩, by omega⟩)⟩
      rw [has_in hB hq m]
      simp only [Bool.not_true, ifBf]
      exact ⟨⟨(by trivial), (by trivial), (by trivial), (by trivial), (by trivial), by omega, by omega⟩, by omega⟩)

def LSlwr  : LS where
  S := List Int × (Int × Int × List Body × List Pair) × Ray × Int × Int × Bool × Int
  live := [(3, [none]), (4, [none]), (5, [none]), (6, [none]), (9, [none]), (10, [none])]
  shape := fun s => ([.ptr 3 0 0, .ptr 4 0 0, .int .i64 s.2.2.2.1, .int .i64 s.2.2.2.2.1, .bool s.2.2.2.2.2.1, .int .i64 s.2.2.2.2.2.2], [(false, .vec .byte s.1), (true, .vec .body s.2.1.2.2.1), (true, .vec .pair s.2.1.2.2.2), (true, .box [.int .i64 s.2.1.1, .int .i64 s.2.1.2.1, .vec 1, .vec 2]), (true, .box [.int .i64 s.2.2.1.From.X, .int .i64 s.2.2.1.From.Y, .int .i64 s.2.2.1.Way.X, .int .i64 s.2.2.1.Way.Y])])
  get := fun v h => match v, h with
    | [.ptr 3 0 0, .ptr 4 0 0, .int .i64 id, .int .i64 tq, .bool found, .int .i64 i], [(false, .vec .byte b), (true, .vec .body wd_2), (true, .vec .pair wd_3), (true, .box [.int .i64 wd_0, .int .i64 wd_1, .vec 1, .vec 2]), (true, .box [.int .i64 ryFX, .int .i64 ryFY, .int .i64 ryWX, .int .i64 ryWY])] => some (b, (wd_0, wd_1, wd_2, wd_3), (Ray.mk (Vec.mk ryFX ryFY) (Vec.mk ryWX ryWY)), id, tq, found, i)
    | _, _ => none
  inv := fun s0 s => Holds (s.1 = s0.1 ∧ s.2.1 = s0.2.1 ∧ s.2.2.1 = s0.2.2.1 ∧ s.2.2.2.1 = s0.2.2.2.1 ∧ s.2.2.2.2.1 = s0.2.2.2.2.1 ∧ 0 ≤ s.2.2.2.2.2.2 ∧ s.2.2.2.2.2.2 ≤ s0.2.1.2.2.1.length ∧ (s.2.2.2.2.2.1 = false → 0 ≤ s0.2.2.2.1 ∧ ∀ j, j < s.2.2.2.2.2.2.toNat → rayHit s0.2.2.1 s0.2.1.2.2.1 j s0.2.2.2.1 s0.2.2.2.2.1 = false))
  mu := fun s => ((s.2.1.2.2.1.length : Int) - s.2.2.2.2.2.2).toNat
  ok := by
    intro v h s hg
    try dsimp only at hg
    split at hg <;> cases hg
    rfl

def L_lawWorldRay : Loops := fun n => match n with
  | 10 => some LSlwr
  | _ => none
noncomputable def fs_lawWorldRay : Fs := ⟨[], fun args H => match args, H with
  | [.vec 0], [(false, .vec .byte b)] => some ((some (LOk .byte b)), .bool (true), [(false, .vec .byte b)])
  | _, _ => none⟩

theorem vc_lawWorldRay (b : List Int) (Q : SV → List Ent → Prop) :
    fnVC tt (look [(64, fs_DrawWorldRay), (65, fs_implWorldRay), (66, fs_specWorldRay), (46, fs_specWorldOk), (67, fs_implRayShape)]) (L_lawWorldRay) Tryz.f12 [.vec 0] [(false, .vec .byte b)] Q =
    (let w_ := IntKind.wrap IntKind.i64; let n_ := Int.toNat; let vy_ := Blk.vec Ty.byte; let A15_ := (Subtype.val (g_DrawWorldRay b)); let A14_ := (Prod.snd (Prod.snd (Prod.fst A15_))); let A13_ := (worldRay (Prod.fst (Prod.fst A15_)) (Prod.fst (Prod.snd (Prod.fst A15_))) (Prod.fst A14_) (Prod.snd A14_) (Prod.snd A15_)); ifB (decide ((↑(List.length b) : Int) > (1048576 : Int))) (Q (SV.bool true) [(false, vy_ b)]) (BytesOk b ∧ (List.length (Prod.fst A14_) ≤ (1048576 : Nat) ∧ List.length (Prod.snd A14_) ≤ (1048576 : Nat)) ∧ (List.length (Prod.fst A14_) ≤ (1048576 : Nat) ∧ List.length (Prod.snd A14_) ≤ (1048576 : Nat)) ∧ ifB (Prod.fst A13_ != Prod.fst A13_) (ifB (Prod.fst A13_ == Prod.fst A13_) (Q (SV.bool (Prod.snd A13_ == Prod.snd A13_)) [(false, vy_ b)]) (Q (SV.bool false) [(false, vy_ b)])) (ifB (Prod.snd A13_ != Prod.snd A13_) (ifB (Prod.fst A13_ == Prod.fst A13_) (Q (SV.bool (Prod.snd A13_ == Prod.snd A13_)) [(false, vy_ b)]) (Q (SV.bool false) [(false, vy_ b)])) ((List.length (Prod.fst A14_) ≤ (1048576 : Nat) ∧ List.length (Prod.snd A14_) ≤ (1048576 : Nat)) ∧ ifB (!worldOk (Prod.fst (Prod.fst A15_)) (Prod.fst (Prod.snd (Prod.fst A15_))) (Prod.fst A14_) (Prod.snd A14_)) (ifB (Prod.fst A13_ == Prod.fst A13_) (Q (SV.bool (Prod.snd A13_ == Prod.snd A13_)) [(false, vy_ b)]) (Q (SV.bool false) [(false, vy_ b)])) (Holds (b = b ∧ Prod.fst A15_ = Prod.fst A15_ ∧ Prod.snd A15_ = Prod.snd A15_ ∧ Prod.fst A13_ = Prod.fst A13_ ∧ Prod.snd A13_ = Prod.snd A13_ ∧ (0 : Int) ≤ (0 : Int) ∧ (0 : Int) ≤ (↑(List.length (Prod.fst A14_)) : Int) ∧ (decide (Prod.fst A13_ < (0 : Int)) = false → (0 : Int) ≤ Prod.fst A13_ ∧ ∀ (j : Nat), j < n_ (0 : Int) → rayHit (Prod.snd A15_) (Prod.fst A14_) j (Prod.fst A13_) (Prod.snd A13_) = false)) ∧ ∀ (y1 : List Int × (Int × Int × List Body × List Pair) × Ray × Int × Int × Bool × Int), let y1f0_ := Prod.fst y1; let y1s1_ := Prod.snd y1; let y1f1_ := Prod.fst (Prod.snd y1); let y1f2_ := Prod.fst (Prod.snd (Prod.snd y1)); let y1f3_ := Prod.fst (Prod.snd (Prod.snd (Prod.snd y1))); let y1f4_ := Prod.fst (Prod.snd (Prod.snd (Prod.snd (Prod.snd y1)))); let y1s5_ := Prod.snd (Prod.snd (Prod.snd (Prod.snd (Prod.snd y1)))); let y1f5_ := Prod.fst (Prod.snd (Prod.snd (Prod.snd (Prod.snd (Prod.snd y1))))); let y1s6_ := Prod.snd (Prod.snd (Prod.snd (Prod.snd (Prod.snd (Prod.snd y1))))); let A5_ := (Prod.snd y1s5_ + (1 : Int)); let A10_ := (w_ A5_); let A4_ := (Prod.fst (Prod.snd (Prod.snd y1f1_))); let A12_ := (Ty.ix Ty.body A4_ (n_ y1s6_)); let A8_ := (↑(List.length A4_) : Int); let A9_ := (A8_ - w_ A5_); let A7_ := (rayShape y1f2_ (Body.Shape A12_) (Body.At A12_)); let A3_ := A15_; let A6_ := (Prod.fst (Prod.snd (Prod.snd (Prod.fst A3_)))); let A11_ := (↑(List.length A6_) : Int); let A2_ := (worldRay (Prod.fst (Prod.fst A3_)) (Prod.fst (Prod.snd (Prod.fst A3_))) A6_ (Prod.snd (Prod.snd (Prod.snd (Prod.fst A3_)))) (Prod.snd A3_)); Holds (Prod.fst y1 = b ∧ y1f1_ = Prod.fst A3_ ∧ y1f2_ = Prod.snd A3_ ∧ y1f3_ = Prod.fst A2_ ∧ y1f4_ = Prod.snd A2_ ∧ (0 : Int) ≤ y1s6_ ∧ y1s6_ ≤ A11_ ∧ (Prod.fst y1s5_ = false → (0 : Int) ≤ Prod.fst A2_ ∧ ∀ (j : Nat), j < n_ y1s6_ → rayHit (Prod.snd A3_) A6_ j (Prod.fst A2_) (Prod.snd A2_) = false)) → ifB (decide (Prod.snd y1s5_ < A8_)) (((0 : Int) ≤ y1s6_ ∧ y1s6_ < A8_) ∧ ((0 : Int) ≤ y1s6_ ∧ y1s6_ < A8_) ∧ ifB (Prod.snd A7_) (ifB (decide (Prod.fst (Prod.snd (Prod.snd y1s1_)) < (0 : Int))) (Q (SV.bool false) [(false, vy_ y1f0_)]) (ifB (decide (Prod.fst A7_ < y1f4_)) (Q (SV.bool false) [(false, vy_ y1f0_)]) (ifB (Prod.fst A7_ == y1f4_) (((0 : Int) ≤ y1s6_ ∧ y1s6_ < A8_) ∧ ifB (decide (Body.Id A12_ < y1f3_)) (Q (SV.bool false) [(false, vy_ y1f0_)]) (ifB y1f5_ (Holds (Prod.fst y1 = b ∧ y1f1_ = Prod.fst A3_ ∧ y1f2_ = Prod.snd A3_ ∧ y1f3_ = Prod.fst A2_ ∧ y1f4_ = Prod.snd A2_ ∧ (0 : Int) ≤ w_ A5_ ∧ w_ A5_ ≤ A11_ ∧ (true = false → (0 : Int) ≤ Prod.fst A2_ ∧ ∀ (j : Nat), j < n_ A10_ → rayHit (Prod.snd A3_) A6_ j (Prod.fst A2_) (Prod.snd A2_) = false)) ∧ n_ A9_ < n_ (A8_ - y1s6_)) (ifB (Prod.snd A7_) (((0 : Int) ≤ y1s6_ ∧ y1s6_ < A8_) ∧ ifB (Body.Id A12_ == y1f3_) (Holds (Prod.fst y1 = b ∧ y1f1_ = Prod.fst A3_ ∧ y1f2_ = Prod.snd A3_ ∧ y1f3_ = Prod.fst A2_ ∧ y1f4_ = Prod.snd A2_ ∧ (0 : Int) ≤ w_ A5_ ∧ w_ A5_ ≤ A11_ ∧ ((Prod.fst A7_ == y1f4_) = false → (0 : Int) ≤ Prod.fst A2_ ∧ ∀ (j : Nat), j < n_ A10_ → rayHit (Prod.snd A3_) A6_ j (Prod.fst A2_) (Prod.snd A2_) = false)) ∧ n_ A9_ < n_ (A8_ - y1s6_)) (Holds (Prod.fst y1 = b ∧ y1f1_ = Prod.fst A3_ ∧ y1f2_ = Prod.snd A3_ ∧ y1f3_ = Prod.fst A2_ ∧ y1f4_ = Prod.snd A2_ ∧ (0 : Int) ≤ w_ A5_ ∧ w_ A5_ ≤ A11_ ∧ (false = false → (0 : Int) ≤ Prod.fst A2_ ∧ ∀ (j : Nat), j < n_ A10_ → rayHit (Prod.snd A3_) A6_ j (Prod.fst A2_) (Prod.snd A2_) = false)) ∧ n_ A9_ < n_ (A8_ - y1s6_))) (Holds (Prod.fst y1 = b ∧ y1f1_ = Prod.fst A3_ ∧ y1f2_ = Prod.snd A3_ ∧ y1f3_ = Prod.fst A2_ ∧ y1f4_ = Prod.snd A2_ ∧ (0 : Int) ≤ w_ A5_ ∧ w_ A5_ ≤ A11_ ∧ (false = false → (0 : Int) ≤ Prod.fst A2_ ∧ ∀ (j : Nat), j < n_ A10_ → rayHit (Prod.snd A3_) A6_ j (Prod.fst A2_) (Prod.snd A2_) = false)) ∧ n_ A9_ < n_ (A8_ - y1s6_))))) (ifB y1f5_ (Holds (Prod.fst y1 = b ∧ y1f1_ = Prod.fst A3_ ∧ y1f2_ = Prod.snd A3_ ∧ y1f3_ = Prod.fst A2_ ∧ y1f4_ = Prod.snd A2_ ∧ (0 : Int) ≤ w_ A5_ ∧ w_ A5_ ≤ A11_ ∧ (true = false → (0 : Int) ≤ Prod.fst A2_ ∧ ∀ (j : Nat), j < n_ A10_ → rayHit (Prod.snd A3_) A6_ j (Prod.fst A2_) (Prod.snd A2_) = false)) ∧ n_ A9_ < n_ (A8_ - y1s6_)) (ifB (Prod.snd A7_) (((0 : Int) ≤ y1s6_ ∧ y1s6_ < A8_) ∧ ifB (Body.Id A12_ == y1f3_) (Holds (Prod.fst y1 = b ∧ y1f1_ = Prod.fst A3_ ∧ y1f2_ = Prod.snd A3_ ∧ y1f3_ = Prod.fst A2_ ∧ y1f4_ = Prod.snd A2_ ∧ (0 : Int) ≤ w_ A5_ ∧ w_ A5_ ≤ A11_ ∧ ((Prod.fst A7_ == y1f4_) = false → (0 : Int) ≤ Prod.fst A2_ ∧ ∀ (j : Nat), j < n_ A10_ → rayHit (Prod.snd A3_) A6_ j (Prod.fst A2_) (Prod.snd A2_) = false)) ∧ n_ A9_ < n_ (A8_ - y1s6_)) (Holds (Prod.fst y1 = b ∧ y1f1_ = Prod.fst A3_ ∧ y1f2_ = Prod.snd A3_ ∧ y1f3_ = Prod.fst A2_ ∧ y1f4_ = Prod.snd A2_ ∧ (0 : Int) ≤ w_ A5_ ∧ w_ A5_ ≤ A11_ ∧ (false = false → (0 : Int) ≤ Prod.fst A2_ ∧ ∀ (j : Nat), j < n_ A10_ → rayHit (Prod.snd A3_) A6_ j (Prod.fst A2_) (Prod.snd A2_) = false)) ∧ n_ A9_ < n_ (A8_ - y1s6_))) (Holds (Prod.fst y1 = b ∧ y1f1_ = Prod.fst A3_ ∧ y1f2_ = Prod.snd A3_ ∧ y1f3_ = Prod.fst A2_ ∧ y1f4_ = Prod.snd A2_ ∧ (0 : Int) ≤ w_ A5_ ∧ w_ A5_ ≤ A11_ ∧ (false = false → (0 : Int) ≤ Prod.fst A2_ ∧ ∀ (j : Nat), j < n_ A10_ → rayHit (Prod.snd A3_) A6_ j (Prod.fst A2_) (Prod.snd A2_) = false)) ∧ n_ A9_ < n_ (A8_ - y1s6_))))))) (ifB y1f5_ (Holds (Prod.fst y1 = b ∧ y1f1_ = Prod.fst A3_ ∧ y1f2_ = Prod.snd A3_ ∧ y1f3_ = Prod.fst A2_ ∧ y1f4_ = Prod.snd A2_ ∧ (0 : Int) ≤ w_ A5_ ∧ w_ A5_ ≤ A11_ ∧ (true = false → (0 : Int) ≤ Prod.fst A2_ ∧ ∀ (j : Nat), j < n_ A10_ → rayHit (Prod.snd A3_) A6_ j (Prod.fst A2_) (Prod.snd A2_) = false)) ∧ n_ A9_ < n_ (A8_ - y1s6_)) (ifB (Prod.snd A7_) (((0 : Int) ≤ y1s6_ ∧ y1s6_ < A8_) ∧ ifB (Body.Id A12_ == y1f3_) (Holds (Prod.fst y1 = b ∧ y1f1_ = Prod.fst A3_ ∧ y1f2_ = Prod.snd A3_ ∧ y1f3_ = Prod.fst A2_ ∧ y1f4_ = Prod.snd A2_ ∧ (0 : Int) ≤ w_ A5_ ∧ w_ A5_ ≤ A11_ ∧ ((Prod.fst A7_ == y1f4_) = false → (0 : Int) ≤ Prod.fst A2_ ∧ ∀ (j : Nat), j < n_ A10_ → rayHit (Prod.snd A3_) A6_ j (Prod.fst A2_) (Prod.snd A2_) = false)) ∧ n_ A9_ < n_ (A8_ - y1s6_)) (Holds (Prod.fst y1 = b ∧ y1f1_ = Prod.fst A3_ ∧ y1f2_ = Prod.snd A3_ ∧ y1f3_ = Prod.fst A2_ ∧ y1f4_ = Prod.snd A2_ ∧ (0 : Int) ≤ w_ A5_ ∧ w_ A5_ ≤ A11_ ∧ (false = false → (0 : Int) ≤ Prod.fst A2_ ∧ ∀ (j : Nat), j < n_ A10_ → rayHit (Prod.snd A3_) A6_ j (Prod.fst A2_) (Prod.snd A2_) = false)) ∧ n_ A9_ < n_ (A8_ - y1s6_))) (Holds (Prod.fst y1 = b ∧ y1f1_ = Prod.fst A3_ ∧ y1f2_ = Prod.snd A3_ ∧ y1f3_ = Prod.fst A2_ ∧ y1f4_ = Prod.snd A2_ ∧ (0 : Int) ≤ w_ A5_ ∧ w_ A5_ ≤ A11_ ∧ (false = false → (0 : Int) ≤ Prod.fst A2_ ∧ ∀ (j : Nat), j < n_ A10_ → rayHit (Prod.snd A3_) A6_ j (Prod.fst A2_) (Prod.snd A2_) = false)) ∧ n_ A9_ < n_ (A8_ - y1s6_))))) (Q (SV.bool y1f5_) [(false, vy_ y1f0_)])))))) := by kernel_rfl

theorem ok_lawWorldRay : FsOk Tryz.prog 12 fs_lawWorldRay := fsOk_of tt_ok (tabFs_cons ok_DrawWorldRay (tabFs_cons ok_implWorldRay (tabFs_cons ok_specWorldRay (tabFs_cons ok_specWorldOk (tabFs_cons ok_implRayShape tabFs_nil))))) mixed Tryz.func12 (by kernel_rfl) (by kernel_rfl) (by
    intro args LL p r HH h hp
    unfold fs_lawWorldRay at h
    dsimp only at h
    split at h
    case h_2 => cases h
    rename_i b
    simp only [Option.some.injEq, Prod.mk.injEq] at h
    obtain ⟨rfl, rfl, rfl⟩ := h
    refine ⟨by simp [Form, stays], (L_lawWorldRay), ?_⟩
    rw [vc_lawWorldRay]
    try dsimp only
    have hb := bytesOk_of (hp _ rfl)
    generalize g_DrawWorldRay b = z
    obtain ⟨⟨⟨t, p, xs, ps⟩, r⟩, hz⟩ := z
    have hz : worldD (t, p, xs, ps) := hz
    simp only [worldD] at hz
    dsimp only
    simp only [bne_self_eq_false, beq_self_eq_true, Bool.not_true, ifBt, ifBf]
    refine ifB_of (fun c => ⟨(by trivial), (by trivial)⟩) (fun c => ⟨hb, ⟨by omega, by omega⟩, ⟨by omega, by omega⟩, ⟨by omega, by omega⟩, ifB_of (fun d => ⟨(by trivial), (by trivial)⟩) (fun d => ⟨⟨(by trivial), (by trivial), (by trivial), (by trivial), (by trivial), by omega, by omega, fun z => ⟨Int.not_lt.1 (of_decide_eq_false z), fun j hj => absurd hj (by simp)⟩⟩, ?_⟩)⟩)
    have hW := not_false d
    have hok := worldOk_bodies hW
    have hR := worldRay_first (r := r) hW
    generalize worldRay t p xs ps r = a at *
    rintro ⟨b', ⟨t', p', xs', ps'⟩, r', id, tq, found, i⟩ ⟨h⟩
    dsimp only at h ⊢
    obtain ⟨rfl, hwd, rfl, rfl, rfl, i0, i1, hf⟩ := h
    cases hwd
    refine ifB_of (fun c1 => ?_) (fun c1 => ?_)
    · have cc := of_decide_eq_true c1
      have hi : i.toNat < xs.length := by omega
      have e1 : (i + 1).toNat = i.toNat + 1 := by omega
      have w : IntKind.i64.wrap (i + 1) = i + 1 := wrap_small (by omega) (by omega)
      rw [w, e1]
      have nx : rayHit r' xs i.toNat a.1 a.2 = false → found = false → 0 ≤ a.1 ∧ ∀ j, j < i.toNat + 1 → rayHit r' xs j a.1 a.2 = false := by
        intro z f
        refine ⟨(hf f).1, fun j hj => ?_⟩
        by_cases e : j = i.toNat
        · rw [e]; exact z
        · exact (hf f).2 j (by omega)
      cases ko : rok r' xs i.toNat with
      | false =>
        have ko' : (rayShape r' (Ty.ix .body xs i.toNat).Shape (Ty.ix .body xs i.toNat).At).2 = false := ko
        have hh : rayHit r' xs i.toNat a.1 a.2 = false := by
          unfold rayHit
          rw [ko', Bool.false_and, Bool.false_and]
        rw [ko']
        simp only [ifBf]
        exact ⟨⟨i0, cc⟩, ⟨i0, cc⟩, ifB_of (fun f => ⟨⟨(by trivial), (by trivial), (by trivial), (by trivial), (by trivial), by omega, by omega, fun z => (by cases z)⟩, by omega⟩) (fun f => ⟨⟨(by trivial), (by trivial), (by trivial), (by trivial), (by trivial), by omega, by omega, fun _ => nx hh f⟩, by omega⟩)⟩
      | true =>
        have ko' : (rayShape r' (Ty.ix .body xs i.toNat).Shape (Ty.ix .body xs i.toNat).At).2 = true := ko
        rcases hR with ⟨q1, q2⟩ | ⟨j, q1, q2, q3, q4⟩
        · rw [q2 _ hi] at ko
          cases ko
        · have hj := (bok_iff.1 (bodiesOk_each hok q1)).1.1
          have a1 : a.1 = (Ty.ix .body xs j).Id := by rw [q3]
          have a2 : a.2 = rat r' xs j := by rw [q3]
          have hmin := q4 _ hi ko
          have hge : rat r' xs i.toNat = rat r' xs j → (Ty.ix .body xs j).Id ≤ (Ty.ix .body xs i.toNat).Id := fun z => by
            have := hmin.2 z
            by_cases e : j = i.toNat
            · rw [e]; exact Int.le_refl _
            · exact Int.le_of_lt (bodies_lt2 hok (by omega) hi)
          rw [ko']
          simp only [ifBt]
          have hra : (rayShape r' (Ty.ix .body xs i.toNat).Shape (Ty.ix .body xs i.toNat).At).1 = rat r' xs i.toNat := rfl
          rw [hra]
          have hh1 : (rat r' xs i.toNat == a.2) = false → rayHit r' xs i.toNat a.1 a.2 = false := fun z => by
            unfold rayHit
            rw [hra, z, Bool.and_false]
          have hh2 : ((Ty.ix .body xs i.toNat).Id == a.1) = false → rayHit r' xs i.toNat a.1 a.2 = false := fun z => by
            unfold rayHit
            rw [z, Bool.and_false, Bool.false_and]
          refine ⟨⟨i0, cc⟩, ⟨i0, cc⟩, ifB_of (fun z => ?_) (fun _ => ifB_of (fun z => ?_) (fun _ => ifB_of (fun z => ⟨⟨i0, cc⟩, ifB_of (fun z2 => ?_) (fun _ => ?_)⟩) (fun z => ?_)))⟩
          · have := of_decide_eq_true z
            omega
          · have := of_decide_eq_true z
            omega
          · have z := eq_of_beq z
            have z2 := of_decide_eq_true z2
            have := hge (by omega)
            omega
          all_goals
            exact ifB_of (fun f => ⟨⟨(by trivial), (by trivial), (by trivial), (by trivial), (by trivial), by omega, by omega, fun z => (by cases z)⟩, by omega⟩) (fun f => ⟨⟨i0, cc⟩, ifB_of (fun m => ⟨⟨(by trivial), (by trivial), (by trivial), (by trivial), (by trivial), by omega, by omega, fun z => nx (hh1 z) f⟩, by omega⟩) (fun m => ⟨⟨(by trivial), (by trivial), (by trivial), (by trivial), (by trivial), by omega, by omega, fun _ => nx (hh2 m) f⟩, by omega⟩)⟩)
    · have cc := of_decide_eq_false c1
      have ft : found = true := by
        cases found with
        | true => rfl
        | false =>
          exfalso
          obtain ⟨f1, f2⟩ := hf rfl
          rcases hR with ⟨q1, _⟩ | ⟨j, q1, q2, q3, q4⟩
          · omega
          · have := f2 j (by omega)
            unfold rayHit at this
            rw [show (rayShape r' (Ty.ix .body xs j).Shape (Ty.ix .body xs j).At).2 = true from q2, q3] at this
            simp [rat] at this
      rw [ft]
      exact ⟨(by trivial), (by trivial)⟩)

theorem atB_kin {xs ys : List Body} (h : Kin xs ys) (id : Int) : atB ys id = atB xs id := by
  obtain ⟨k1, k2, k3⟩ := pref_spec (T := .body) (p := fun y : Body => decide (y.Id < id)) xs
  have hl := h.1
  refine pref_eq (T := .body) (p := fun y : Body => decide (y.Id < id)) (k := atB xs id) (by rw [← hl]; exact k1) (fun e he => ?_) (fun hk => ?_)
  · have := k2 e he
    rw [← (h.2 e (Nat.lt_of_lt_of_le he k1)).1]
    exact this
  · have hk2 : atB xs id < xs.length := by omega
    have := k3 hk2
    rw [← (h.2 _ hk2).1]
    exact this
theorem hasB_kin {xs ys : List Body} (h : Kin xs ys) (id : Int) : hasB ys id = hasB xs id := by
  unfold hasB
  rw [atB_kin h, ← h.1]
  cases c : decide (atB xs id < xs.length) with
  | false => rfl
  | true => rw [← (h.2 _ (of_decide_eq_true c)).1]
theorem worldOk_kin {t p : Int} {xs ys : List Body} {ps : List Pair} (h : Kin xs ys) (hy : bodiesOk ys = true) (hw : worldOk t p xs ps = true) : worldOk t p ys ps = true := by
  unfold worldOk at hw ⊢
  simp only [Bool.and_eq_true] at hw ⊢
  refine ⟨⟨hw.1.1, hy⟩, ?_⟩
  have e : pairAt ys ps = pairAt xs ps := by
    funext i
    unfold pairAt
    rw [hasB_kin h, hasB_kin h]
  rw [e]
  exact hw.2
def LSlwp  : LS where
  S := List Int × (Int × Int × List Body × List Pair) × Int × Vec × (Int × Int × List Body × List Pair) × Int
  live := [(3, [none]), (4, [none]), (5, [none]), (6, [none]), (10, [none])]
  shape := fun s => ([.ptr 3 0 0, .int .i64 s.2.2.1, .ptr 4 0 0, .ptr 7 0 0, .int .i64 s.2.2.2.2.2], [(false, .vec .byte s.1), (true, .vec .body s.2.1.2.2.1), (true, .vec .pair s.2.1.2.2.2), (true, .box [.int .i64 s.2.1.1, .int .i64 s.2.1.2.1, .vec 1, .vec 2]), (true, .box [.int .i64 s.2.2.2.1.X, .int .i64 s.2.2.2.1.Y]), (true, .vec .body s.2.2.2.2.1.2.2.1), (true, .vec .pair s.2.2.2.2.1.2.2.2), (true, .box [.int .i64 s.2.2.2.2.1.1, .int .i64 s.2.2.2.2.1.2.1, .vec 5, .vec 6])])
  get := fun v h => match v, h with
    | [.ptr 3 0 0, .int .i64 id, .ptr 4 0 0, .ptr 7 0 0, .int .i64 i], [(false, .vec .byte b), (true, .vec .body wd_2), (true, .vec .pair wd_3), (true, .box [.int .i64 wd_0, .int .i64 wd_1, .vec 1, .vec 2]), (true, .box [.int .i64 pvX, .int .i64 pvY]), (true, .vec .body wx_2), (true, .vec .pair wx_3), (true, .box [.int .i64 wx_0, .int .i64 wx_1, .vec 5, .vec 6])] => some (b, (wd_0, wd_1, wd_2, wd_3), id, (Vec.mk pvX pvY), (wx_0, wx_1, wx_2, wx_3), i)
    | _, _ => none
  inv := fun s0 s => Holds (s.1 = s0.1 ∧ s.2.1 = s0.2.1 ∧ s.2.2.1 = s0.2.2.1 ∧ s.2.2.2.1 = s0.2.2.2.1 ∧ s.2.2.2.2.1 = s0.2.2.2.2.1 ∧ 0 ≤ s.2.2.2.2.2 ∧ s.2.2.2.2.2 ≤ s0.2.1.2.2.1.length)
  mu := fun s => ((s.2.1.2.2.1.length : Int) - s.2.2.2.2.2).toNat
  ok := by
    intro v h s hg
    try dsimp only at hg
    split at hg <;> cases hg
    rfl

def L_lawWorldPush : Loops := fun n => match n with
  | 11 => some LSlwp
  | _ => none
noncomputable def fs_lawWorldPush : Fs := ⟨[], fun args H => match args, H with
  | [.vec 0], [(false, .vec .byte b)] => some ((some (LOk .byte b)), .bool (true), [(false, .vec .byte b)])
  | _, _ => none⟩

theorem vc_lawWorldPush (b : List Int) (Q : SV → List Ent → Prop) :
    fnVC tt (look [(68, fs_DrawWorldPush), (69, fs_implWorldPush), (70, fs_specWorldPush), (71, fs_lawsPqWorld), (46, fs_specWorldOk), (72, fs_implBodyPush), (73, fs_implWorldOk)]) (L_lawWorldPush) Tryz.f13 [.vec 0] [(false, .vec .byte b)] Q =
    (let w_ := IntKind.wrap IntKind.i64; let vy_ := Blk.vec Ty.byte; let A19_ := (4611686018427387904 : Nat); let A15_ := (Prod.snd (Subtype.val (g_DrawWorldPush b))); let A12_ := (Prod.fst (Subtype.val (g_DrawWorldPush b))); let A16_ := (Prod.fst (Prod.snd A12_)); let A14_ := (Prod.snd (Prod.snd A12_)); let A17_ := (pushCode (Prod.fst A12_) A16_ (Prod.fst A14_) (Prod.snd A14_) (Prod.fst A15_) (Prod.snd A15_) == pushCode (Prod.fst A12_) A16_ (Prod.fst A14_) (Prod.snd A14_) (Prod.fst A15_) (Prod.snd A15_)); let A13_ := (pushBodies (Prod.fst A12_) A16_ (Prod.fst A14_) (Prod.snd A14_) (Prod.fst A15_) (Prod.snd A15_)); let A11_ := (worldOk (Prod.fst A12_) A16_ (Prod.fst A14_) (Prod.snd A14_)); let A20_ := (orL A11_ (Prod.snd A14_)); let A18_ := (eqW4 (orI A11_ (Prod.fst A12_)) (orI A11_ A16_) (orL A11_ A13_) A20_ (orI A11_ (Prod.fst A12_)) (orI A11_ A16_) (orL A11_ A13_) A20_); ifB (decide ((↑(List.length b) : Int) > (1048576 : Int))) (Q (SV.bool true) [(false, vy_ b)]) (BytesOk b ∧ (List.length (Prod.fst A14_) ≤ (1048576 : Nat) ∧ List.length (Prod.snd A14_) ≤ (1048576 : Nat)) ∧ (List.length (Prod.fst A14_) ≤ (1048576 : Nat) ∧ List.length (Prod.snd A14_) ≤ (1048576 : Nat)) ∧ ifB (pushCode (Prod.fst A12_) A16_ (Prod.fst A14_) (Prod.snd A14_) (Prod.fst A15_) (Prod.snd A15_) != pushCode (Prod.fst A12_) A16_ (Prod.fst A14_) (Prod.snd A14_) (Prod.fst A15_) (Prod.snd A15_)) (ifB A17_ ((List.length (orL A11_ A13_) ≤ A19_ ∧ List.length A20_ ≤ A19_) ∧ Q (SV.bool A18_) [(false, vy_ b)]) (Q (SV.bool false) [(false, vy_ b)])) ((List.length (orL A11_ A13_) ≤ A19_ ∧ List.length A20_ ≤ A19_) ∧ ifB (!eqW4 (orI A11_ (Prod.fst A12_)) (orI A11_ A16_) (orL A11_ A13_) A20_ (orI A11_ (Prod.fst A12_)) (orI A11_ A16_) (orL A11_ A13_) A20_) (ifB A17_ ((List.length (orL A11_ A13_) ≤ A19_ ∧ List.length A20_ ≤ A19_) ∧ Q (SV.bool A18_) [(false, vy_ b)]) (Q (SV.bool false) [(false, vy_ b)])) ((List.length (Prod.fst A14_) ≤ (1048576 : Nat) ∧ List.length (Prod.snd A14_) ≤ (1048576 : Nat)) ∧ ifB (!worldOk (Prod.fst A12_) A16_ (Prod.fst A14_) (Prod.snd A14_)) (ifB A17_ ((List.length (orL A11_ A13_) ≤ A19_ ∧ List.length A20_ ≤ A19_) ∧ Q (SV.bool A18_) [(false, vy_ b)]) (Q (SV.bool false) [(false, vy_ b)])) (ifB (pushCode (Prod.fst A12_) A16_ (Prod.fst A14_) (Prod.snd A14_) (Prod.fst A15_) (Prod.snd A15_) != (0 : Int)) ((List.length (orL A11_ A13_) ≤ A19_ ∧ List.length A20_ ≤ A19_) ∧ Q (SV.bool (eqW4 (orI A11_ (Prod.fst A12_)) (orI A11_ A16_) (orL A11_ A13_) A20_ (Prod.fst A12_) A16_ (Prod.fst A14_) (Prod.snd A14_))) [(false, vy_ b)]) (Holds (b = b ∧ Prod.fst (Subtype.val (g_DrawWorldPush b)) = Prod.fst (Subtype.val (g_DrawWorldPush b)) ∧ Prod.fst A15_ = Prod.fst A15_ ∧ Prod.snd A15_ = Prod.snd A15_ ∧ (orI A11_ (Prod.fst A12_), orI A11_ A16_, orL A11_ A13_, orL A11_ (Prod.snd A14_)) = (orI A11_ (Prod.fst A12_), orI A11_ A16_, orL A11_ A13_, orL A11_ (Prod.snd A14_)) ∧ (0 : Int) ≤ (0 : Int) ∧ (0 : Int) ≤ (↑(List.length (Prod.fst A14_)) : Int)) ∧ ∀ (y1 : List Int × (Int × Int × List Body × List Pair) × Int × Vec × (Int × Int × List Body × List Pair) × Int), let y1f0_ := Prod.fst y1; let y1s1_ := Prod.snd y1; let y1f1_ := Prod.fst (Prod.snd y1); let y1f2_ := Prod.fst (Prod.snd (Prod.snd y1)); let y1f3_ := Prod.fst (Prod.snd (Prod.snd (Prod.snd y1))); let y1s4_ := Prod.snd (Prod.snd (Prod.snd (Prod.snd y1))); let y1f4_ := Prod.fst (Prod.snd (Prod.snd (Prod.snd (Prod.snd y1)))); let y1s5_ := Prod.snd (Prod.snd (Prod.snd (Prod.snd (Prod.snd y1)))); let A10_ := (Prod.snd y1s4_ + (1 : Int)); let A9_ := (Prod.snd (Prod.snd y1f4_)); let A7_ := (↑(List.length (Prod.fst (Prod.snd (Prod.snd y1f1_)))) : Int); let A5_ := (Subtype.val (g_DrawWorldPush b)); let A8_ := (Prod.snd (Prod.snd (Prod.fst A5_))); let A6_ := (worldOk (Prod.fst (Prod.fst A5_)) (Prod.fst (Prod.snd (Prod.fst A5_))) (Prod.fst A8_) (Prod.snd A8_)); let A4_ := (Ty.ix Ty.body (Prod.fst A9_) (Int.toNat y1s5_)); let A3_ := (Ty.ix Ty.body (Prod.fst (Prod.snd (Prod.snd y1f1_))) (Int.toNat y1s5_)); let A2_ := (orI A6_ (Prod.fst (Prod.fst A5_)), orI A6_ (Prod.fst (Prod.snd (Prod.fst A5_))), orL A6_ (pushBodies (Prod.fst (Prod.fst A5_)) (Prod.fst (Prod.snd (Prod.fst A5_))) (Prod.fst A8_) (Prod.snd A8_) (Prod.fst (Prod.snd A5_)) (Prod.snd (Prod.snd A5_))), orL A6_ (Prod.snd A8_)); Holds (Prod.fst y1 = b ∧ y1f1_ = Prod.fst A5_ ∧ y1f2_ = Prod.fst (Prod.snd A5_) ∧ y1f3_ = Prod.snd (Prod.snd A5_) ∧ y1f4_ = A2_ ∧ (0 : Int) ≤ y1s5_ ∧ y1s5_ ≤ (↑(List.length (Prod.fst A8_)) : Int)) → ifB (decide (Prod.snd y1s4_ < A7_)) (((0 : Int) ≤ y1s5_ ∧ y1s5_ < A7_) ∧ ifB (Body.Id A3_ == y1f2_) (((0 : Int) ≤ y1s5_ ∧ y1s5_ < (↑(List.length (Prod.fst A9_)) : Int)) ∧ ifB (!(Body.Id A4_ == Body.Id (pushAllB1 A3_ y1f3_) && (Shape.Kind (Body.Shape A4_) == Shape.Kind (Body.Shape (pushAllB1 A3_ y1f3_)) && (Shape.Wide (Body.Shape A4_) == Shape.Wide (Body.Shape (pushAllB1 A3_ y1f3_)) && (Shape.High (Body.Shape A4_) == Shape.High (Body.Shape (pushAllB1 A3_ y1f3_)) && (Vec.X (Body.At A4_) == Vec.X (Body.At (pushAllB1 A3_ y1f3_)) && (Vec.Y (Body.At A4_) == Vec.Y (Body.At (pushAllB1 A3_ y1f3_)) && (Vec.X (Body.Drive A4_) == Vec.X (Body.Drive (pushAllB1 A3_ y1f3_)) && (Vec.Y (Body.Drive A4_) == Vec.Y (Body.Drive (pushAllB1 A3_ y1f3_)) && (Body.Mass A4_ == Body.Mass (pushAllB1 A3_ y1f3_) && (Body.Bounce A4_ == Body.Bounce (pushAllB1 A3_ y1f3_) && (Body.Rub A4_ == Body.Rub (pushAllB1 A3_ y1f3_) && Body.Quiet A4_ == Body.Quiet (pushAllB1 A3_ y1f3_))))))))))))) (Q (SV.bool false) [(false, vy_ y1f0_)]) (Holds (Prod.fst y1 = b ∧ y1f1_ = Prod.fst A5_ ∧ y1f2_ = Prod.fst (Prod.snd A5_) ∧ y1f3_ = Prod.snd (Prod.snd A5_) ∧ y1f4_ = A2_ ∧ (0 : Int) ≤ w_ A10_ ∧ w_ A10_ ≤ (↑(List.length (Prod.fst A8_)) : Int)) ∧ Int.toNat (A7_ - w_ A10_) < Int.toNat (A7_ - y1s5_))) (((0 : Int) ≤ y1s5_ ∧ y1s5_ < (↑(List.length (Prod.fst A9_)) : Int)) ∧ ifB (!(Body.Id A4_ == Body.Id A3_ && (Shape.Kind (Body.Shape A4_) == Shape.Kind (Body.Shape A3_) && (Shape.Wide (Body.Shape A4_) == Shape.Wide (Body.Shape A3_) && (Shape.High (Body.Shape A4_) == Shape.High (Body.Shape A3_) && (Vec.X (Body.At A4_) == Vec.X (Body.At A3_) && (Vec.Y (Body.At A4_) == Vec.Y (Body.At A3_) && (Vec.X (Body.Drive A4_) == Vec.X (Body.Drive A3_) && (Vec.Y (Body.Drive A4_) == Vec.Y (Body.Drive A3_) && (Body.Mass A4_ == Body.Mass A3_ && (Body.Bounce A4_ == Body.Bounce A3_ && (Body.Rub A4_ == Body.Rub A3_ && Body.Quiet A4_ == Body.Quiet A3_)))))))))))) (Q (SV.bool false) [(false, vy_ y1f0_)]) (Holds (Prod.fst y1 = b ∧ y1f1_ = Prod.fst A5_ ∧ y1f2_ = Prod.fst (Prod.snd A5_) ∧ y1f3_ = Prod.snd (Prod.snd A5_) ∧ y1f4_ = A2_ ∧ (0 : Int) ≤ w_ A10_ ∧ w_ A10_ ≤ (↑(List.length (Prod.fst A8_)) : Int)) ∧ Int.toNat (A7_ - w_ A10_) < Int.toNat (A7_ - y1s5_)))) ((List.length (Prod.fst A9_) ≤ (1048576 : Nat) ∧ List.length (Prod.snd A9_) ≤ (1048576 : Nat)) ∧ ifB (worldOk (Prod.fst y1f4_) (Prod.fst (Prod.snd y1f4_)) (Prod.fst A9_) (Prod.snd A9_)) (Q (SV.bool (Prod.fst y1f4_ == Prod.fst y1f1_)) [(false, vy_ y1f0_)]) (Q (SV.bool false) [(false, vy_ y1f0_)])))))))) := by kernel_rfl

theorem ok_lawWorldPush : FsOk Tryz.prog 13 fs_lawWorldPush := fsOk_of tt_ok (tabFs_cons ok_DrawWorldPush (tabFs_cons ok_implWorldPush (tabFs_cons ok_specWorldPush (tabFs_cons ok_lawsPqWorld (tabFs_cons ok_specWorldOk (tabFs_cons ok_implBodyPush (tabFs_cons ok_implWorldOk tabFs_nil))))))) mixed Tryz.func13 (by kernel_rfl) (by kernel_rfl) (by
    intro args LL p r HH h hp
    unfold fs_lawWorldPush at h
    dsimp only at h
    split at h
    case h_2 => cases h
    rename_i b
    simp only [Option.some.injEq, Prod.mk.injEq] at h
    obtain ⟨rfl, rfl, rfl⟩ := h
    refine ⟨by simp [Form, stays], (L_lawWorldPush), ?_⟩
    rw [vc_lawWorldPush]
    try dsimp only
    have hb := bytesOk_of (hp _ rfl)
    generalize g_DrawWorldPush b = z
    obtain ⟨⟨⟨t, p, xs, ps⟩, id, v⟩, hz⟩ := z
    have hz : worldD (t, p, xs, ps) := hz
    simp only [worldD] at hz
    have g1 := length_pushW t p xs ps id v
    have g2 := length_orL (worldOk t p xs ps) ps
    dsimp only
    simp only [eqW4_self, bne_self_eq_false, beq_self_eq_true, Bool.not_true, ifBt, ifBf]
    refine ifB_of (fun c => ⟨(by trivial), (by trivial)⟩) (fun c => ⟨hb, ⟨by omega, by omega⟩, ⟨by omega, by omega⟩, ⟨by omega, by omega⟩, ⟨by omega, by omega⟩, ifB_of (fun d => ⟨⟨by omega, by omega⟩, (by trivial), (by trivial)⟩) (fun d => ifB_of (fun e => ⟨⟨by omega, by omega⟩, ?_⟩) (fun e => ?_))⟩)
    · have hW := not_false d
      have hx : pushBodies t p xs ps id v = xs := by
        unfold pushBodies
        cases q : driveOk v && hasB xs id with
        | false => rfl
        | true =>
          rw [Bool.and_eq_true] at q
          simp [pushCode, hW, q.1, q.2] at e
      simp only [orI, orL, hW, cond_true, hx, eqW4_self]
      exact ⟨(by trivial), (by trivial)⟩
    · have hW := not_false d
      have hok := worldOk_bodies hW
      have hd : driveOk v = true ∧ hasB xs id = true := by
        cases q1 : driveOk v with
        | false => simp [pushCode, hW, q1] at e
        | true =>
          cases q2 : hasB xs id with
          | false => simp [pushCode, hW, q1, q2] at e
          | true => exact ⟨rfl, rfl⟩
      obtain ⟨h1, h2⟩ := hd
      have hx : pushBodies t p xs ps id v = xs.set (atB xs id) (pushB (Ty.ix .body xs (atB xs id)) v) := by simp [pushBodies, h1, h2]
      obtain ⟨a1, a2⟩ := hasB_id h2
      have hkin : Kin xs (xs.set (atB xs id) (pushB (Ty.ix .body xs (atB xs id)) v)) := Kin.set (kin_push _ _)
      have hok2 : bodiesOk (xs.set (atB xs id) (pushB (Ty.ix .body xs (atB xs id)) v)) = true := ok_kin hok hkin ((allOk_of hok).set fun hk => ok_pushB (bodiesOk_each hok hk))
      have hW2 := worldOk_kin hkin hok2 hW
      simp only [orI, orL, hW, cond_true, hx]
      refine ⟨⟨(by trivial), (by trivial), (by trivial), (by trivial), (by trivial), by omega, by omega⟩, ?_⟩
      rintro ⟨b', ⟨t', p', xs', ps'⟩, id', v', ⟨t2, p2, ys, qs⟩, i⟩ ⟨h⟩
      dsimp only at h ⊢
      obtain ⟨rfl, hwd, rfl, rfl, hwx, i0, i1⟩ := h
      cases hwd
      cases hwx
      refine ifB_of (fun c1 => ?_) (fun c1 => ?_)
      · have cc := of_decide_eq_true c1
        have hi : i.toNat < xs.length := by omega
        have w : IntKind.i64.wrap (i + 1) = i + 1 := wrap_small (by omega) (by omega)
        rw [w]
        refine ⟨⟨i0, cc⟩, ifB_of (fun m => ⟨⟨i0, by rw [List.length_set]; exact cc⟩, ?_⟩) (fun m => ⟨⟨i0, by rw [List.length_set]; exact cc⟩, ?_⟩)⟩
        · have m := eq_of_beq m
          have ei : atB xs id' = i.toNat := by
            rcases Nat.lt_trichotomy (atB xs id') i.toNat with z | z | z
            · have := bodies_lt2 hok z hi
              omega
            · exact z
            · have := bodies_lt2 hok z a1
              omega
          have e1 : Ty.ix .body (xs.set (atB xs id') (pushB (Ty.ix .body xs (atB xs id')) v')) i.toNat = pushAllB1 (Ty.ix .body xs i.toNat) v' := by
            rw [ei, ix_set_self (T := .body) hi]
            unfold pushAllB1
            rw [bodiesOk_each hok hi, h1]
            rfl
          rw [e1]
          simp only [beq_self_eq_true, Bool.and_self, Bool.not_true, ifBf]
          exact ⟨⟨(by trivial), (by trivial), (by trivial), (by trivial), (by trivial), by omega, by omega⟩, by omega⟩
        · have m := beq_eq_false_iff_ne.1 m
          have e1 : Ty.ix .body (xs.set (atB xs id') (pushB (Ty.ix .body xs (atB xs id')) v')) i.toNat = Ty.ix .body xs i.toNat := ix_set_ne (T := .body) (fun z => m (by rw [← z]; exact a2))
          rw [e1]
          simp only [beq_self_eq_true, Bool.and_self, Bool.not_true, ifBf]
          exact ⟨⟨(by trivial), (by trivial), (by trivial), (by trivial), (by trivial), by omega, by omega⟩, by omega⟩
      · rw [hW2, beq_self_eq_true]
        simp only [ifBt]
        exact ⟨⟨by rw [List.length_set]; omega, by omega⟩, (by trivial), (by trivial)⟩)

end
end Go.Proofs.YtdhbkcaaijgocaaGreat.Sym

