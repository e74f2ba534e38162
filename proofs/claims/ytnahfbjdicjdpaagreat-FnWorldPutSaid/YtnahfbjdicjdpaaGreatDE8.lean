/-
  What the rows of this claim stand on, part 8: the machine, the walks, the plain laws, as far as they are used.
  No condition.
-/
import Derived.Test.YtnahfbjdicjdpaaGreatDE7
namespace Go.Proofs.YtnahfbjdicjdpaaGreat.Sym
open Go
set_option linter.unusedVariables false
set_option linter.unusedSimpArgs false

section
variable {P : Program} {wr : Nat → Prop} {env : Env} {H : Hp} {w w' : Go.World}

theorem run_copy_row_k (w : Go.World) (dT sT ty elem : TypeId) (g o dLen dCap : Nat) (a : Addr) (sLen sCap k : Nat) (cur : Array Value) (t : TypeId) (cs : List Value)
    (hu : P.underlying dT = some (.slice elem)) (hs : (P.info? elem).map (·.size) = some k)
    (hg : w.heap[g]? = some (.cells cur t (0, 0))) (hn : cs.length = Nat.min sLen dLen * k)
    (hsrc : ∀ j v, cs[j]? = some v → w.cell? (a.add j) = some v) (hfit : o + cs.length ≤ cur.size) (h1 : ∀ v ∈ cs, v.oneCell' = true) :
    (Builtin.copy_ #[dT, sT] ty #[.slice (some ⟨g, o, none⟩) dLen dCap, .slice (some a) sLen sCap]).run P w =
      .ok (goInt (Nat.min sLen dLen)) (w.setRow g (cur.toList.take o ++ cs ++ cur.toList.drop (o + cs.length)).toArray) := by
  have hl := run_loadCells_list (P := P) w a cs hsrc
  have hst := run_storeCells_at P g o t cs 0 cur w hg (by simpa using hfit) h1
  cases hq : P.info? elem with
  | none => simp [hq] at hs
  | some i =>
    have hi : i.size = k := by simpa [hq] using hs
    simp [Builtin.copy_, run_underlying hu, Builtin.lenOf, Builtin.firstCells, sizeOf, typeInfo, hq, hi, ← hn, hl, hst]

theorem flat_get_take {U : Ty} {xs : List U.El} {i q : Nat} (h : q < i * U.sz) : (flat U (xs.take i))[q]? = (flat U xs)[q]? := by
  rw [flat_take, List.getElem?_take, if_pos h]

/-- One row written twice: first what comes behind, then what is put in. -/
theorem lies_insert {U : Ty} {xs ys : List U.El} {vs : Array Value} {off i : Nat} (hl : Lies U xs vs off) (hi : i ≤ xs.length) (hfit : off + (xs.length + ys.length) * U.sz ≤ vs.size) :
    Lies U (xs.take i ++ ys ++ xs.drop i) ((((vs.toList.take (off + (i + ys.length) * U.sz) ++ flat U (xs.drop i) ++ vs.toList.drop (off + (i + ys.length) * U.sz + (flat U (xs.drop i)).length)).toArray).toList.take (off + i * U.sz) ++ flat U ys ++
      ((vs.toList.take (off + (i + ys.length) * U.sz) ++ flat U (xs.drop i) ++ vs.toList.drop (off + (i + ys.length) * U.sz + (flat U (xs.drop i)).length)).toArray).toList.drop (off + i * U.sz + (flat U ys).length)).toArray) off := by
  have hly : (flat U ys).length = ys.length * U.sz := flat_length U ys
  have hld : (flat U (xs.drop i)).length = (xs.length - i) * U.sz := by rw [flat_length, List.length_drop]
  have hlt : (flat U (xs.take i)).length = i * U.sz := by rw [flat_length, List.length_take, Nat.min_eq_left hi]
  have e1 : (i + ys.length) * U.sz = i * U.sz + ys.length * U.sz := Nat.add_mul _ _ _
  have e2 : (xs.length + ys.length) * U.sz = i * U.sz + (xs.length - i) * U.sz + ys.length * U.sz := by
    rw [← Nat.add_mul, ← Nat.add_mul]
    congr 1
    omega
  rw [lies_flat]
  intro q v hq
  rw [flat_append, flat_append] at hq
  rw [hly, hld]
  have hvl : vs.toList.length = vs.size := by simp
  have hr1 : (vs.toList.take (off + (i + ys.length) * U.sz) ++ flat U (xs.drop i) ++ vs.toList.drop (off + (i + ys.length) * U.sz + (xs.length - i) * U.sz)).length = vs.size := by
    simp only [List.length_append, List.length_take, List.length_drop, hvl, hld]
    omega
  have hq1 := (List.getElem?_eq_some_iff.1 hq).1
  simp only [List.length_append, hly, hld, hlt] at hq1
  have g2 := get_splice (l := vs.toList.take (off + (i + ys.length) * U.sz) ++ flat U (xs.drop i) ++ vs.toList.drop (off + (i + ys.length) * U.sz + (xs.length - i) * U.sz)) (us := flat U ys) (p := off + i * U.sz) (by rw [hr1, hly]; omega) (off + q)
  rw [hly] at g2
  rw [List.getElem?_toArray, g2]
  have g1 := get_splice (l := vs.toList) (us := flat U (xs.drop i)) (p := off + (i + ys.length) * U.sz) (by rw [hvl, hld]; omega) (off + q)
  rw [hld] at g1
  by_cases c1 : q < i * U.sz
  · rw [if_pos (by omega), g1, if_pos (by omega), Array.getElem?_toList]
    rw [List.append_assoc, List.getElem?_append_left (by omega), flat_get_take c1] at hq
    exact lies_flat.1 hl q v hq
  · rw [if_neg (by omega)]
    by_cases c2 : q < i * U.sz + ys.length * U.sz
    · rw [if_pos (by omega)]
      rw [List.append_assoc, List.getElem?_append_right (by omega), List.getElem?_append_left (by omega)] at hq
      rw [← hq]
      congr 1
      omega
    · rw [if_neg (by omega), g1, if_neg (by omega), if_pos (by omega)]
      rw [List.append_assoc, List.getElem?_append_right (by omega), List.getElem?_append_right (by omega)] at hq
      rw [← hq]
      congr 1
      omega

/-- A new row: what came ahead, then zeros; then what is put in, then what comes behind. -/
theorem lies_grow {U : Ty} {xs ys : List U.El} {row : Array Value} {rest : List Value} {i : Nat} (hr : row.toList = flat U (xs.take i) ++ rest) (hi : i ≤ xs.length) (hfit : (xs.length + ys.length) * U.sz ≤ row.size) :
    Lies U (xs.take i ++ ys ++ xs.drop i) ((((row.toList.take (i * U.sz) ++ flat U ys ++ row.toList.drop (i * U.sz + (flat U ys).length)).toArray).toList.take ((i + ys.length) * U.sz) ++ flat U (xs.drop i) ++
      ((row.toList.take (i * U.sz) ++ flat U ys ++ row.toList.drop (i * U.sz + (flat U ys).length)).toArray).toList.drop ((i + ys.length) * U.sz + (flat U (xs.drop i)).length)).toArray) 0 := by
  have hly : (flat U ys).length = ys.length * U.sz := flat_length U ys
  have hld : (flat U (xs.drop i)).length = (xs.length - i) * U.sz := by rw [flat_length, List.length_drop]
  have hlt : (flat U (xs.take i)).length = i * U.sz := by rw [flat_length, List.length_take, Nat.min_eq_left hi]
  have e1 : (i + ys.length) * U.sz = i * U.sz + ys.length * U.sz := Nat.add_mul _ _ _
  have e2 : (xs.length + ys.length) * U.sz = i * U.sz + (xs.length - i) * U.sz + ys.length * U.sz := by
    rw [← Nat.add_mul, ← Nat.add_mul]
    congr 1
    omega
  rw [lies_flat]
  intro q v hq
  rw [flat_append, flat_append] at hq
  rw [Nat.zero_add]
  rw [hly, hld]
  have hvl : row.toList.length = row.size := by simp
  have hr1 : (row.toList.take (i * U.sz) ++ flat U ys ++ row.toList.drop (i * U.sz + ys.length * U.sz)).length = row.size := by
    simp only [List.length_append, List.length_take, List.length_drop, hvl, hly]
    omega
  have hq1 := (List.getElem?_eq_some_iff.1 hq).1
  simp only [List.length_append, hly, hld, hlt] at hq1
  have g2 := get_splice (l := row.toList.take (i * U.sz) ++ flat U ys ++ row.toList.drop (i * U.sz + ys.length * U.sz)) (us := flat U (xs.drop i)) (p := (i + ys.length) * U.sz) (by rw [hr1, hld]; omega) q
  rw [hld] at g2
  rw [List.getElem?_toArray, g2]
  have g1 := get_splice (l := row.toList) (us := flat U ys) (p := i * U.sz) (by rw [hvl, hly]; omega) q
  rw [hly] at g1
  by_cases c1 : q < i * U.sz
  · rw [if_pos (by omega), g1, if_pos (by omega), hr, List.getElem?_append_left (by omega)]
    rw [List.append_assoc, List.getElem?_append_left (by omega)] at hq
    exact hq
  · by_cases c2 : q < i * U.sz + ys.length * U.sz
    · rw [if_pos (by omega), g1, if_neg (by omega), if_pos (by omega)]
      rw [List.append_assoc, List.getElem?_append_right (by omega), List.getElem?_append_left (by omega)] at hq
      rw [← hq]
      congr 1
      omega
    · rw [if_neg (by omega), if_pos (by omega)]
      rw [List.append_assoc, List.getElem?_append_right (by omega), List.getElem?_append_right (by omega)] at hq
      rw [← hq]
      congr 1
      omega

theorem over_inplace (hh : HRel wr env H w) {j n : Nat} {U : Ty} {xs zs : List U.El} (hj : H j = some (true, .vec U xs)) (hn : H n = none) (hnew : ∀ k, w.heap.size ≤ k → wr k)
    {b off E : Nat} {row : Array Value} (hb : (env j).1 = some ⟨b, off, none⟩) (hc : (env j).2 ≠ 0) (hw : ∀ y, y ≠ b → w'.heap[y]? = w.heap[y]?) (hrow : w'.heap[b]? = some (.cells row E (0, 0)))
    (hsize : off + (env j).2 * U.sz ≤ row.size) (hl : zs.length ≤ (env j).2) (hlies : Lies U zs row off) (h1 : w'.os = w.os) (h2 : w'.tape = w.tape) (h3 : w'.output = w.output) (h4 : w'.heap.size = w.heap.size) :
    Ext env H (envSet env n (env j)) (updH H [(j, true, .dead), (n, true, .vec U zs)]) ∧ HRel wr (envSet env n (env j)) (updH H [(j, true, .dead), (n, true, .vec U zs)]) w' ∧ Fr wr w w' := by
  have hown : own env j (.vec U xs) = some b := by simp [own, hb, hc]
  have := hh.over (w' := w') (zs := zs) hj hn (x := env j) (fun y _ hy => hw y (fun e => hy (e ▸ hown))) hnew
    (fun H' => ⟨by simpa [envSet] using hl, .inr ⟨b, off, E, row, (0, 0), by simp [envSet, hb], hrow, by simpa [envSet] using hsize, hlies, fun _ => rfl⟩⟩)
    (fun y hy => .inl (by
      have h1 : own (envSet env n (env j)) n (.vec U zs) = own env j (.vec U xs) := by simp [own, envSet]
      rw [← h1]; exact hy))
  refine ⟨this.1, this.2, h1, h2, h3, by omega, fun k hk hnw => hw k fun e => hnw ?_⟩
  subst e
  exact hh.wrt j _ hj _ hown

theorem over_new (hh : HRel wr env H w) {j n : Nat} {U : Ty} {xs zs : List U.El} (hj : H j = some (true, .vec U xs)) (hn : H n = none) (hnew : ∀ k, w.heap.size ≤ k → wr k)
    {gc E : Nat} {row : Array Value} (hw : ∀ y, y < w.heap.size → w'.heap[y]? = w.heap[y]?) (hrow : w'.heap[w.heap.size]? = some (.cells row E (0, 0)))
    (hsize : gc * U.sz ≤ row.size) (hl : zs.length ≤ gc) (hlies : Lies U zs row 0) (h1 : w'.os = w.os) (h2 : w'.tape = w.tape) (h3 : w'.output = w.output) (h4 : w.heap.size ≤ w'.heap.size) :
    Ext env H (envSet env n (some ⟨w.heap.size, 0, none⟩, gc)) (updH H [(j, true, .dead), (n, true, .vec U zs)]) ∧ HRel wr (envSet env n (some ⟨w.heap.size, 0, none⟩, gc)) (updH H [(j, true, .dead), (n, true, .vec U zs)]) w' ∧ Fr wr w w' := by
  have := hh.over (w' := w') (zs := zs) hj hn (x := (some ⟨w.heap.size, 0, none⟩, gc)) (fun y hy _ => hw y hy) hnew
    (fun H' => ⟨by simpa [envSet] using hl, .inr ⟨w.heap.size, 0, E, row, (0, 0), by simp [envSet], hrow, by simpa [envSet] using hsize, hlies, fun _ => rfl⟩⟩)
    (fun y hy => .inr (by
      simp only [own, envSet, if_true] at hy
      split at hy
      · cases hy
      · simp at hy; omega))
  exact ⟨this.1, this.2, h1, h2, h3, h4, fun k hk _ => hw k hk⟩
end

end Go.Proofs.YtnahfbjdicjdpaaGreat.Sym

