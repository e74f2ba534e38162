/-
  Each operation does what the symbolic machine says of it, seventh part: make, append, len, max, min.
  No condition.
-/
import Derived.Test.YtmflfpedmbfhkaaSymJ
namespace Go.Proofs.Ytmflfpedmbfhkaa.Sym
open Go
set_option linter.unusedVariables false
set_option linter.unusedSimpArgs false

section
variable {P : Program} {wr : Nat → Prop} {env env' : Env} {H H' : Hp} {a : Act} {w w' : World} {T : Nat → SV} {δ : Delta}

theorem roomy_inv {α : Type} {e : TI} {k : RM α} {r : α} (h : (roomy e k).run T H = some r) : 0 < e.bytes ∧ k.run T H = some r := by
  unfold roomy at h
  split at h
  · rename_i hb
    exact ⟨Nat.le_of_ble_eq_true hb, h⟩
  · simp [RM.run] at h

theorem makeSlice_ok (hh : HRel wr env H w) (hnew : ∀ k, w.heap.size ≤ k → wr k) (hs : ∀ d, conc env H (T d) (a.tmps.getD d undef)) {tt : Types} (ht : TabOk P tt) {S : Tab} {d : Nat} {l c : Operand} {t : Nat} {ty : Nat} {pos : String} {af : Array Edge} {g : Option (Nat × Bool)}
    (h : (evOp tt S ⟨some d, .makeSlice t l c, ty, pos, af, g⟩).run T H = some δ) (hp : ∀ p, δ.ok = some p → p) : Good P wr env H a w ⟨some d, .makeSlice t l c, ty, pos, af, g⟩ δ := by
  simp only [evOp] at h
  obtain ⟨i, hi, q⟩ := tiOf_inv h
  clear h
  obtain ⟨e, he, h⟩ := tiOf_inv q
  clear q
  obtain ⟨s1, q, c1⟩ := opv_inv hs h
  clear h
  split at q
  case h_2 => simp [RM.run] at q
  rename_i x n
  obtain ⟨s2, h, c2⟩ := opv_inv hs q
  clear q
  split at h
  case h_2 => simp [RM.run] at h
  rename_i y m
  split at h
  case h_2 => simp [RM.run] at h
  rename_i U hU
  split at h
  case h_2 => simp [RM.run] at h
  rename_i z0 hz0
  obtain ⟨hbp, h⟩ := roomy_inv h
  obtain ⟨hn, h⟩ := fresh_inv h
  simp only [RM.run, Option.some.injEq] at h
  subst h
  obtain ⟨h0, rfl, hroom⟩ := hp _ rfl
  have e1 := conc_int c1
  have e2 := conc_int c2
  obtain ⟨hu, ni, hin, hsz⟩ := typeOk_slice (ht _ _ hi) hU
  obtain ⟨n', u', hin', hu', hsz', hby, hzl, z, hz, hzf, _⟩ := typeOk_some (ht _ _ he)
  rw [hin] at hin'
  cases hin'
  have hzc := zero_conc (env := env) (H := H) hzf
  have hzs := zero_size hzf
  simp only [Array.length_toList] at hzs
  have henc := dec_enc hz0
  have hv := plain_vals (fun c hc => enc_plain U z0 c (by rw [henc]; exact hc)) hzc
  unfold room at hroom
  have hb1 : 0 < ni.bytes ∨ ni.bytes = 0 := by omega
  have hnt : (n.toNat : Int) = n := by omega
  have hb : (ni.bytes : Int) * n ≤ 281474976710656 := by
    rw [← hnt, hby, ← Int.natCast_mul, Nat.mul_comm]
    omega
  obtain ⟨env', r1, r2, r3, r4⟩ := vec_good (w' := w.alloc (.cells (madeCells z.cells (n.toNat * ni.size)) i.elem)) hh hnew hn (U := U) (xs := List.replicate n.toNat z0) (vs := madeCells z.cells (n.toNat * ni.size)) (E := i.elem) (c := n.toNat)
    (by simp) (by rw [size_madeCells, hsz]; exact Nat.le_refl _) (by
      intro k hk o ho
      simp only [List.length_replicate] at hk
      have hlt : k * U.sz + o < n.toNat * U.sz := by
        have : (k + 1) * U.sz ≤ n.toNat * U.sz := Nat.mul_le_mul_right _ hk
        rw [Nat.add_mul, Nat.one_mul] at this
        omega
      have hix : U.ix (List.replicate n.toNat z0) k = z0 := by simp [Ty.ix, List.getD, hk]
      have hm : (k * U.sz + o) % z.cells.size = o := by
        rw [hzs, hzl, ← hsz', hsz, Nat.add_comm, Nat.add_mul_mod_self_right, Nat.mod_eq_of_lt ho]
      have hl := enc_length U z0
      have ho2 : o < z.cells.size := by rw [hzs, hzl, ← hsz', hsz]; exact ho
      rw [hix, Nat.zero_add]
      simp only [madeCells, Array.getElem?_map, hsz]
      rw [Array.getElem?_eq_getElem (by simpa using hlt)]
      simp only [Array.getElem_range, Option.map_some, hm]
      congr 1
      have h5 : z.cells.toList[o]? = some z.cells[o] := by simp [ho2]
      rw [hv, List.getElem?_map, ← henc] at h5
      have h6 : o < (U.enc z0).length := by omega
      rw [List.getElem?_eq_getElem h6] at h5
      simp only [Option.map_some, Option.some.injEq] at h5
      rw [getElem!_pos z.cells o ho2, ← h5]
      simp [List.getD, h6]) rfl rfl rfl rfl
  refine .inl ⟨.slice (some ⟨w.heap.size, 0, none⟩) n.toNat n.toNat, _, ?_, env', r1, r2, r3, by simpa using r4⟩
  have h63 : n ≤ 9223372036854775807 := by
    have : n.toNat * 1 ≤ n.toNat * e.bytes := Nat.mul_le_mul_left _ hbp
    omega
  simp [execOp, e1, e2, run_make w t i.elem ni z hu hin hz .i64 .i64 n n h0 (by omega) hb h63]

def flat (U : Ty) (xs : List U.El) : List Value := xs.flatMap fun x => (U.enc x).map svl

theorem flat_length (U : Ty) : ∀ xs : List U.El, (flat U xs).length = xs.length * U.sz
  | [] => by simp [flat]
  | x :: r => by
    have : flat U (x :: r) = (U.enc x).map svl ++ flat U r := rfl
    rw [this, List.length_append, List.length_map, enc_length, flat_length U r, List.length_cons, Nat.add_mul, Nat.one_mul, Nat.add_comm]

theorem flat_at (U : Ty) : ∀ (xs : List U.El) (e o : Nat), e < xs.length → o < U.sz → (flat U xs)[e * U.sz + o]? = some (svl ((U.enc (U.ix xs e)).getD o .any))
  | [], e, o, h, _ => by simp at h
  | x :: r, e, o, h, ho => by
    have hf : flat U (x :: r) = (U.enc x).map svl ++ flat U r := rfl
    have hl := enc_length U x
    cases e with
    | zero =>
      have hix : U.ix (x :: r) 0 = x := rfl
      rw [hf, hix, Nat.zero_mul, Nat.zero_add, List.getElem?_append_left (by simp; omega), List.getElem?_map, List.getElem?_eq_getElem (by omega)]
      simp [List.getD, show o < (U.enc x).length by omega]
    | succ e =>
      have hix : U.ix (x :: r) (e + 1) = U.ix r e := by simp [Ty.ix, List.getD]
      rw [hf, hix, List.getElem?_append_right (by simp [Nat.add_mul]; omega)]
      rw [← flat_at U r e o (by simpa using h) ho]
      congr 1
      simp [Nat.add_mul]
      omega

theorem lies_flat {U : Ty} {xs : List U.El} {vs : Array Value} {off : Nat} : Lies U xs vs off ↔ ∀ q v, (flat U xs)[q]? = some v → vs[off + q]? = some v := by
  constructor
  · intro h q v hq
    have hlt : q < (flat U xs).length := (List.getElem?_eq_some_iff.1 hq).1
    rw [flat_length] at hlt
    have hs := sz_pos U
    have h1 : q / U.sz < xs.length := by rw [Nat.div_lt_iff_lt_mul hs]; exact hlt
    have h2 : q % U.sz < U.sz := Nat.mod_lt _ hs
    have h3 : q / U.sz * U.sz + q % U.sz = q := by rw [Nat.mul_comm]; exact Nat.div_add_mod q U.sz
    have h4 := flat_at U xs _ _ h1 h2
    have h5 := h _ h1 _ h2
    rw [h3] at h4
    rw [Nat.add_assoc, h3] at h5
    rw [h4] at hq
    rw [h5, hq]
  · intro h e he o ho
    rw [Nat.add_assoc]
    exact h _ _ (flat_at U xs e o he ho)

theorem flat_append (U : Ty) (xs ys : List U.El) : flat U (xs ++ ys) = flat U xs ++ flat U ys := by simp [flat]

theorem castTo_inv {U V : Ty} {xs : List V.El} {ys : List U.El} (h : castTo U V xs = some ys) : ∃ e : V = U, e ▸ xs = ys := by
  cases U <;> cases V <;> first
    | (simp only [castTo, Option.some.injEq] at h; exact ⟨rfl, h⟩)
    | (simp only [castTo, reduceCtorEq] at h)

/-- What a source of elements is: a slice whose cells are the elements'. -/
def SrcOk (w : World) (U : Ty) (ys : List U.El) (u : Value) : Prop :=
  ∃ y c, u = .slice y ys.length c ∧ (0 < ys.length → ∃ b off, y = some ⟨b, off, none⟩ ∧ ∀ q v, (flat U ys)[q]? = some v → w.cell? ⟨b, off + q, none⟩ = some v)

theorem elems_inv {α : Type} (hh : HRel wr env H w) {U : Ty} {v : SV} {u : Value} {k : List U.El → RM α} {r : α} (h : (elems U v k).run T H = some r) (hc : conc env H v u) :
    ∃ ys, (k ys).run T H = some r ∧ SrcOk w U ys u := by
  unfold elems at h
  split at h
  · rename_i j
    simp only [RM.run] at h
    split at h
    case h_2 => simp [RM.run] at h
    rename_i rw V xs hj
    split at h
    case h_2 => simp [RM.run] at h
    rename_i ys hy
    obtain ⟨e, hy⟩ := castTo_inv hy
    subst e
    subst hy
    simp only [conc, conc2, concC, hj] at hc
    refine ⟨_, h, _, _, hc, fun h0 => ?_⟩
    obtain ⟨hl, hv⟩ := hh.blk j rw _ hj
    rcases hv with hv | ⟨b, off, E, vs, fz, hb, hheap, hsize, hlies, _⟩
    · simp only at h0; omega
    · exact ⟨b, off, hb, fun q v hq => by rw [cell_of hheap]; exact lies_flat.1 hlies q v hq⟩
  · rename_i j lo n
    simp only [RM.run] at h
    split at h
    case h_2 => simp [RM.run] at h
    rename_i rw V xs hj
    split at h
    case h_2 => simp [RM.run] at h
    rename_i ys hy
    obtain ⟨e, hy⟩ := castTo_inv hy
    subst e
    subst hy
    simp only [conc, conc2, concC, hj] at hc
    obtain ⟨hlo, y, hc, hy⟩ := hc
    have hlen : ((xs.drop lo).take n).length = n := by simp; omega
    refine ⟨_, h, y, _, by rw [hlen]; exact hc, fun h0 => ?_⟩
    simp only [hlen] at h0
    obtain ⟨hl, hv⟩ := hh.blk j rw _ hj
    rcases hv with hv | ⟨b, off, E, vs, fz, hb, hheap, hsize, hlies, _⟩
    · omega
    · rcases hy with hy | hy
      · omega
      · rw [hb] at hy
        simp only [Option.map_some, add_addr] at hy
        refine ⟨b, off + lo * V.sz, hy, ?_⟩
        have : Lies V ((xs.drop lo).take n) vs (off + lo * V.sz) := by
          intro e he o ho
          rw [hlen] at he
          have h1 := hlies (lo + e) (by omega) o ho
          have hix : V.ix ((xs.drop lo).take n) e = V.ix xs (lo + e) := by
            simp [Ty.ix, List.getD, List.getElem?_take, he]
          rw [hix, ← h1]
          congr 1
          rw [Nat.add_mul]
          omega
        exact fun q v hq => by rw [cell_of hheap]; exact lies_flat.1 this q v hq
  · obtain ⟨y, hc⟩ := hc
    exact ⟨[], h, y, 0, hc, fun h0 => by simp at h0⟩
  · simp [RM.run] at h

theorem flat_one (U : Ty) (ys : List U.El) : ∀ v ∈ flat U ys, v.oneCell' = true := by
  intro v hv
  simp only [flat, List.mem_flatMap, List.mem_map] at hv
  obtain ⟨x, _, c, hc, rfl⟩ := hv
  have := enc_plain U x c hc
  cases c <;> first | rfl | (cases this)

theorem run_append_zero {t ty e : Nat} {n : TypeInfo} (hu : P.underlying t = some (.slice e)) (hn : P.info? e = some n) (base : Option Addr) (l c : Nat) (y : Option Addr) (c' : Nat) (hl : l ≤ c) :
    (Builtin.append_ #[t, t] ty #[.slice base l c, .slice y 0 c']).run P w = .ok (.slice base l c) w := by
  have h0 : ∀ w, (Builtin.firstCells n.size 0 (.slice y 0 c')).run P w = .ok #[] w := by
    intro w
    cases y with
    | none => simp [Builtin.firstCells]
    | some b => simp [Builtin.firstCells, loadCells, loadCellsFrom]
  cases base with
  | none => simp [Builtin.append_, run_underlying hu, run_sizeOf hn, Builtin.lenOf, hl, h0]
  | some b => simp [Builtin.append_, run_underlying hu, run_sizeOf hn, Builtin.lenOf, hl, h0, storeCells]

theorem run_append_room2 {t ty e : Nat} {i : TypeInfo} (ht : P.underlying t = some (.slice e)) (hi : P.info? e = some i) {g off sLen sCap : Nat} {cur : Array Value} {E : Nat} (hg : w.heap[g]? = some (.cells cur E (0, 0)))
    {b : Addr} {m c : Nat} {news : List Value} (hl : news.length = m * i.size) (hnews : ∀ j u, news[j]? = some u → w.cell? (b.add j) = some u) (h1 : ∀ u ∈ news, u.oneCell' = true)
    (hroom : sLen + m ≤ sCap) (hfit : off + sLen * i.size + news.length ≤ cur.size) :
    (Builtin.append_ #[t, t] ty #[.slice (some ⟨g, off, none⟩) sLen sCap, .slice (some b) m c]).run P w =
      .ok (.slice (some ⟨g, off, none⟩) (sLen + m) sCap) (w.setRow g (cur.toList.take (off + sLen * i.size) ++ news ++ cur.toList.drop (off + sLen * i.size + news.length)).toArray) := by
  have hf := run_firstCells_some (P := P) w i.size m b m c news hl hnews
  have hst := run_storeCells_at P g (off + sLen * i.size) E news 0 cur w hg (by simpa using hfit) h1
  simp only [Nat.add_zero] at hst
  simp [Builtin.append_, run_underlying ht, run_sizeOf hi, Builtin.lenOf, hroom, hf, add_addr, hst]

theorem grownCap_need (need old : Nat) (e : Nat) : need ≤ grownCap w need old e := grownCap_ge w need old e

/-- A list goes over from one name to another. -/
theorem HRel.over (hh : HRel wr env H w) {j n : Nat} {U : Ty} {xs zs : List U.El} (hj : H j = some (true, .vec U xs)) (hn : H n = none) {x : Option Addr × Nat}
    (hw : ∀ y, y < w.heap.size → own env j (.vec U xs) ≠ some y → w'.heap[y]? = w.heap[y]?) (hnew : ∀ k, w.heap.size ≤ k → wr k)
    (hb : ∀ H', blkRel (envSet env n x) H' n true (.vec U zs) w') (ho : ∀ y, own (envSet env n x) n (.vec U zs) = some y → own env j (.vec U xs) = some y ∨ w.heap.size ≤ y) :
    Ext env H (envSet env n x) (updH H [(j, true, .dead), (n, true, .vec U zs)]) ∧ HRel wr (envSet env n x) (updH H [(j, true, .dead), (n, true, .vec U zs)]) w' := by
  have hjn : j ≠ n := fun e => by subst e; rw [hn] at hj; cases hj
  have ow : ∀ k b, k ≠ n → own (envSet env n x) k b = own env k b := fun k b e => by cases b <;> simp [own, envSet, e]
  have ex : Ext env H (envSet env n x) (updH H [(j, true, .dead), (n, true, .vec U zs)]) := ⟨fun k r c hk => by
    have hne : k ≠ n := fun e => by subst e; rw [hn] at hk; cases hk
    refine ⟨by simp [envSet, hne], ?_⟩
    rw [updH_two]
    by_cases hkj : k = j
    · rw [if_pos hkj]; exact ⟨_, _, rfl, by cases c <;> trivial⟩
    · rw [if_neg hkj, if_neg hne]; exact ⟨r, c, hk, stays_refl c⟩⟩
  refine ⟨ex, hh.step (fun k => k = j ∨ k = n) ex ?_ ?_⟩
  · intro k r c hk hc
    have h1 : k ≠ j := fun e => hk (.inl e)
    have h2 : k ≠ n := fun e => hk (.inr e)
    rw [updH_two, if_neg h1, if_neg h2] at hc
    refine ⟨hc, by simp [envSet, h2], fun y hy => hw y (own_lt hh hc hy) (fun e => ?_)⟩
    exact hh.dj j k true _ r c (Ne.symm h1) hj hc (.inl rfl) y e hy
  · intro k r c hk hc
    by_cases h1 : k = j
    · subst h1
      rw [updH_two, if_pos rfl] at hc
      cases hc
      exact ⟨trivial, fun y hy => by simp [own] at hy⟩
    · have h2 : k = n := hk.resolve_left h1
      subst h2
      rw [updH_two, if_neg h1, if_pos rfl] at hc
      cases hc
      refine ⟨hb _, fun y hy => ⟨fun _ => ?_, ?_⟩⟩
      · rcases ho y hy with h | h
        · exact hh.wrt j _ hj y h
        · exact hnew y h
      · intro k' r' b' hne hk' hy' _
        by_cases h3 : k' = j
        · subst h3
          rw [updH_two, if_pos rfl] at hk'
          cases hk'
          simp [own] at hy'
        · rw [updH_two, if_neg h3, if_neg hne] at hk'
          rw [ow _ _ hne] at hy'
          rcases ho y hy with h | h
          · exact hh.dj j k' true _ r' b' (Ne.symm h3) hj hk' (.inl rfl) y h hy'
          · have := own_lt hh hk' hy'
            omega

theorem append_good (hh : HRel wr env H w) (hnew : ∀ k, w.heap.size ≤ k → wr k) {t ty e : Nat} {ni : TypeInfo} {z : Value} {U : Ty} (hu : P.underlying t = some (.slice e)) (hin : P.info? e = some ni) (hsz : ni.size = U.sz) (hz : ni.zero = some z)
    (hzs : z.cells.size = U.sz) {j n : Nat} {xs ys : List U.El} (hj : H j = some (true, .vec U xs)) (hn : H n = none) {u : Value} (hs : SrcOk w U ys u) (hb0 : 0 < ni.bytes) (hr : (xs.length + ys.length) * ni.bytes ≤ room) :
    ∃ v w', (Builtin.append_ #[t, t] ty #[.slice (env j).1 xs.length (env j).2, u]).run P w = .ok v w' ∧ ∃ env', Ext env H env' (updH H [(j, true, .dead), (n, true, .vec U (xs ++ ys))]) ∧
      HRel wr env' (updH H [(j, true, .dead), (n, true, .vec U (xs ++ ys))]) w' ∧ Fr wr w w' ∧ conc env' (updH H [(j, true, .dead), (n, true, .vec U (xs ++ ys))]) (.vec n) v := by
  have hjn : j ≠ n := fun e => by subst e; rw [hn] at hj; cases hj
  have hcv : ∀ (env' : Env), conc env' (updH H [(j, true, .dead), (n, true, .vec U (xs ++ ys))]) (.vec n) (.slice (env' n).1 (xs ++ ys).length (env' n).2) := by
    intro env'
    simp only [conc, conc2, concC, updH_two, if_neg (Ne.symm hjn), if_true]
  obtain ⟨hl, hv⟩ := hh.blk j true _ hj
  obtain ⟨y, c, rfl, hsrc⟩ := hs
  unfold room at hr
  have hneed : xs.length + ys.length ≤ (xs.length + ys.length) * ni.bytes := Nat.le_mul_of_pos_right _ hb0
  by_cases h0 : ys.length = 0
  · have hy : ys = [] := List.length_eq_zero_iff.1 h0
    subst hy
    refine ⟨_, w, by rw [show ([] : List U.El).length = 0 from rfl]; exact run_append_zero hu hin _ _ _ _ _ hl, envSet env n (env j), ?_⟩
    have := hh.over (w' := w) (zs := xs ++ []) hj hn (x := env j) (fun _ _ _ => rfl) hnew (fun H' => by
      refine ⟨by simpa [envSet] using hl, ?_⟩
      simpa [envSet] using hv) (fun y hy => .inl (by simpa [own, envSet] using hy))
    refine ⟨this.1, this.2, .refl _ _, ?_⟩
    have := hcv (envSet env n (env j))
    simpa [envSet] using this
  · obtain ⟨b', off', rfl, hcells⟩ := hsrc (by omega)
    have hflat : (flat U ys).length = ys.length * ni.size := by rw [flat_length, hsz]
    have hnews : ∀ q v, (flat U ys)[q]? = some v → w.cell? ((⟨b', off', none⟩ : Addr).add q) = some v := fun q v h => by rw [add_addr]; exact hcells q v h
    by_cases hroom : xs.length + ys.length ≤ (env j).2
    · rcases hv with hv | ⟨b, off, E, vs, fz, hb, hheap, hsize, hlies, hfz⟩
      · omega
      have hfz := hfz rfl
      subst hfz
      have hm : (xs.length + ys.length) * U.sz ≤ (env j).2 * U.sz := Nat.mul_le_mul_right _ hroom
      rw [Nat.add_mul] at hm
      have hrun := run_append_room2 (P := P) (w := w) (ty := ty) hu hin (g := b) (off := off) (sLen := xs.length) (sCap := (env j).2) hheap (c := c) hflat hnews (flat_one U ys) hroom (by rw [hflat, hsz]; omega)
      rw [hb]
      have hown : own env j (.vec U xs) = some b := by simp [own, hb]; omega
      refine ⟨_, _, hrun, envSet env n (env j), ?_⟩
      have hnewl : Lies U (xs ++ ys) (vs.toList.take (off + xs.length * ni.size) ++ flat U ys ++ vs.toList.drop (off + xs.length * ni.size + (flat U ys).length)).toArray off := by
        rw [lies_flat]
        intro q v hq
        rw [flat_append] at hq
        have hfx := flat_length U xs
        have hfy := flat_length U ys
        have hlt : q < (flat U xs ++ flat U ys).length := (List.getElem?_eq_some_iff.1 hq).1
        simp only [List.length_append] at hlt
        rw [List.getElem?_toArray, get_splice (by rw [hfy, hsz]; simp; omega), hsz, hfy]
        by_cases h1 : q < xs.length * U.sz
        · rw [if_pos (by omega), Array.getElem?_toList]
          rw [List.getElem?_append_left (by omega)] at hq
          exact lies_flat.1 hlies q v hq
        · rw [if_neg (by omega), if_pos (by omega)]
          rw [List.getElem?_append_right (by omega)] at hq
          rw [← hq]
          congr 1
          omega
      have := hh.over (w' := w.setRow b (vs.toList.take (off + xs.length * ni.size) ++ flat U ys ++ vs.toList.drop (off + xs.length * ni.size + (flat U ys).length)).toArray) (zs := xs ++ ys) hj hn (x := env j) (fun y _ hy => setRow_other w b y _ (fun e => hy (e ▸ hown))) hnew (fun H' => by
        refine ⟨by simp [envSet]; omega, .inr ⟨b, off, E, _, (0, 0), by simp [envSet, hb], setRow_heap w b vs _ E (0, 0) hheap, ?_, hnewl, fun _ => rfl⟩⟩
        simp [envSet, hflat, hsz]
        omega) (fun y hy => .inl (by
          have h1 : own (envSet env n (env j)) n (.vec U (xs ++ ys)) = own env j (.vec U xs) := by simp [own, envSet]
          rw [← h1]; exact hy))
      refine ⟨this.1, this.2, fr_setRow (hh.wrt j _ hj b hown), ?_⟩
      have := hcv (envSet env n (env j))
      simpa [envSet, hb] using this
    · have hg : (env j).2 < xs.length + ys.length := by omega
      have hfit := growslice_fits (need := xs.length + ys.length) (old := (env j).2) (bytes := ni.bytes) hg (by omega)
      have h63 : ((xs.length + ys.length : Nat) : Int) ≤ 9223372036854775807 := by omega
      -- the old cells
      have hrun : ∃ olds : List Value, olds = flat U xs ∧ (Builtin.append_ #[t, t] ty #[.slice (env j).1 xs.length (env j).2, .slice (some ⟨b', off', none⟩) ys.length c]).run P w =
          .ok (.slice (some ⟨w.heap.size, 0, none⟩) (xs.length + ys.length) (grownCap w (xs.length + ys.length) (env j).2 e))
            (w.drew.alloc (.cells (olds.toArray ++ (flat U ys).toArray ++ Builtin.zeroCells z.cells (grownCap w (xs.length + ys.length) (env j).2 e - (xs.length + ys.length))) e)) := by
        refine ⟨_, rfl, ?_⟩
        rcases hv with hv | ⟨b, off, E, vs, fz, hb, hheap, hsize, hlies, hfz⟩
        · have hx : xs = [] := List.length_eq_zero_iff.1 (by omega)
          subst hx
          cases hbase : (env j).1 with
          | some q =>
            have := run_append_grow (P := P) w t ty e ni z hu hin hz q 0 (env j).2 [] (by simp) (by simp) ⟨b', off', none⟩ ys.length c (flat U ys) hflat hnews (by simpa using hg) (by simpa using h63) (by simpa using hfit)
            simpa [flat] using this
          | none =>
            have := run_append_nil (P := P) w t ty e ni z hu hin hz ⟨b', off', none⟩ ys.length c (flat U ys) hflat hnews (by omega) (by simpa using h63) (by simp at hr; omega)
            rw [hv]
            simpa [flat] using this
        · rw [hb]
          exact run_append_grow (P := P) w t ty e ni z hu hin hz ⟨b, off, none⟩ xs.length (env j).2 (flat U xs) (by rw [flat_length, hsz]) (fun q v h => by rw [add_addr, cell_of hheap]; exact lies_flat.1 hlies q v h)
            ⟨b', off', none⟩ ys.length c (flat U ys) hflat hnews hg h63 hfit
      obtain ⟨olds, rfl, hrun⟩ := hrun
      have hcap := grownCap_need (w := w) (xs.length + ys.length) (env j).2 e
      generalize grownCap w (xs.length + ys.length) (env j).2 e = gc at hrun hcap
      obtain ⟨f1, f2⟩ := fr_alloc (wr := wr) (w := w) (w' := w.drew.alloc (.cells ((flat U xs).toArray ++ (flat U ys).toArray ++ Builtin.zeroCells z.cells (gc - (xs.length + ys.length))) e)) (o := .cells ((flat U xs).toArray ++ (flat U ys).toArray ++ Builtin.zeroCells z.cells (gc - (xs.length + ys.length))) e) rfl rfl rfl rfl
      refine ⟨_, _, hrun, envSet env n (some ⟨w.heap.size, 0, none⟩, gc), ?_⟩
      have := hh.over (w' := w.drew.alloc (.cells ((flat U xs).toArray ++ (flat U ys).toArray ++ Builtin.zeroCells z.cells (gc - (xs.length + ys.length))) e)) (zs := xs ++ ys) hj hn
        (x := (some ⟨w.heap.size, 0, none⟩, gc)) (fun y hy _ => f2 y hy) hnew (fun H' => by
          refine ⟨by simpa [envSet] using hcap, .inr ⟨w.heap.size, 0, e, (flat U xs).toArray ++ (flat U ys).toArray ++ Builtin.zeroCells z.cells (gc - (xs.length + ys.length)), (0, 0), by simp [envSet], Array.getElem?_push_size, ?_, ?_, fun _ => rfl⟩⟩
          · have : gc * U.sz = (xs.length + ys.length) * U.sz + (gc - (xs.length + ys.length)) * U.sz := by
              rw [← Nat.add_mul]; congr 1; omega
            simp only [envSet, if_true]
            rw [this, Nat.add_mul]
            simp [flat_length, size_zeroCells, hzs]
          · rw [lies_flat]
            intro q v hq
            rw [flat_append] at hq
            have hlt : q < (flat U xs ++ flat U ys).length := (List.getElem?_eq_some_iff.1 hq).1
            rw [Nat.zero_add, Array.getElem?_append_left (by simpa using hlt)]
            simpa using hq) (fun y hy => .inr (by
              simp only [own, envSet, if_true] at hy
              split at hy
              · cases hy
              · simp at hy; omega))
      refine ⟨this.1, this.2, f1, ?_⟩
      have := hcv (envSet env n (some ⟨w.heap.size, 0, none⟩, gc))
      simpa [envSet] using this

theorem append_nil_good (hh : HRel wr env H w) (hnew : ∀ k, w.heap.size ≤ k → wr k) {t ty e : Nat} {ni : TypeInfo} {z : Value} {U : Ty} (hu : P.underlying t = some (.slice e)) (hin : P.info? e = some ni) (hsz : ni.size = U.sz) (hz : ni.zero = some z)
    (hzs : z.cells.size = U.sz) {n : Nat} {ys : List U.El} (hn : H n = none) {x : Option Addr} {u : Value} (hs : SrcOk w U ys u) (hb0 : 0 < ni.bytes) (hr : ys.length * ni.bytes ≤ room) :
    ∃ v w', (Builtin.append_ #[t, t] ty #[.slice x 0 0, u]).run P w = .ok v w' ∧ ∃ env', Ext env H env' (updH H [(n, true, .vec U ys)]) ∧
      HRel wr env' (updH H [(n, true, .vec U ys)]) w' ∧ Fr wr w w' ∧ conc env' (updH H [(n, true, .vec U ys)]) (.vec n) v := by
  obtain ⟨y, c, rfl, hsrc⟩ := hs
  unfold room at hr
  have hneed : ys.length ≤ ys.length * ni.bytes := Nat.le_mul_of_pos_right _ hb0
  have hcv : ∀ (env' : Env), conc env' (updH H [(n, true, .vec U ys)]) (.vec n) (.slice (env' n).1 ys.length (env' n).2) := by
    intro env'
    simp only [conc, conc2, concC, updH_one, if_true]
  by_cases h0 : ys.length = 0
  · have hy : ys = [] := List.length_eq_zero_iff.1 h0
    subst hy
    refine ⟨_, w, run_append_zero hu hin _ _ _ _ _ (Nat.le_refl 0), envSet env n (x, 0), ?_⟩
    have := hh.add (w' := w) hn (rw := true) (b := .vec U []) (x := (x, 0)) (fun _ _ => rfl) hnew (fun H' _ => ⟨by simp, .inl (by simp [envSet])⟩) (fun y hy => by simp [own, envSet] at hy)
    refine ⟨this.1, this.2, .refl _ _, ?_⟩
    have := hcv (envSet env n (x, 0))
    simpa [envSet] using this
  · obtain ⟨b', off', rfl, hcells⟩ := hsrc (by omega)
    have hflat : (flat U ys).length = ys.length * ni.size := by rw [flat_length, hsz]
    have hnews : ∀ q v, (flat U ys)[q]? = some v → w.cell? ((⟨b', off', none⟩ : Addr).add q) = some v := fun q v h => by rw [add_addr]; exact hcells q v h
    have hfit := growslice_fits (need := ys.length) (old := 0) (bytes := ni.bytes) (by omega) (by omega)
    have h63 : (ys.length : Int) ≤ 9223372036854775807 := by omega
    have hrun : (Builtin.append_ #[t, t] ty #[.slice x 0 0, .slice (some ⟨b', off', none⟩) ys.length c]).run P w =
          .ok (.slice (some ⟨w.heap.size, 0, none⟩) ys.length (grownCap w ys.length 0 e))
            (w.drew.alloc (.cells ((flat U ys).toArray ++ Builtin.zeroCells z.cells (grownCap w ys.length 0 e - ys.length)) e)) := by
      cases x with
      | some q =>
        have := run_append_grow (P := P) w t ty e ni z hu hin hz q 0 0 [] (by simp) (by simp) ⟨b', off', none⟩ ys.length c (flat U ys) hflat hnews (by omega) (by simpa using h63) (by simpa using hfit)
        simpa using this
      | none =>
        exact run_append_nil (P := P) w t ty e ni z hu hin hz ⟨b', off', none⟩ ys.length c (flat U ys) hflat hnews (by omega) h63 (by omega)
    have hcap := grownCap_need (w := w) ys.length 0 e
    generalize grownCap w ys.length 0 e = gc at hrun hcap
    obtain ⟨env', r1, r2, r3, r4⟩ := vec_good (w' := w.drew.alloc (.cells ((flat U ys).toArray ++ Builtin.zeroCells z.cells (gc - ys.length)) e)) hh hnew hn (U := U) (xs := ys) (vs := (flat U ys).toArray ++ Builtin.zeroCells z.cells (gc - ys.length)) (E := e) (c := gc) hcap (by
      have : gc * U.sz = ys.length * U.sz + (gc - ys.length) * U.sz := by rw [← Nat.add_mul]; congr 1; omega
      rw [this]
      simp [flat_length, size_zeroCells, hzs]) (by
      rw [lies_flat]
      intro q v hq
      have hlt : q < (flat U ys).length := (List.getElem?_eq_some_iff.1 hq).1
      rw [Nat.zero_add, Array.getElem?_append_left (by simpa using hlt)]
      simpa using hq) rfl rfl rfl rfl
    exact ⟨_, _, hrun, env', r1, r2, r3, r4⟩

theorem flat_take (U : Ty) : ∀ (xs : List U.El) (o : Nat), flat U (xs.take o) = (flat U xs).take (o * U.sz)
  | [], o => by simp [flat]
  | x :: r, 0 => by simp [flat]
  | x :: r, o + 1 => by
    have h1 : flat U (x :: r) = (U.enc x).map svl ++ flat U r := rfl
    have h2 : flat U ((x :: r).take (o + 1)) = (U.enc x).map svl ++ flat U (r.take o) := rfl
    have hl : ((U.enc x).map svl).length = U.sz := by rw [List.length_map, enc_length]
    have e : (o + 1) * U.sz = ((U.enc x).map svl).length + o * U.sz := by rw [hl, Nat.add_mul, Nat.one_mul, Nat.add_comm]
    rw [h1, h2, flat_take U r o, e, List.take_length_add_append]
theorem flat_drop (U : Ty) : ∀ (xs : List U.El) (o : Nat), flat U (xs.drop o) = (flat U xs).drop (o * U.sz)
  | [], o => by simp [flat]
  | x :: r, 0 => by simp
  | x :: r, o + 1 => by
    have h1 : flat U (x :: r) = (U.enc x).map svl ++ flat U r := rfl
    have hl : ((U.enc x).map svl).length = U.sz := by rw [List.length_map, enc_length]
    have e : (o + 1) * U.sz = ((U.enc x).map svl).length + o * U.sz := by rw [hl, Nat.add_mul, Nat.one_mul, Nat.add_comm]
    rw [h1, List.drop_succ_cons, flat_drop U r o, e, List.drop_length_add_append]
theorem length_spl {α : Type} {xs ys : List α} {o : Nat} (h : o + ys.length ≤ xs.length) : (spl xs o ys).length = xs.length := by
  simp [spl]; omega
theorem spl_nil {α : Type} (xs : List α) (o : Nat) : spl xs o [] = xs := by simp [spl]

/-- A part of a list that may be written is written over. -/
theorem splice_good (hh : HRel wr env H w) {j o : Nat} {U : Ty} {xs ys : List U.El} (hj : H j = some (true, .vec U xs)) (hle : o + ys.length ≤ xs.length) (hpos : 0 < ys.length) :
    ∃ b off E vs, (env j).1 = some ⟨b, off, none⟩ ∧ w.heap[b]? = some (.cells vs E (0, 0)) ∧ off + (env j).2 * U.sz ≤ vs.size ∧ xs.length ≤ (env j).2 ∧
      ∀ w', w' = w.setRow b (vs.toList.take (off + o * U.sz) ++ flat U ys ++ vs.toList.drop (off + o * U.sz + (flat U ys).length)).toArray →
        Ext env H env (updH H [(j, true, .vec U (spl xs o ys))]) ∧ HRel wr env (updH H [(j, true, .vec U (spl xs o ys))]) w' ∧ Fr wr w w' := by
  obtain ⟨hcap, hrest⟩ := hh.blk j true _ hj
  rcases hrest with hz | ⟨b, off, E, vs, fz, hb1, hheap, hsize, hlies, hfz⟩
  · omega
  have hfz := hfz rfl
  subst hfz
  refine ⟨b, off, E, vs, hb1, hheap, hsize, hcap, ?_⟩
  rintro w' rfl
  have hown : ∀ zs : List U.El, own env j (.vec U zs) = some b := fun zs => by simp [own, hb1]; omega
  have hlen := length_spl hle
  have hfy := flat_length U ys
  have hfx := flat_length U xs
  have hm : (o + ys.length) * U.sz ≤ xs.length * U.sz := Nat.mul_le_mul_right _ hle
  have hc2 : xs.length * U.sz ≤ (env j).2 * U.sz := Nat.mul_le_mul_right _ hcap
  have ha : (o + ys.length) * U.sz = o * U.sz + ys.length * U.sz := Nat.add_mul _ _ _
  have ex : Ext env H env (updH H [(j, true, .vec U (spl xs o ys))]) := ⟨fun k r c hk => ⟨rfl, by
    rw [updH_one]
    by_cases hkj : k = j
    · subst hkj; rw [hj] at hk; cases hk; rw [if_pos rfl]; exact ⟨_, _, rfl, rfl, hlen.symm⟩
    · rw [if_neg hkj]; exact ⟨r, c, hk, stays_refl c⟩⟩⟩
  refine ⟨ex, ?_, fr_setRow (hh.wrt j _ hj b (hown _))⟩
  refine hh.step (fun k => k = j) ex ?_ ?_
  · intro k r c hk hc
    rw [updH_one, if_neg hk] at hc
    refine ⟨hc, rfl, fun y' hy => setRow_other w b y' _ (fun e => ?_)⟩
    subst e
    exact hh.dj j k true _ r c (Ne.symm hk) hj hc (.inl rfl) _ (hown _) hy
  · intro k r c hk hc
    subst hk
    rw [updH_one, if_pos rfl] at hc
    cases hc
    refine ⟨⟨by rw [hlen]; exact hcap, .inr ⟨b, off, E, _, (0, 0), hb1, setRow_heap w b vs _ E (0, 0) hheap, ?_, ?_, fun _ => rfl⟩⟩, ?_⟩
    · simp [hfy]; omega
    · rw [lies_flat]
      intro q v hq
      have hF : ∀ q v, (flat U xs)[q]? = some v → vs[off + q]? = some v := lies_flat.1 hlies
      have hG : flat U (spl xs o ys) = (flat U xs).take (o * U.sz) ++ flat U ys ++ (flat U xs).drop ((o + ys.length) * U.sz) := by
        unfold spl
        rw [flat_append, flat_append, flat_take, flat_drop]
      have hqlt : q < (flat U (spl xs o ys)).length := (List.getElem?_eq_some_iff.1 hq).1
      rw [flat_length, hlen] at hqlt
      have hd : (o + ys.length) * U.sz = o * U.sz + (flat U ys).length := by rw [hfy, ha]
      rw [hG, hd, get_splice (by rw [hfy]; omega)] at hq
      rw [List.getElem?_toArray, get_splice (by rw [hfy]; simp; omega)]
      split at hq
      · rw [if_pos (by omega), Array.getElem?_toList]
        exact hF q v hq
      · rename_i h1
        rw [if_neg (by omega)]
        split at hq
        · rw [if_pos (by omega), ← hq]
          congr 1
          omega
        · rw [if_neg (by omega), Array.getElem?_toList]
          exact hF q v hq
    · intro y' hy
      rw [hown] at hy
      cases hy
      refine ⟨fun _ => hh.wrt k _ hj b (hown _), ?_⟩
      intro k' r' b' hne hk' hy' _
      rw [updH_one, if_neg hne] at hk'
      exact hh.dj k k' true _ r' b' (Ne.symm hne) hj hk' (.inl rfl) _ (hown _) hy'

theorem updH_same {j : Nat} {e : Ent} (hj : H j = some e) : updH H [(j, e)] = H := by
  funext k
  rw [updH_one]
  split
  · rename_i h; rw [h, hj]
  · rfl

theorem append_part_good (hh : HRel wr env H w) {t ty e : Nat} {ni : TypeInfo} {U : Ty} (hu : P.underlying t = some (.slice e)) (hin : P.info? e = some ni) (hsz : ni.size = U.sz)
    {j lo n : Nat} {xs ys : List U.El} (hj : H j = some (true, .vec U xs)) {v1 u : Value} (hv : concC env H (.sl j lo n) v1) (hs : SrcOk w U ys u) (hle : lo + n + ys.length ≤ xs.length) :
    ∃ v w', (Builtin.append_ #[t, t] ty #[v1, u]).run P w = .ok v w' ∧ Ext env H env (updH H [(j, true, .vec U (spl xs (lo + n) ys))]) ∧
      HRel wr env (updH H [(j, true, .vec U (spl xs (lo + n) ys))]) w' ∧ Fr wr w w' ∧ conc env (updH H [(j, true, .vec U (spl xs (lo + n) ys))]) (.sl j lo (n + ys.length)) v := by
  simp only [concC, hj] at hv
  obtain ⟨h1, x, rfl, h2⟩ := hv
  obtain ⟨y, c, rfl, hsrc⟩ := hs
  have hcap := (hh.blk j true _ hj).1
  have hlen := length_spl hle
  by_cases h0 : ys.length = 0
  · have hy : ys = [] := List.length_eq_zero_iff.1 h0
    subst hy
    rw [spl_nil, updH_same hj]
    refine ⟨_, w, run_append_zero hu hin _ _ _ _ _ (by omega), .refl _ _, hh, .refl _ _, ?_⟩
    simp only [conc, conc2, concC, hj]
    exact ⟨by simpa using h1, _, rfl, h2⟩
  · obtain ⟨b', off', rfl, hcells⟩ := hsrc (by omega)
    have hflat : (flat U ys).length = ys.length * ni.size := by rw [flat_length, hsz]
    have hnews : ∀ q v, (flat U ys)[q]? = some v → w.cell? ((⟨b', off', none⟩ : Addr).add q) = some v := fun q v h => by rw [add_addr]; exact hcells q v h
    obtain ⟨b, off, E, vs, hb, hheap, hsize, _, hgood⟩ := splice_good hh hj hle (by omega)
    rcases h2 with h2 | h2
    · omega
    rw [hb] at h2
    simp only [Option.map_some, add_addr] at h2
    subst h2
    have hm : (lo + n + ys.length) * U.sz ≤ (env j).2 * U.sz := Nat.mul_le_mul_right _ (by omega)
    have ha : (lo + n + ys.length) * U.sz = lo * U.sz + n * U.sz + ys.length * U.sz := by rw [Nat.add_mul, Nat.add_mul]
    have hrun := run_append_room2 (P := P) (w := w) (ty := ty) hu hin (g := b) (off := off + lo * U.sz) (sLen := n) (sCap := (env j).2 - lo) hheap (c := c) hflat hnews (flat_one U ys) (by omega) (by rw [hflat, hsz]; omega)
    have heq : off + lo * U.sz + n * ni.size = off + (lo + n) * U.sz := by rw [hsz, Nat.add_mul]; omega
    rw [heq] at hrun
    obtain ⟨g1, g2, g3⟩ := hgood _ rfl
    refine ⟨_, _, hrun, g1, g2, g3, ?_⟩
    simp only [conc, conc2, concC, updH_one, if_true]
    exact ⟨by rw [hlen]; omega, _, rfl, .inr (by rw [hb]; simp [add_addr])⟩

theorem flat_replicate {U : Ty} {z0 : U.El} {zc : Array Value} (h : zc.toList = (U.enc z0).map svl) : ∀ n, (Builtin.zeroCells zc n).toList = flat U (List.replicate n z0) := by
  intro n
  have hs : zc.size = U.sz := by
    have := congrArg List.length h
    simpa [enc_length] using this
  apply List.ext_getElem?
  intro q
  have pos := sz_pos U
  by_cases hq : q < n * U.sz
  · have h1 : q / U.sz < n := by rw [Nat.div_lt_iff_lt_mul pos]; exact hq
    have h2 : q % U.sz < U.sz := Nat.mod_lt _ pos
    have h3 : q / U.sz * U.sz + q % U.sz = q := by rw [Nat.mul_comm]; exact Nat.div_add_mod q U.sz
    have h4 := flat_at U (List.replicate n z0) (q / U.sz) (q % U.sz) (by simpa using h1) h2
    rw [h3] at h4
    rw [h4]
    have hix : U.ix (List.replicate n z0) (q / U.sz) = z0 := by simp [Ty.ix, List.getD, h1]
    rw [hix]
    have h5 : q % U.sz < zc.size := by rw [hs]; exact h2
    have h6 : zc.toList[q % U.sz]? = some zc[q % U.sz] := by simp [h5]
    rw [h, List.getElem?_map] at h6
    have h7 : q % U.sz < (U.enc z0).length := by rw [enc_length]; exact h2
    rw [List.getElem?_eq_getElem h7] at h6
    simp only [Option.map_some, Option.some.injEq] at h6
    unfold Builtin.zeroCells
    rw [Array.getElem?_toList, Array.getElem?_map, hs, Array.getElem?_eq_getElem (by simpa using hq)]
    simp only [Array.getElem_range, Option.map_some]
    rw [getElem!_pos zc (q % U.sz) h5, ← h6]
    simp [List.getD, h7]
  · rw [List.getElem?_eq_none, List.getElem?_eq_none]
    · rw [flat_length]; simpa using hq
    · unfold Builtin.zeroCells
      simp [hs]; omega

theorem concL_cons {s : SV} {r : List SV} {vs : List Value} (h : concL env H (s :: r) vs) : ∃ v t, vs = v :: t ∧ conc env H s v ∧ concL env H r t := by
  cases vs with
  | nil => exact h.elim
  | cons v t => exact ⟨v, t, rfl, h.1, h.2⟩
theorem concL_nil {vs : List Value} (h : concL env H [] vs) : vs = [] := by
  cases vs with
  | nil => rfl
  | cons _ _ => exact h.elim

theorem clr_ok (hh : HRel wr env H w) {tt : Types} (ht : TabOk P tt) {ts : List Nat} {ss : List SV} {vs : List Value} (hc : concL env H ss vs)
    (h : (clr tt ts ss).run T H = some δ) (ty : Nat) (cs : Array Bool) :
    ∃ v w', (builtin .clear ts.toArray ty cs vs.toArray).run P w = .ok (.value v) w' ∧ ∃ env', Ext env H env' (updH H δ.hs) ∧ HRel wr env' (updH H δ.hs) w' ∧ Fr wr w w' ∧ conc env' (updH H δ.hs) δ.v v := by
  unfold clr at h
  split at h
  case h_2 => simp [RM.run] at h
  rename_i t0 tr j lo n
  obtain ⟨v1, t, rfl, hv1, hr⟩ := concL_cons hc
  cases concL_nil hr
  obtain ⟨i, hi, q⟩ := tiOf_inv h
  clear h
  obtain ⟨e, he, h⟩ := tiOf_inv q
  clear q
  split at h
  case h_2 => simp [RM.run] at h
  rename_i U hU
  split at h
  case h_2 => simp [RM.run] at h
  rename_i z0 hz0
  simp only [RM.run] at h
  split at h
  case h_2 => simp [RM.run] at h
  rename_i V xs0 hj
  split at h
  case h_2 => simp [RM.run] at h
  rename_i xs hx
  obtain ⟨ev, hx⟩ := castTo_inv hx
  subst ev
  subst hx
  simp only [RM.run, Option.some.injEq] at h
  subst h
  obtain ⟨hu, ni, hin, hsz⟩ := typeOk_slice (ht _ _ hi) hU
  obtain ⟨n', u', hin', hu', hsz', hby, hzl, z, hz, hzf, _⟩ := typeOk_some (ht _ _ he)
  rw [hin] at hin'
  cases hin'
  have hzc := zero_conc (env := env) (H := H) hzf
  have henc := dec_enc hz0
  have hv := plain_vals (fun c hc => enc_plain V z0 c (by rw [henc]; exact hc)) hzc
  rw [← henc] at hv
  have hvc : concC env H (.sl j lo n) v1 := hv1
  simp only [concC, hj] at hvc
  obtain ⟨h1, x, rfl, h2⟩ := hvc
  by_cases h0 : n = 0
  · subst h0
    simp only [List.replicate_zero]
    rw [spl_nil, updH_same hj]
    refine ⟨.tuple #[], w, ?_, env, .refl _ _, hh, .refl _ _, ⟨#[], rfl, trivial⟩⟩
    cases x <;> simp [builtin, Builtin.clear_, run_underlying hu]
  · have hle : lo + (List.replicate n z0).length ≤ xs0.length := by simpa using h1
    obtain ⟨b, off, E, vs, hb, hheap, hsize, hcap, hgood⟩ := splice_good hh hj hle (by simp; omega)
    rcases h2 with h2 | h2
    · omega
    rw [hb] at h2
    simp only [Option.map_some, add_addr] at h2
    subst h2
    obtain ⟨g1, g2, g3⟩ := hgood _ rfl
    refine ⟨.tuple #[], _, ?_, env, g1, g2, g3, ⟨#[], rfl, trivial⟩⟩
    have hfl := flat_replicate hv n
    have hfy := flat_length V (List.replicate n z0)
    simp only [List.length_replicate] at hfy
    have hm : (lo + n) * V.sz ≤ (env j).2 * V.sz := Nat.mul_le_mul_right _ (by omega)
    rw [Nat.add_mul] at hm
    have hst := run_storeCells_at P b (off + lo * V.sz) E (Builtin.zeroCells z.cells n).toList 0 vs w hheap (by rw [hfl, hfy]; omega) (by rw [hfl]; exact flat_one V _)
    rw [hfl] at hst
    simp only [Nat.add_zero] at hst
    have hzv : (zeroValue i.elem).run P w = .ok z w := by simp [zeroValue, typeInfo, hin, hz]
    have hn0 : ∃ m, n = m + 1 := ⟨n - 1, by omega⟩
    obtain ⟨m, rfl⟩ := hn0
    simp [builtin, Builtin.clear_, run_underlying hu, hzv, hfl, hst]

theorem maxs_ok {k : IntKind} : ∀ {r : List SV} {vs : List Value} {x n : Int}, concL env H r vs → maxs k x r = some n → (vs.foldlM Builtin.max2 (.int k x)).run P w = .ok (.int k n) w
  | [], vs, x, n, h, hm => by
    rw [concL_nil h]
    simp only [maxs, Option.some.injEq] at hm
    subst hm
    rfl
  | s :: r, vs, x, n, h, hm => by
    obtain ⟨v, t, rfl, hv, ht⟩ := concL_cons h
    cases s <;> simp only [maxs, reduceCtorEq] at hm
    split at hm
    case h_2 => cases hm
    have := conc_int hv
    subst this
    simp only [List.foldlM_cons, Sem.run_bind, Builtin.max2, Sem.run_pure, Result.andThen_ok]
    exact maxs_ok ht hm

theorem mins_ok {k : IntKind} : ∀ {r : List SV} {vs : List Value} {x n : Int}, concL env H r vs → mins k x r = some n → (vs.foldlM Builtin.min2 (.int k x)).run P w = .ok (.int k n) w
  | [], vs, x, n, h, hm => by
    rw [concL_nil h]
    simp only [mins, Option.some.injEq] at hm
    subst hm
    rfl
  | s :: r, vs, x, n, h, hm => by
    obtain ⟨v, t, rfl, hv, ht⟩ := concL_cons h
    cases s <;> simp only [mins, reduceCtorEq] at hm
    split at hm
    case h_2 => cases hm
    have := conc_int hv
    subst this
    simp only [List.foldlM_cons, Sem.run_bind, Builtin.min2, Sem.run_pure, Result.andThen_ok]
    exact mins_ok ht hm

theorem lenOf_inv {α : Type} {v : SV} {u : Value} {k : Nat → RM α} {r : α} (h : (lenOf v k).run T H = some r) (hc : conc env H v u) : ∃ n x c, (k n).run T H = some r ∧ u = .slice x n c := by
  unfold lenOf at h
  split at h
  · rename_i j
    simp only [RM.run] at h
    split at h
    case h_2 => simp [RM.run] at h
    rename_i rw V xs hj
    simp only [conc, conc2, concC, hj] at hc
    exact ⟨_, _, _, h, hc⟩
  · rename_i j lo n
    obtain ⟨h, ha⟩ := alive_inv h
    rcases ha with ⟨r', cs, ha⟩ | ⟨r', V, xs, ha⟩
    · simp only [conc, conc2, concC, ha] at hc
    · simp only [conc, conc2, concC, ha] at hc
      obtain ⟨_, x, hc, _⟩ := hc
      exact ⟨_, _, _, h, hc⟩
  · obtain ⟨x, hc⟩ := hc
    exact ⟨_, _, _, h, hc⟩
  · simp [RM.run] at h

theorem run_builtin_value {s : Sem Value} {v : Value} (h : s.run P w = .ok v w') : (do pure (.value (← s)) : Sem Next).run P w = .ok (.value v) w' := by simp [h]

theorem blt_ok (hh : HRel wr env H w) (hnew : ∀ k, w.heap.size ≤ k → wr k) {tt : Types} (ht : TabOk P tt) {d : Nat} {b : Builtin} {ts : List Nat} {ss : List SV} {vs : List Value} (hc : concL env H ss vs)
    (h : (blt tt d b ts ss).run T H = some δ) (hp : ∀ p, δ.ok = some p → p) (ty : Nat) (cs : Array Bool) :
    ∃ v w', (builtin b ts.toArray ty cs vs.toArray).run P w = .ok (.value v) w' ∧ ∃ env', Ext env H env' (updH H δ.hs) ∧ HRel wr env' (updH H δ.hs) w' ∧ Fr wr w w' ∧ conc env' (updH H δ.hs) δ.v v := by
  have pure' : ∀ {s : SV} {v : Value} {p : Option Prop}, conc env H s v → Ext env H env (updH H (Delta.mk p s []).hs) ∧ HRel wr env (updH H (Delta.mk p s []).hs) w ∧ Fr wr w w ∧ conc env (updH H (Delta.mk p s []).hs) (Delta.mk p s []).v v := by
    intro s v p hc
    rw [updH_nil]
    exact ⟨.refl _ _, hh, .refl _ _, hc⟩
  unfold blt at h
  split at h
  · rename_i s
    obtain ⟨v, t, rfl, hv, hr⟩ := concL_cons hc
    rw [concL_nil hr]
    cases ts with
    | nil => simp [RM.run] at h
    | cons t0 tr =>
    obtain ⟨i, hi, q⟩ := tiOf_inv h
    clear h
    split at q
    case h_2 => simp [RM.run] at q
    rename_i U hU
    obtain ⟨hu, _⟩ := typeOk_slice (ht _ _ hi) hU
    obtain ⟨n, x, c, q, rfl⟩ := lenOf_inv q hv
    simp only [ret1, RM.run, Option.some.injEq] at q
    subst q
    refine ⟨.int .i64 n, w, ?_, env, pure' rfl⟩
    simp [builtin, Builtin.len_, run_underlying hu, goInt]
  · rename_i k x r
    obtain ⟨v, t, rfl, hv, hr⟩ := concL_cons hc
    have := conc_int hv
    subst this
    split at h
    case h_2 => simp [RM.run] at h
    rename_i n hm
    simp only [ret1, RM.run, Option.some.injEq] at h
    subst h
    refine ⟨.int k n, w, ?_, env, pure' rfl⟩
    simp only [builtin, Builtin.max_]
    exact run_builtin_value (maxs_ok hr hm)
  · rename_i k x r
    obtain ⟨v, t, rfl, hv, hr⟩ := concL_cons hc
    have := conc_int hv
    subst this
    split at h
    case h_2 => simp [RM.run] at h
    rename_i n hm
    simp only [ret1, RM.run, Option.some.injEq] at h
    subst h
    refine ⟨.int k n, w, ?_, env, pure' rfl⟩
    simp only [builtin, Builtin.min_]
    exact run_builtin_value (mins_ok hr hm)
  · rename_i s1 s2
    obtain ⟨v1, t, rfl, hv1, hr⟩ := concL_cons hc
    obtain ⟨v2, t2, rfl, hv2, hr⟩ := concL_cons hr
    rw [concL_nil hr]
    obtain ⟨i, hi, q⟩ := tiOf_inv h
    clear h
    obtain ⟨e, he, h⟩ := tiOf_inv q
    clear q
    split at h
    case h_2 => simp [RM.run] at h
    rename_i U hU
    split at hU
    case h_2 => cases hU
    rename_i t0 t1
    split at hU
    case h_2 => cases hU
    rename_i htt
    have htt := Nat.eq_of_beq_eq_true htt
    subst htt
    simp only [List.headD_cons] at hi
    obtain ⟨hu, n', hin', hsz'⟩ := typeOk_slice (ht _ _ hi) hU
    obtain ⟨ni, u', hin, hu', hszi, hby, hzl, z, hz, hzf, _⟩ := typeOk_some (ht _ _ he)
    rw [hin'] at hin
    cases hin
    have hzs := zero_size hzf
    simp only [Array.length_toList] at hzs
    have hzs' : z.cells.size = U.sz := by omega
    obtain ⟨hb0, h⟩ := roomy_inv h
    rw [← hby] at hb0
    obtain ⟨ys, h, hsrc⟩ := elems_inv hh h hv2
    split at h
    · obtain ⟨x, hv1⟩ := hv1
      subst hv1
      obtain ⟨hn, h⟩ := fresh_inv h
      simp only [RM.run, Option.some.injEq] at h
      subst h
      have hr := hp _ rfl
      rw [← hby] at hr
      obtain ⟨v, w', hrun, env', r1, r2, r3, r4⟩ := append_nil_good hh hnew (ty := ty) hu hin' hsz' hz hzs' hn (x := x) hsrc hb0 hr
      exact ⟨v, w', by simp only [builtin]; exact run_builtin_value hrun, env', r1, r2, r3, r4⟩
    · rename_i j
      simp only [RM.run] at h
      split at h
      case h_2 => simp [RM.run] at h
      rename_i V xs hj
      split at h
      case h_2 => simp [RM.run] at h
      rename_i xs' hx
      obtain ⟨ev, hx⟩ := castTo_inv hx
      subst ev
      subst hx
      obtain ⟨hn, h⟩ := fresh_inv h
      simp only [RM.run, Option.some.injEq] at h
      subst h
      have hr := hp _ rfl
      rw [← hby] at hr
      simp only [conc, conc2, concC, hj] at hv1
      subst hv1
      obtain ⟨v, w', hrun, env', r1, r2, r3, r4⟩ := append_good hh hnew (ty := ty) hu hin' hsz' hz hzs' hj hn hsrc hb0 hr
      exact ⟨v, w', by simp only [builtin]; exact run_builtin_value hrun, env', r1, r2, r3, r4⟩
    · rename_i j lo n
      simp only [RM.run] at h
      split at h
      case h_2 => simp [RM.run] at h
      rename_i V xs hj
      split at h
      case h_2 => simp [RM.run] at h
      rename_i xs' hx
      obtain ⟨ev, hx⟩ := castTo_inv hx
      subst ev
      subst hx
      simp only [RM.run, Option.some.injEq] at h
      subst h
      have hle := hp _ rfl
      obtain ⟨v, w', hrun, r1, r2, r3, r4⟩ := append_part_good hh (ty := ty) hu hin' hsz' hj hv1 hsrc hle
      exact ⟨v, w', by simp only [builtin]; exact run_builtin_value hrun, env, r1, r2, r3, r4⟩
    · simp [RM.run] at h
  · simp [RM.run] at h

end

end Go.Proofs.Ytmflfpedmbfhkaa.Sym
