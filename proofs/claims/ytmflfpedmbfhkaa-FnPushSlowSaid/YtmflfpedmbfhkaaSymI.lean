/-
  Each operation does what the symbolic machine says of it, fifth part: memory that is made and written.
  No condition.
-/
import Derived.Test.YtmflfpedmbfhkaaSymH
namespace Go.Proofs.Ytmflfpedmbfhkaa.Sym
open Go
set_option linter.unusedVariables false
set_option linter.unusedSimpArgs false

section
variable {P : Program} {wr : Nat → Prop} {env env' : Env} {H H' : Hp} {a : Act} {w w' : World} {T : Nat → SV} {δ : Delta}

theorem own_lt (hh : HRel wr env H w) {j : Nat} {r : Bool} {b : Blk} (hj : H j = some (r, b)) {x : Nat} (hx : own env j b = some x) : x < w.heap.size := by
  have h := hh.blk j r b hj
  cases b with
  | box cs =>
    obtain ⟨b, E, vs, fz, hb, hheap, _⟩ := h
    simp only [own, hb, Option.map_some, Option.some.injEq] at hx
    subst hx
    exact (Array.getElem?_eq_some_iff.1 hheap).1
  | vec U xs =>
    obtain ⟨_, h⟩ := h
    simp only [own] at hx
    split at hx
    · cases hx
    · rcases h with h | ⟨b, off, E, vs, fz, hb, hheap, _⟩
      · contradiction
      · simp only [hb, Option.map_some, Option.some.injEq] at hx
        subst hx
        exact (Array.getElem?_eq_some_iff.1 hheap).1
  | dead => simp [own] at hx

theorem HRel.step (hh : HRel wr env H w) (sp : Nat → Prop) (x : Ext env H env' H')
    (old : ∀ k r b, ¬ sp k → H' k = some (r, b) → H k = some (r, b) ∧ env' k = env k ∧ ∀ y, own env k b = some y → w'.heap[y]? = w.heap[y]?)
    (new : ∀ k r b, sp k → H' k = some (r, b) → blkRel env' H' k r b w' ∧ ∀ y, own env' k b = some y → (r = true → wr y) ∧
      ∀ k' r' b', k' ≠ k → H' k' = some (r', b') → own env' k' b' = some y → (r = true ∨ r' = true) → False) : HRel wr env' H' w' := by
  have ow : ∀ k b, env' k = env k → own env' k b = own env k b := fun k b e => by cases b <;> simp [own, e]
  refine ⟨?_, ?_, ?_⟩
  · intro j r b hj
    by_cases hs : sp j
    · exact (new j r b hs hj).1
    · obtain ⟨h1, h2, h3⟩ := old j r b hs hj
      have h := hh.blk j r b h1
      cases b with
      | box cs =>
        obtain ⟨b, E, vs, fz, hb, hheap, hc, hf⟩ := h
        exact ⟨b, E, vs, fz, by rw [h2]; exact hb, by rw [h3 b (by simp [own, hb])]; exact hheap, concCs_ext x hc, hf⟩
      | vec U xs =>
        obtain ⟨hl, h⟩ := h
        refine ⟨by rw [h2]; exact hl, ?_⟩
        rw [h2]
        rcases h with h | ⟨b, off, E, vs, fz, hb, hheap, rest⟩
        · exact .inl h
        · by_cases hz : (env j).2 = 0
          · exact .inl hz
          · exact .inr ⟨b, off, E, vs, fz, hb, by rw [h3 b (by simp [own, hb, hz])]; exact hheap, rest⟩
      | dead => trivial
  · intro i j ri bi rj bj hij hi hj hrw y hyi hyj
    by_cases hsi : sp i
    · exact ((new i ri bi hsi hi).2 y hyi).2 j rj bj (Ne.symm hij) hj hyj hrw
    · by_cases hsj : sp j
      · exact ((new j rj bj hsj hj).2 y hyj).2 i ri bi hij hi hyi hrw.symm
      · obtain ⟨a1, a2, _⟩ := old i ri bi hsi hi
        obtain ⟨c1, c2, _⟩ := old j rj bj hsj hj
        rw [ow _ _ a2] at hyi
        rw [ow _ _ c2] at hyj
        exact hh.dj i j ri bi rj bj hij a1 c1 hrw y hyi hyj
  · intro j b hj y hy
    by_cases hs : sp j
    · exact ((new j true b hs hj).2 y hy).1 rfl
    · obtain ⟨h1, h2, _⟩ := old j true b hs hj
      rw [ow _ _ h2] at hy
      exact hh.wrt j b h1 y hy

def envSet (env : Env) (n : Nat) (x : Option Addr × Nat) : Env := fun k => if k = n then x else env k

theorem updH_one (n : Nat) (e : Ent) (k : Nat) : updH H [(n, e)] k = if k = n then some e else H k := by
  by_cases h : k = n
  · subst h; simp [updH, look]
  · have : Nat.beq n k = false := by
      cases q : Nat.beq n k with
      | false => rfl
      | true => exact absurd (Nat.eq_of_beq_eq_true q).symm h
    simp [updH, look, this, h]

theorem updH_two (m n : Nat) (d e : Ent) (k : Nat) : updH H [(m, d), (n, e)] k = if k = m then some d else if k = n then some e else H k := by
  have beq : ∀ a, Nat.beq a k = decide (k = a) := fun a => by
    cases q : Nat.beq a k with
    | true => simp [(Nat.eq_of_beq_eq_true q)]
    | false => simp; intro h; subst h; simp at q
  by_cases h : k = m
  · simp [updH, look, beq, h]
  · by_cases h2 : k = n
    · subst h2; simp [updH, look, beq, h]
    · simp [updH, look, beq, h, h2]

/-- A new block under a new name. -/
theorem HRel.add (hh : HRel wr env H w) {n : Nat} (hn : H n = none) {rw : Bool} {b : Blk} {x : Option Addr × Nat} (hw : ∀ k, k < w.heap.size → w'.heap[k]? = w.heap[k]?)
    (hnew : ∀ k, w.heap.size ≤ k → wr k) (hb : ∀ H', Ext env H (envSet env n x) H' → blkRel (envSet env n x) H' n rw b w') (ho : ∀ y, own (envSet env n x) n b = some y → w.heap.size ≤ y) :
    Ext env H (envSet env n x) (updH H [(n, rw, b)]) ∧ HRel wr (envSet env n x) (updH H [(n, rw, b)]) w' := by
  have ex : Ext env H (envSet env n x) (updH H [(n, rw, b)]) := ⟨fun j r c hj => by
    have hne : j ≠ n := fun e => by subst e; rw [hn] at hj; cases hj
    exact ⟨by simp [envSet, hne], r, c, by rw [updH_one, if_neg hne]; exact hj, stays_refl c⟩⟩
  refine ⟨ex, hh.step (fun k => k = n) ex ?_ ?_⟩
  · intro k r c hk hc
    rw [updH_one, if_neg hk] at hc
    exact ⟨hc, by simp [envSet, hk], fun y hy => hw y (own_lt hh hc hy)⟩
  · intro k r c hk hc
    subst hk
    rw [updH_one, if_pos rfl] at hc
    cases hc
    refine ⟨hb _ ex, fun y hy => ⟨fun _ => hnew y (ho y hy), ?_⟩⟩
    intro k' r' b' hne hk' hy' _
    rw [updH_one, if_neg hne] at hk'
    have : own env k' b' = some y := by
      rw [← hy']
      cases b' <;> simp [own, envSet, hne]
    have := own_lt hh hk' this
    have := ho y hy
    omega

theorem fr_alloc {o : Obj} (h0 : w'.heap = w.heap.push o) (h1 : w'.os = w.os) (h2 : w'.tape = w.tape) (h3 : w'.output = w.output) : Fr wr w w' ∧ ∀ k, k < w.heap.size → w'.heap[k]? = w.heap[k]? := by
  have h : ∀ k, k < w.heap.size → w'.heap[k]? = w.heap[k]? := fun k hk => by rw [h0, Array.getElem?_push, if_neg (by omega)]
  exact ⟨⟨h1, h2, h3, by rw [h0]; simp, fun k hk _ => h k hk⟩, h⟩

/-- A box. -/
theorem box_good (hh : HRel wr env H w) (hnew : ∀ k, w.heap.size ≤ k → wr k) {n : Nat} (hn : H n = none) {cs : List SV} {vs : Array Value} {E : Nat} (hc : concCs env H cs vs.toList)
    (h0 : w'.heap = w.heap.push (.cells vs E (0, 0))) (h1 : w'.os = w.os) (h2 : w'.tape = w.tape) (h3 : w'.output = w.output) :
    ∃ env', Ext env H env' (updH H [(n, true, .box cs)]) ∧ HRel wr env' (updH H [(n, true, .box cs)]) w' ∧ Fr wr w w' ∧
      conc env' (updH H [(n, true, .box cs)]) (.ptr n 0 0) (.pointer (some ⟨w.heap.size, 0, none⟩)) := by
  obtain ⟨f1, f2⟩ := fr_alloc (wr := wr) h0 h1 h2 h3
  have := hh.add hn (rw := true) (b := .box cs) (x := (some ⟨w.heap.size, 0, none⟩, 0)) f2 hnew (fun H'' ex =>
    ⟨w.heap.size, E, vs, (0, 0), by simp [envSet], by rw [h0]; simp, concCs_ext ex hc, fun _ => rfl⟩) (fun y hy => by simp [own, envSet] at hy; omega)
  refine ⟨_, this.1, this.2, f1, ?_⟩
  simp only [conc, conc2, concC, updH_one, if_true]
  exact ⟨w.heap.size, by simp [envSet], rfl⟩

/-- A list of the call's own. -/
theorem vec_good (hh : HRel wr env H w) (hnew : ∀ k, w.heap.size ≤ k → wr k) {n : Nat} (hn : H n = none) {U : Ty} {xs : List U.El} {vs : Array Value} {E c : Nat} (hl : xs.length ≤ c) (hs : c * U.sz ≤ vs.size) (hli : Lies U xs vs 0)
    (h0 : w'.heap = w.heap.push (.cells vs E (0, 0))) (h1 : w'.os = w.os) (h2 : w'.tape = w.tape) (h3 : w'.output = w.output) :
    ∃ env', Ext env H env' (updH H [(n, true, .vec U xs)]) ∧ HRel wr env' (updH H [(n, true, .vec U xs)]) w' ∧ Fr wr w w' ∧
      conc env' (updH H [(n, true, .vec U xs)]) (.vec n) (.slice (some ⟨w.heap.size, 0, none⟩) xs.length c) := by
  obtain ⟨f1, f2⟩ := fr_alloc (wr := wr) h0 h1 h2 h3
  have := hh.add hn (rw := true) (b := .vec U xs) (x := (some ⟨w.heap.size, 0, none⟩, c)) f2 hnew (fun H'' ex =>
    ⟨by simpa [envSet] using hl, .inr ⟨w.heap.size, 0, E, vs, (0, 0), by simp [envSet], by rw [h0]; simp, by simpa [envSet] using hs, hli, fun _ => rfl⟩⟩)
    (fun y hy => by simp only [own, envSet, if_true] at hy; split at hy <;> simp at hy; omega)
  refine ⟨_, this.1, this.2, f1, ?_⟩
  simp only [conc, conc2, concC, updH_one, if_true]
  simp [envSet]

theorem fresh_inv {α : Type} {n : Nat} {k : RM α} {r : α} (h : (fresh n k).run T H = some r) : H n = none ∧ k.run T H = some r := by
  simp only [fresh, RM.run] at h
  split at h
  · exact ⟨by assumption, h⟩
  · simp [RM.run] at h

theorem concC_of {s : SV} {v : Value} (h : conc env H s v) (h1 : ∀ cs, s ≠ .agg cs) (h2 : ∀ cs, s ≠ .tup cs) : concC env H s v := by
  cases s <;> first | exact h | exact absurd rfl (h1 _) | exact absurd rfl (h2 _)

theorem conc_cells {s : SV} {v : Value} (h : conc env H s v) (hs : solid s.cells = true) : concCs env H s.cells v.cells.toList := by
  by_cases h1 : ∃ cs, s = .agg cs
  · obtain ⟨cs, rfl⟩ := h1
    obtain ⟨vs, e, h⟩ := h
    subst e
    exact h
  · by_cases h2 : ∃ cs, s = .tup cs
    · obtain ⟨cs, rfl⟩ := h2
      simp [SV.cells, solid] at hs
    · have hc := concC_of h (fun cs e => h1 ⟨cs, e⟩) (fun cs e => h2 ⟨cs, e⟩)
      have ha : s.cells = [s] := by cases s <;> first | rfl | exact absurd ⟨_, rfl⟩ h1
      have hn : s ≠ .any := fun e => by subst e; simp [SV.cells, solid] at hs
      have h1 := concC_one hc hn
      have : v.cells = #[v] := by cases v <;> first | rfl | (cases h1)
      rw [this, ha]
      exact ⟨hc, trivial⟩

theorem box_ok (hh : HRel wr env H w) (hnew : ∀ k, w.heap.size ≤ k → wr k) (hs : ∀ d, conc env H (T d) (a.tmps.getD d undef)) {tt : Types} {S : Tab} {d : Nat} {x : Operand} {t : Nat} {ty : Nat} {pos : String} {af : Array Edge} {g : Option (Nat × Bool)}
    (h : (evOp tt S ⟨some d, .box t x, ty, pos, af, g⟩).run T H = some δ) : Good P wr env H a w ⟨some d, .box t x, ty, pos, af, g⟩ δ := by
  simp only [evOp] at h
  obtain ⟨s, q, hc⟩ := opv_inv hs h
  clear h
  split at q
  case h_2 => simp [RM.run] at q
  rename_i hso
  obtain ⟨hn, q⟩ := fresh_inv q
  simp only [RM.run, Option.some.injEq] at q
  subst q
  have := conc_cells hc hso
  refine .inl ⟨.pointer (some ⟨w.heap.size, 0, none⟩), { w with heap := w.heap.push (.cells (a.eval x).cells t) }, ?_, ?_⟩
  · simp [execOp, Instr.box, newVar, newRow]
  · exact box_good hh hnew hn this rfl rfl rfl rfl

theorem zero_conc : ∀ {zs : List SV} {vs : List Value}, zeroFits zs vs = true → concCs env H zs vs
  | [], [], _ => trivial
  | .int k n :: r, .int j m :: s, h => by
    simp only [zeroFits, Bool.and_eq_true, beq_iff_eq] at h
    exact ⟨by simp [concC, h.1.1, h.1.2], zero_conc h.2⟩
  | .bool b :: r, .bool c :: s, h => by
    simp only [zeroFits, Bool.and_eq_true, beq_iff_eq] at h
    exact ⟨by simp [concC, h.1], zero_conc h.2⟩
  | .nilp :: r, .pointer none :: s, h => ⟨rfl, zero_conc (by simpa [zeroFits] using h)⟩
  | .nilsl :: r, .slice x 0 0 :: s, h => ⟨⟨x, rfl⟩, zero_conc (by simpa [zeroFits] using h)⟩

theorem alloc_ok (hh : HRel wr env H w) (hnew : ∀ k, w.heap.size ≤ k → wr k) (hs : ∀ d, conc env H (T d) (a.tmps.getD d undef)) {tt : Types} (ht : TabOk P tt) {S : Tab} {d : Nat} {t : Nat} {ty : Nat} {pos : String} {af : Array Edge} {g : Option (Nat × Bool)}
    (h : (evOp tt S ⟨some d, .alloc t, ty, pos, af, g⟩).run T H = some δ) : Good P wr env H a w ⟨some d, .alloc t, ty, pos, af, g⟩ δ := by
  simp only [evOp] at h
  obtain ⟨i, hi, q⟩ := tiOf_inv h
  clear h
  obtain ⟨hn, q⟩ := fresh_inv q
  simp only [RM.run, Option.some.injEq] at q
  subst q
  obtain ⟨n, u, hin, hu, _, _, _, z, hz, hzf, _⟩ := typeOk_some (ht _ _ hi)
  refine .inl ⟨.pointer (some ⟨w.heap.size, 0, none⟩), { w with heap := w.heap.push (.cells z.cells t) }, ?_, ?_⟩
  · simp [execOp, Instr.alloc, zeroValue, typeInfo, hin, hz, newVar, newRow]
  · exact box_good hh hnew hn (zero_conc hzf) rfl rfl rfl rfl

theorem get_splice {α : Type} {l us : List α} {p : Nat} (h : p + us.length ≤ l.length) (q : Nat) :
    (l.take p ++ us ++ l.drop (p + us.length))[q]? = if q < p then l[q]? else if q < p + us.length then us[q - p]? else l[q]? := by
  have hp : p ≤ l.length := by omega
  by_cases h1 : q < p
  · rw [if_pos h1, List.append_assoc, List.getElem?_append_left (by simp; omega), List.getElem?_take, if_pos h1]
  · rw [if_neg h1]
    by_cases h2 : q < p + us.length
    · rw [if_pos h2, List.getElem?_append_left (by simp; omega), List.getElem?_append_right (by simp; omega)]
      congr 1
      simp
      omega
    · rw [if_neg h2, List.getElem?_append_right (by simp; omega), List.getElem?_drop]
      congr 1
      simp
      omega

theorem plain_val {c : SV} {v : Value} (h : plain c = true) (hc : concC env H c v) : v = svl c := by
  cases c <;> first | exact hc | (cases h)

theorem plain_vals : ∀ {cs : List SV} {vs : List Value}, (∀ c ∈ cs, plain c = true) → concCs env H cs vs → vs = cs.map svl
  | [], [], _, _ => rfl
  | c :: r, v :: s, h, hc => by
    rw [plain_val (h c (by simp)) hc.1, plain_vals (cs := r) (vs := s) (fun x hx => h x (by simp [hx])) hc.2]
    rfl

theorem solid_one : ∀ {cs : List SV} {vs : List Value}, solid cs = true → concCs env H cs vs → ∀ v ∈ vs, v.oneCell' = true
  | [], [], _, _ => by simp
  | c :: r, v :: s, h, hc => by
    intro u hu
    have hn : c ≠ .any := fun e => by subst e; simp [solid] at h
    have hr : solid r = true := by cases c <;> first | exact h | (cases h)
    rcases List.mem_cons.1 hu with e | e
    · subst e; exact concC_one hc.1 hn
    · exact solid_one (cs := r) (vs := s) hr hc.2 u e

theorem dec_enc {U : Ty} {cs : List SV} {x : U.El} (h : U.dec cs = some x) : U.enc x = cs := by
  unfold Ty.dec at h
  split at h <;> first | (cases h; done) | (cases h; rfl)

theorem run_storeAt {t : Nat} {n : TypeInfo} (hn : P.info? t = some n) {b o : Nat} {v : Value} {us : List Value} (hu : v.cells.toList = us) (hl : us.length = n.size) {cur : Array Value} {E : TypeId}
    (hg : w.heap[b]? = some (.cells cur E (0, 0))) (hf : o + us.length ≤ cur.size) (h1 : ∀ u ∈ us, u.oneCell' = true) :
    (Instr.storeAt t (.pointer (some ⟨b, o, none⟩)) v).run P w = .ok () (w.setRow b (cur.toList.take o ++ us ++ cur.toList.drop (o + us.length)).toArray) := by
  have hs : v.cells.size = n.size := by rw [← hl, ← hu]; simp
  have := run_storeCells_at P b o E us 0 cur w hg (by simpa using hf) h1
  simp only [Nat.add_zero] at this
  simp [Instr.storeAt, Instr.sureAddr, storeVar, run_sizeOf hn, hs, hu, this]

theorem fr_setRow {b : Nat} {cs : Array Value} (hb : wr b) : Fr wr w (w.setRow b cs) :=
  ⟨rfl, rfl, rfl, by simp [World.setRow], fun k _ hk => setRow_other w b k cs (fun e => hk (e ▸ hb))⟩

theorem splice_length {cs vs : List SV} {o : Nat} (h : o + vs.length ≤ cs.length) : (splice cs o vs).length = cs.length := by
  simp [splice]; omega

theorem mem_splice {cs vs : List SV} {o : Nat} {c : SV} (h : c ∈ vs) : c ∈ splice cs o vs := by simp [splice, h]

/-- A list whose one element is written anew. -/
theorem lies_set {U : Ty} {xs : List U.El} {vs : Array Value} {off e : Nat} (hl : Lies U xs vs off) (he : e < xs.length) {x : U.El} {cs : List SV} {o : Nat} (hx : U.enc x = splice (U.enc (U.ix xs e)) o cs)
    (ho : o + cs.length ≤ U.sz) (hsz : off + xs.length * U.sz ≤ vs.size) :
    Lies U (xs.set e x) (vs.toList.take (off + e * U.sz + o) ++ cs.map svl ++ vs.toList.drop (off + e * U.sz + o + (cs.map svl).length)).toArray off := by
  intro e' he' o' ho'
  simp only [List.length_set] at he'
  have hes : e * U.sz + U.sz ≤ xs.length * U.sz := by
    have : (e + 1) * U.sz ≤ xs.length * U.sz := Nat.mul_le_mul_right _ he
    rw [Nat.add_mul, Nat.one_mul] at this
    exact this
  have hes' : e' * U.sz + U.sz ≤ xs.length * U.sz := by
    have : (e' + 1) * U.sz ≤ xs.length * U.sz := Nat.mul_le_mul_right _ he'
    rw [Nat.add_mul, Nat.one_mul] at this
    exact this
  rw [List.getElem?_toArray, get_splice (by simp; omega)]
  simp only [List.length_map]
  have hL := hl e' he' o' ho'
  rw [← Array.getElem?_toList] at hL
  by_cases heq : e' = e
  · subst heq
    have hix : U.ix (xs.set e' x) e' = x := by simp [Ty.ix, List.getD, he]
    rw [hix, hx]
    have hlen : (U.enc (U.ix xs e')).length = U.sz := enc_length U _
    have hg : (splice (U.enc (U.ix xs e')) o cs)[o']? = if o' < o then (U.enc (U.ix xs e'))[o']? else if o' < o + cs.length then cs[o' - o]? else (U.enc (U.ix xs e'))[o']? := get_splice (by omega) o'
    split
    · rw [hL]
      rw [if_pos (by omega)] at hg
      simp [List.getD, hg]
    · rename_i h1
      rw [if_neg (by omega)] at hg
      split
      · rename_i h2
        rw [if_pos (by omega)] at hg
        have hi : off + e' * U.sz + o' - (off + e' * U.sz + o) = o' - o := by omega
        rw [hi]
        have hlt : o' - o < cs.length := by omega
        simp [List.getD, hg, hlt]
      · rename_i h2
        rw [if_neg (by omega)] at hg
        rw [hL]
        simp [List.getD, hg]
  · have hix : U.ix (xs.set e x) e' = U.ix xs e' := by simp [Ty.ix, List.getD, Ne.symm heq]
    rw [hix]
    have hsep : e' * U.sz + U.sz ≤ e * U.sz ∨ e * U.sz + U.sz ≤ e' * U.sz := by
      rcases Nat.lt_or_ge e' e with h | h
      · left
        have : (e' + 1) * U.sz ≤ e * U.sz := Nat.mul_le_mul_right _ h
        rw [Nat.add_mul, Nat.one_mul] at this
        exact this
      · right
        have : (e + 1) * U.sz ≤ e' * U.sz := Nat.mul_le_mul_right _ (by omega)
        rw [Nat.add_mul, Nat.one_mul] at this
        exact this
    split
    · exact hL
    · split
      · rename_i h1 h2
        rcases hsep with h | h <;> omega
      · exact hL

theorem store_ok (hh : HRel wr env H w) (hs : ∀ d, conc env H (T d) (a.tmps.getD d undef)) {tt : Types} (ht : TabOk P tt) {S : Tab} {x y : Operand} {t : Nat} {ty : Nat} {pos : String} {af : Array Edge} {g : Option (Nat × Bool)}
    (h : (evOp tt S ⟨none, .store t x y, ty, pos, af, g⟩).run T H = some δ) : Good P wr env H a w ⟨none, .store t x y, ty, pos, af, g⟩ δ := by
  simp only [evOp] at h
  obtain ⟨i, hi, q⟩ := tiOf_inv h
  clear h
  obtain ⟨s, h, hc⟩ := opv_inv hs q
  clear q
  cases s <;> simp only [RM.run, reduceCtorEq] at h
  rename_i j e o
  obtain ⟨v, q, hv⟩ := opv_inv hs h
  clear h
  obtain ⟨n, u, hin, hu, hsz, _, _, _⟩ := typeOk_some (ht _ _ hi)
  unfold writeBlk at q
  simp only [RM.run] at q
  split at q
  · rename_i cs hj hb
    simp only [Bool.and_eq_true] at hb
    have hn : v.cells.length = i.size := Nat.eq_of_beq_eq_true hb.1
    split at q
    case h_2 => simp [RM.run] at q
    rename_i hq
    simp only [Bool.and_eq_true] at hq
    have hle : o + i.size ≤ cs.length := Nat.le_of_ble_eq_true hq.2
    simp only [RM.run, Option.some.injEq] at q
    subst q
    have hcells := conc_cells hv hb.2
    have hlen := concCs_length hcells
    simp only [conc, conc2, concC, hj] at hc
    obtain ⟨b, hb1, ea⟩ := hc
    obtain ⟨b', E, vs, fz, hb2, hheap, hcs, hfz⟩ := hh.blk j true _ hj
    rw [hb1] at hb2
    cases hb2
    have hfz := hfz rfl
    subst hfz
    have hl2 := concCs_length hcs
    simp only [Array.length_toList] at hl2 hlen
    have hst := run_storeAt (w := w) hin (v := a.eval y) (us := (a.eval y).cells.toList) rfl (by simp; omega) hheap (o := o) (by simp; omega) (solid_one hb.2 hcells)
    have hown : own env j (.box cs) = some b := by simp [own, hb1]
    have ex : Ext env H env (updH H [(j, true, .box (splice cs o v.cells))]) := ⟨fun k r c hk => ⟨rfl, by
      rw [updH_one]
      by_cases hkj : k = j
      · subst hkj; rw [hj] at hk; cases hk; rw [if_pos rfl]; exact ⟨_, _, rfl, trivial⟩
      · rw [if_neg hkj]; exact ⟨r, c, hk, stays_refl c⟩⟩⟩
    refine .inr (.inl ⟨w.setRow b _, by simp [execOp, ea, hst]; rfl, env, ex, ?_, fr_setRow (hh.wrt j _ hj b hown), ⟨#[], rfl, trivial⟩⟩)
    refine hh.step (fun k => k = j) ex ?_ ?_
    · intro k r c hk hc
      rw [updH_one, if_neg hk] at hc
      refine ⟨hc, rfl, fun y' hy => setRow_other w b y' _ (fun e => ?_)⟩
      subst e
      exact hh.dj j k true _ r c (Ne.symm hk) hj hc (.inl rfl) _ hown hy
    · intro k r c hk hc
      subst hk
      rw [updH_one, if_pos rfl] at hc
      cases hc
      refine ⟨⟨b, E, _, (0, 0), hb1, setRow_heap w b vs _ E (0, 0) hheap, ?_, fun _ => rfl⟩, ?_⟩
      · have h1 := concCs_ext ex hcs
        have h2 := concCs_ext ex hcells
        have hL : v.cells.length = (a.eval y).cells.size := by omega
        have h3 := concCs_append (concCs_append (concCs_take (n := o) h1) h2) (concCs_drop (n := o + v.cells.length) h1)
        have h4 : splice cs o v.cells = cs.take o ++ v.cells ++ cs.drop (o + v.cells.length) := rfl
        rw [← h4, hL, List.append_assoc] at h3
        exact h3
      · intro y' hy
        simp only [own, hb1, Option.map_some, Option.some.injEq] at hy
        subst hy
        refine ⟨fun _ => hh.wrt k _ hj b hown, ?_⟩
        intro k' r' b' hne hk' hy' _
        rw [updH_one, if_neg hne] at hk'
        exact hh.dj k k' true _ r' b' (Ne.symm hne) hj hk' (.inl rfl) _ hown hy'
  · rename_i U xs hj hb
    simp only [Bool.and_eq_true] at hb
    have hn : v.cells.length = i.size := Nat.eq_of_beq_eq_true hb.1
    split at q
    case h_2 => simp [RM.run] at q
    rename_i x' hq hd
    have hle : o + i.size ≤ U.sz := Nat.le_of_ble_eq_true hq
    have q : some (⟨none, noSlot, [(j, true, .vec U (xs.set e x'))]⟩ : Delta) = some δ := by
      split at q
      · simpa only [RM.run] using q
      · rw [forceL_eq] at q
        have h9 : setC U xs e o v.cells = xs.set e x' := by simp only [setC, hd]
        simpa only [RM.run, h9] using q
    simp only [Option.some.injEq] at q
    subst q
    have hcells := conc_cells hv hb.2
    have hlen := concCs_length hcells
    have henc := dec_enc hd
    have hpl : ∀ c ∈ v.cells, plain c = true := fun c hc => enc_plain U x' c (by rw [henc]; exact mem_splice hc)
    have hvals := plain_vals hpl hcells
    simp only [conc, conc2, concC, hj] at hc
    obtain ⟨b, off, hb1, hel, ea⟩ := hc
    obtain ⟨hcap, hrest⟩ := hh.blk j true _ hj
    rcases hrest with hz | ⟨b', off', E, vs, fz, hb2, hheap, hsize, hlies, hfz⟩
    · omega
    rw [hb1] at hb2
    cases hb2
    have hfz := hfz rfl
    subst hfz
    have hmul : xs.length * U.sz ≤ (env j).2 * U.sz := Nat.mul_le_mul_right _ hcap
    have hes : e * U.sz + U.sz ≤ xs.length * U.sz := by
      have : (e + 1) * U.sz ≤ xs.length * U.sz := Nat.mul_le_mul_right _ hel
      rw [Nat.add_mul, Nat.one_mul] at this
      exact this
    have hst := run_storeAt (w := w) hin (v := a.eval y) (us := v.cells.map svl) hvals (by simp; omega) hheap (o := off + e * U.sz + o) (by simp; omega) (by rw [← hvals]; exact solid_one hb.2 hcells)
    have hc0 : (env j).2 ≠ 0 := by omega
    have hown : ∀ ys : List U.El, own env j (.vec U ys) = some b := fun ys => by simp [own, hb1, hc0]
    have ex : Ext env H env (updH H [(j, true, .vec U (xs.set e x'))]) := ⟨fun k r c hk => ⟨rfl, by
      rw [updH_one]
      by_cases hkj : k = j
      · subst hkj; rw [hj] at hk; cases hk; rw [if_pos rfl]; exact ⟨_, _, rfl, rfl, by simp⟩
      · rw [if_neg hkj]; exact ⟨r, c, hk, stays_refl c⟩⟩⟩
    refine .inr (.inl ⟨w.setRow b _, by simp [execOp, ea, hst]; rfl, env, ex, ?_, fr_setRow (hh.wrt j _ hj b (hown _)), ⟨#[], rfl, trivial⟩⟩)
    refine hh.step (fun k => k = j) ex ?_ ?_
    · intro k r c hk hc
      rw [updH_one, if_neg hk] at hc
      refine ⟨hc, rfl, fun y' hy => setRow_other w b y' _ (fun e => ?_)⟩
      subst e
      exact hh.dj j k true _ r c (Ne.symm hk) hj hc (.inl rfl) _ (hown _) hy
    · intro k r c hk hc
      subst hk
      rw [updH_one, if_pos rfl] at hc
      cases hc
      refine ⟨⟨by simpa using hcap, .inr ⟨b, off, E, _, (0, 0), hb1, setRow_heap w b vs _ E (0, 0) hheap, ?_, ?_, fun _ => rfl⟩⟩, ?_⟩
      · simp; omega
      · have := lies_set hlies hel henc (by omega) (by omega)
        simpa using this
      · intro y' hy
        rw [hown] at hy
        cases hy
        refine ⟨fun _ => hh.wrt k _ hj b (hown _), ?_⟩
        intro k' r' b' hne hk' hy' _
        rw [updH_one, if_neg hne] at hk'
        exact hh.dj k k' true _ r' b' (Ne.symm hne) hj hk' (.inl rfl) _ (hown _) hy'
  · simp [RM.run] at q

end

end Go.Proofs.Ytmflfpedmbfhkaa.Sym
