/-
  Each operation does what the symbolic machine says of it, fourth part: reads of memory, slices, structs that are built.
  No condition.
-/
import Derived.Test.YtmflfpedmbfhkaaSymG
namespace Go.Proofs.Ytmflfpedmbfhkaa.Sym
open Go
set_option linter.unusedVariables false
set_option linter.unusedSimpArgs false

section
variable {P : Program} {wr : Nat → Prop} {env : Env} {H : Hp} {a : Act} {w : World} {T : Nat → SV} {δ : Delta}

theorem concCs_length : ∀ {cs : List SV} {vs : List Value}, concCs env H cs vs → cs.length = vs.length
  | [], [], _ => rfl
  | _ :: r, _ :: s, h => by simp [concCs_length (cs := r) (vs := s) h.2]

theorem concCs_drop : ∀ {n : Nat} {cs : List SV} {vs : List Value}, concCs env H cs vs → concCs env H (cs.drop n) (vs.drop n)
  | 0, _, _, h => h
  | n + 1, [], [], h => h
  | n + 1, _ :: r, _ :: s, h => concCs_drop (n := n) (cs := r) (vs := s) h.2

theorem concCs_take : ∀ {n : Nat} {cs : List SV} {vs : List Value}, concCs env H cs vs → concCs env H (cs.take n) (vs.take n)
  | 0, _, _, _ => by simp [concCs]
  | n + 1, [], [], h => h
  | n + 1, _ :: r, _ :: s, h => ⟨h.1, concCs_take (n := n) (cs := r) (vs := s) h.2⟩

theorem concCs_append : ∀ {cs ds : List SV} {vs us : List Value}, concCs env H cs vs → concCs env H ds us → concCs env H (cs ++ ds) (vs ++ us)
  | [], _, [], _, _, k => k
  | _ :: r, ds, _ :: s, us, h, k => ⟨h.1, concCs_append (cs := r) (vs := s) h.2 k⟩

/-- A plain cell: a number or a bool. -/
def plain : SV → Bool
  | .int _ _ => true
  | .bool _ => true
  | _ => false

theorem conc_plain {c : SV} (h : plain c = true) : concC env H c (svl c) := by cases c <;> first | rfl | (cases h)

theorem concCs_plain : ∀ {cs : List SV}, (∀ c ∈ cs, plain c = true) → concCs env H cs (cs.map svl)
  | [], _ => trivial
  | c :: r, h => ⟨conc_plain (h c (by simp)), concCs_plain fun x hx => h x (by simp [hx])⟩

theorem enc_plain (U : Ty) (x : U.El) : ∀ c ∈ U.enc x, plain c = true := by
  cases U <;> simp [Ty.enc, plain]

theorem enc_length (U : Ty) (x : U.El) : (U.enc x).length = U.sz := by cases U <;> rfl

theorem sz_pos (U : Ty) : 0 < U.sz := by cases U <;> simp [Ty.sz]

theorem shapeOf_inv {g : Bool} {cs : List SV} {s : SV} (h : shapeOf g cs = some s) {vs : List Value} (hc : concCs env H cs vs) :
    conc env H s (if g = true then .agg vs.toArray else vs.headD undef) ∧ (g = false → vs.length = 1) := by
  cases g with
  | true =>
    simp only [shapeOf, Option.some.injEq] at h
    subst h
    exact ⟨⟨vs.toArray, rfl, by simpa using hc⟩, fun q => by cases q⟩
  | false =>
    cases cs with
    | nil => simp [shapeOf] at h
    | cons c r =>
      cases r with
      | cons _ _ => simp [shapeOf] at h
      | nil =>
        simp only [shapeOf, Option.some.injEq] at h
        subst h
        cases vs with
        | nil => exact hc.elim
        | cons v t =>
          cases t with
          | cons _ _ => exact hc.2.elim
          | nil => exact ⟨conc_of_concC hc.1, fun _ => rfl⟩

theorem run_loadAt {t : Nat} {u : TypeDesc} {n : TypeInfo} (hu : P.underlying t = some u) (hn : P.info? t = some n) {b o : Nat} {us : List Value} (hl : us.length = n.size)
    (h1 : aggDesc u = false → us.length = 1) (hc : ∀ j v, us[j]? = some v → w.cell? ⟨b, o + j, none⟩ = some v) :
    (Instr.loadAt t (.pointer (some ⟨b, o, none⟩))).run P w = .ok (if aggDesc u = true then .agg us.toArray else us.headD undef) w := by
  have hc' : ∀ j v, us[j]? = some v → w.cell? ((⟨b, o, none⟩ : Addr).add j) = some v := fun j v h => by rw [add_addr]; exact hc j v h
  simp only [Instr.loadAt, Instr.sureAddr, Sem.run_bind, Sem.run_pure, Result.andThen_ok, loadVar, run_isAgg hu, Sem.run_ite]
  cases e : aggDesc u with
  | true =>
    simp only [if_true, run_sizeOf hn, Result.andThen_ok, ← hl, run_loadCells_list w _ us hc']
  | false =>
    have hu1 := h1 e
    cases us with
    | nil => simp at hu1
    | cons v r =>
      have := hc 0 v rfl
      simp only [Nat.add_zero] at this
      simp [run_load, this]

theorem cell_of {b o : Nat} {vs : Array Value} {E : TypeId} {fz : Nat × Nat} (h : w.heap[b]? = some (.cells vs E fz)) : w.cell? ⟨b, o, none⟩ = vs[o]? := by
  simp [World.cell?, h]

theorem load_run (hh : HRel wr env H w) {tt : Types} (ht : TabOk P tt) {t : Nat} {i : TI} (hi : tt t = some i) {j el o : Nat} {v : Value} (hc : conc env H (.ptr j el o) v)
    (h : (readBlk (H j) el o i.size i.agg).run T H = some δ) : δ.hs = [] ∧ ∃ u, (Instr.loadAt t v).run P w = .ok u w ∧ conc env H δ.v u := by
  obtain ⟨n, u, hn, hu, hsz, _, _, _⟩ := typeOk_some (ht _ _ hi)
  obtain ⟨u', hu', hag⟩ := typeOk_agg (ht _ _ hi)
  rw [hu] at hu'
  cases hu'
  unfold readBlk at h
  split at h
  · rename_i rw cs hj
    split at h
    case h_2 => simp [RM.run] at h
    rename_i hb
    simp only [Bool.and_eq_true] at hb
    have hle : o + i.size ≤ cs.length := Nat.le_of_ble_eq_true hb.2
    obtain ⟨s, hv, rfl⟩ := retO_inv h
    simp only [conc, conc2, concC, hj] at hc
    obtain ⟨b, hb1, e⟩ := hc
    obtain ⟨b', E, vs, fz, hb2, hheap, hcs, _⟩ := hh.blk j rw _ hj
    rw [hb1] at hb2
    cases hb2
    have hlen := concCs_length hcs
    have hus : concCs env H ((cs.drop o).take i.size) ((vs.toList.drop o).take i.size) := concCs_take (concCs_drop hcs)
    obtain ⟨r1, r2⟩ := shapeOf_inv hv hus
    refine ⟨rfl, if i.agg = true then .agg ((vs.toList.drop o).take i.size).toArray else ((vs.toList.drop o).take i.size).headD undef, ?_, r1⟩
    have := run_loadAt (w := w) (b := b) (o := o) (us := (vs.toList.drop o).take i.size) hu hn (by simp; simp at hlen; omega) (by rw [hag]; exact r2) (fun k v hk => by
      rw [cell_of hheap]
      rw [List.getElem?_take] at hk
      split at hk
      · simpa using hk
      · cases hk)
    rw [hag] at this
    rw [e]
    exact this
  · rename_i rw U xs hj
    split at h
    case h_2 => simp [RM.run] at h
    rename_i hb
    have hle : o + i.size ≤ U.sz := Nat.le_of_ble_eq_true hb
    obtain ⟨s, hv, rfl⟩ := retO_inv h
    simp only [conc, conc2, concC, hj] at hc
    obtain ⟨b, off, hb1, hel, e⟩ := hc
    obtain ⟨hl, hcap⟩ := hh.blk j rw _ hj
    rcases hcap with hcap | ⟨b', off', E, vs, fz, hb2, hheap, hsize, hlies, _⟩
    · omega
    rw [hb1] at hb2
    cases hb2
    have henc := enc_length U (U.ix xs el)
    have hus : concCs env H (((U.enc (U.ix xs el)).drop o).take i.size) ((((U.enc (U.ix xs el)).drop o).take i.size).map svl) :=
      concCs_plain fun c hc => enc_plain U _ c (List.mem_of_mem_drop (List.mem_of_mem_take hc))
    obtain ⟨r1, r2⟩ := shapeOf_inv hv hus
    refine ⟨rfl, if i.agg = true then .agg ((((U.enc (U.ix xs el)).drop o).take i.size).map svl).toArray else ((((U.enc (U.ix xs el)).drop o).take i.size).map svl).headD undef, ?_, r1⟩
    have := run_loadAt (w := w) (b := b) (o := off + el * U.sz + o) (us := (((U.enc (U.ix xs el)).drop o).take i.size).map svl) hu hn (by simp; omega) (by rw [hag]; exact r2) (fun k v hk => by
      rw [cell_of hheap, Nat.add_assoc, hlies el hel (o + k) ?_]
      · simp only [List.getElem?_map, Option.map_eq_some_iff] at hk
        obtain ⟨c, hk, rfl⟩ := hk
        rw [List.getElem?_take] at hk
        split at hk
        · simp only [List.getElem?_drop] at hk
          simp [List.getD, hk]
        · cases hk
      · have := List.getElem?_eq_some_iff.1 hk
        obtain ⟨hk, _⟩ := this
        simp at hk
        omega)
    rw [hag] at this
    rw [e]
    exact this
  · simp [RM.run] at h

theorem load_ok (hh : HRel wr env H w) (hs : ∀ d, conc env H (T d) (a.tmps.getD d undef)) {tt : Types} (ht : TabOk P tt) {S : Tab} {d : Nat} {x : Operand} {t : Nat} {ty : Nat} {pos : String} {af : Array Edge} {g : Option (Nat × Bool)}
    (h : (evOp tt S ⟨some d, .load t x, ty, pos, af, g⟩).run T H = some δ) : Good P wr env H a w ⟨some d, .load t x, ty, pos, af, g⟩ δ := by
  simp only [evOp] at h
  obtain ⟨i, hi, q⟩ := tiOf_inv h
  clear h
  obtain ⟨s, h, hc⟩ := opv_inv hs q
  clear q
  cases s <;> simp only [RM.run, reduceCtorEq] at h
  rename_i j el o
  obtain ⟨h1, u, h2, h3⟩ := load_run hh ht hi hc h
  obtain ⟨p, s, hs'⟩ := δ
  simp only at h1
  subst h1
  exact good_pure hh (by simp [execOp, h2]) h3

theorem makeFunc_ok (hh : HRel wr env H w) (hs : ∀ d, conc env H (T d) (a.tmps.getD d undef)) {tt : Types} {S : Tab} {d : Nat} {f : Nat} {first caps : Array Operand} {ty : Nat} {pos : String} {af : Array Edge} {g : Option (Nat × Bool)}
    (h : (evOp tt S ⟨some d, .makeFunc (.func f) first caps, ty, pos, af, g⟩).run T H = some δ) : Good P wr env H a w ⟨some d, .makeFunc (.func f) first caps, ty, pos, af, g⟩ δ := by
  obtain ⟨first⟩ := first
  obtain ⟨caps⟩ := caps
  simp only [evOp] at h
  split at h
  · simp only [ret1, RM.run, Option.some.injEq] at h
    subst h
    exact good_pure hh (by simp [execOp, Instr.makeFunc]) rfl
  · rename_i x
    obtain ⟨s, q, hc⟩ := opv_inv hs h
    clear h
    cases s <;> simp only [RM.run, reduceCtorEq] at q
    rename_i j e o
    split at q
    case h_2 => simp [RM.run] at q
    rename_i he
    simp only [Bool.and_eq_true] at he
    have ho : o = 0 := Nat.eq_of_beq_eq_true he.2
    subst ho
    simp only [RM.run] at q
    split at q
    case h_2 => simp [RM.run] at q
    rename_i rw cs hj
    simp only [ret1, RM.run, Option.some.injEq] at q
    subst q
    simp only [conc, conc2, concC, hj] at hc
    obtain ⟨b, hb, e⟩ := hc
    refine good_pure (v := .func (.func f) #[] #[.pointer (some ⟨b, 0, none⟩)]) hh (by simp [execOp, Instr.makeFunc, e]) ?_
    simp only [conc, conc2, concC, hj]
    exact ⟨b, hb, rfl⟩
  · simp [RM.run] at h

def bndIs (v : Option Value) (n : Option Int) : Prop :=
  match v, n with
  | none, none => True
  | some v, some n => ∃ k, v = .int k n
  | _, _ => False

theorem bndOf_inv {α : Type} (hs : ∀ d, conc env H (T d) (a.tmps.getD d undef)) {x : Option Operand} {k : Option Int → RM α} {r : α} (h : (bndOf x k).run T H = some r) :
    ∃ n, (k n).run T H = some r ∧ bndIs (x.map a.eval) n := by
  cases x with
  | none => exact ⟨none, h, trivial⟩
  | some x =>
    simp only [bndOf] at h
    obtain ⟨s, q, hc⟩ := opv_inv hs h
    cases s <;> simp only [RM.run, reduceCtorEq] at q
    exact ⟨_, q, _, conc_int hc⟩

theorem run_bounds {len cap : Nat} {lo hi : Option Value} {l h : Option Int} (hl : bndIs lo l) (hh : bndIs hi h) (h0 : 0 ≤ h.getD len) (h1 : h.getD len ≤ cap) (l0 : 0 ≤ l.getD 0) (l1 : l.getD 0 ≤ h.getD len) :
    (Instr.sliceBounds true len cap lo hi none).run P w = .ok ((l.getD 0).toNat, (h.getD len).toNat, cap) w := by
  cases hi with
  | none =>
    cases h with
    | some _ => exact hh.elim
    | none =>
      cases lo with
      | none =>
        cases l with
        | some _ => exact hl.elim
        | none => simp [Instr.sliceBounds]
      | some v =>
        cases l with
        | none => exact hl.elim
        | some l =>
          obtain ⟨k, rfl⟩ := hl
          simp only [Option.getD_some, Option.getD_none] at *
          simp [Instr.sliceBounds, Instr.sliceBound, asIntOf, l0, l1]
  | some u =>
    cases h with
    | none => exact hh.elim
    | some h =>
      obtain ⟨k, rfl⟩ := hh
      simp only [Option.getD_some] at *
      have ht : ((h.toNat : Nat) : Int) = h := by omega
      cases lo with
      | none =>
        cases l with
        | some _ => exact hl.elim
        | none => simp [Instr.sliceBounds, Instr.sliceBound, asIntOf, h0, h1]
      | some v =>
        cases l with
        | none => exact hl.elim
        | some l =>
          obtain ⟨k, rfl⟩ := hl
          simp only [Option.getD_some] at *
          simp [Instr.sliceBounds, Instr.sliceBound, asIntOf, h0, h1, l0, l1, ht]

theorem run_sliceAt {t e : Nat} {n : TypeInfo} (hu : P.underlying t = some (.slice e)) (hn : P.info? e = some n) {x : Option Addr} {len cap : Nat} {lo hi : Option Value} {l h : Option Int} (hl : bndIs lo l) (hh : bndIs hi h)
    (h0 : 0 ≤ h.getD len) (h1 : h.getD len ≤ cap) (l0 : 0 ≤ l.getD 0) (l1 : l.getD 0 ≤ h.getD len) :
    (Instr.sliceAt t (.slice x len cap) lo hi none).run P w =
      .ok (.slice (if cap = (l.getD 0).toNat then x else x.map (·.add ((l.getD 0).toNat * n.size))) ((h.getD len).toNat - (l.getD 0).toNat) (cap - (l.getD 0).toNat)) w := by
  simp only [Instr.sliceAt, Sem.run_bind, run_underlying hu, Result.andThen_ok, Instr.slice, run_bounds hl hh h0 h1 l0 l1, run_sizeOf hn, Sem.run_pure]

theorem slice_run {d t e : Nat} {n : TypeInfo} (hu : P.underlying t = some (.slice e)) (hn : P.info? e = some n) {ty : Nat} {pos : String} {af : Array Edge} {g : Option (Nat × Bool)} {x : Operand} {lo hi : Option Operand}
    {y : Option Addr} {len cap : Nat} (hx : a.eval x = .slice y len cap) {l h : Option Int} (hl : bndIs (lo.map a.eval) l) (hh : bndIs (hi.map a.eval) h)
    (h0 : 0 ≤ h.getD len) (h1 : h.getD len ≤ cap) (l0 : 0 ≤ l.getD 0) (l1 : l.getD 0 ≤ h.getD len) :
    (execOp a.eval ⟨some d, .slice t x lo hi none, ty, pos, af, g⟩).run P w =
      .ok (.value (.slice (if cap = (l.getD 0).toNat then y else y.map (·.add ((l.getD 0).toNat * n.size))) ((h.getD len).toNat - (l.getD 0).toNat) (cap - (l.getD 0).toNat))) w := by
  simp [execOp, hx, run_sliceAt hu hn hl hh h0 h1 l0 l1]

theorem slice_vec (hH : HRel wr env H w) {d t e : Nat} {n : TypeInfo} (hu : P.underlying t = some (.slice e)) (hn : P.info? e = some n) {ty : Nat} {pos : String} {af : Array Edge} {g : Option (Nat × Bool)} {x : Operand} {lo hi : Option Operand}
    {j : Nat} {rw : Bool} {U : Ty} {xs : List U.El} (hj : H j = some (rw, .vec U xs)) (hsz : n.size = U.sz) (hx : conc env H (.vec j) (a.eval x)) {l h : Option Int} (hl : bndIs (lo.map a.eval) l) (hh : bndIs (hi.map a.eval) h)
    (h1 : h.getD xs.length ≤ xs.length) (l0 : 0 ≤ l.getD 0) (l1 : l.getD 0 ≤ h.getD xs.length) {p : Option Prop} {v : SV} (hv : v = .sl j (l.getD 0).toNat ((h.getD xs.length).toNat - (l.getD 0).toNat)) :
    Good P wr env H a w ⟨some d, .slice t x lo hi none, ty, pos, af, g⟩ ⟨p, v, []⟩ := by
  subst hv
  simp only [conc, conc2, concC, hj] at hx
  obtain ⟨hcap, _⟩ := hH.blk j rw _ hj
  refine good_pure hH (slice_run hu hn hx hl hh (by omega) (by omega) l0 l1) ?_
  simp only [conc, conc2, concC, hj]
  refine ⟨by omega, _, rfl, ?_⟩
  split
  · exact .inl (by assumption)
  · rw [hsz]; exact .inr rfl

theorem slice_sl (hH : HRel wr env H w) {d t e : Nat} {n : TypeInfo} (hu : P.underlying t = some (.slice e)) (hn : P.info? e = some n) {ty : Nat} {pos : String} {af : Array Edge} {g : Option (Nat × Bool)} {x : Operand} {lo hi : Option Operand}
    {j o m : Nat} {rw : Bool} {U : Ty} {xs : List U.El} (hj : H j = some (rw, .vec U xs)) (hsz : n.size = U.sz) (hx : conc env H (.sl j o m) (a.eval x)) {l h : Option Int} (hl : bndIs (lo.map a.eval) l) (hh : bndIs (hi.map a.eval) h)
    (h1 : o + h.getD m ≤ xs.length) (l0 : 0 ≤ l.getD 0) (l1 : l.getD 0 ≤ h.getD m) {p : Option Prop} {v : SV} (hv : v = .sl j (o + (l.getD 0).toNat) ((h.getD m).toNat - (l.getD 0).toNat)) :
    Good P wr env H a w ⟨some d, .slice t x lo hi none, ty, pos, af, g⟩ ⟨p, v, []⟩ := by
  subst hv
  simp only [conc, conc2, concC, hj] at hx
  obtain ⟨hm, y, hx, hy⟩ := hx
  obtain ⟨hcap, _⟩ := hH.blk j rw _ hj
  refine good_pure hH (slice_run hu hn hx hl hh (by omega) (by omega) l0 l1) ?_
  simp only [conc, conc2, concC, hj]
  refine ⟨by omega, _, by rw [Nat.sub_sub], ?_⟩
  split
  · exact .inl (by omega)
  · rename_i hne
    rcases hy with hy | hy
    · omega
    · right
      subst hy
      cases (env j).1 with
      | none => rfl
      | some q =>
        simp only [Option.map_some, hsz]
        congr 1
        unfold Addr.add
        rw [Nat.add_mul]
        split <;> split <;> split <;> simp_all <;> omega

theorem bnd_some {x : Option Operand} {n : Int} (h : bndIs (x.map a.eval) (some n)) : ∃ v : Value, x.map a.eval = some v ∧ ∃ k : IntKind, v = .int k n := by
  cases x with
  | none => exact h.elim
  | some x =>
    obtain ⟨k, hk⟩ := h
    exact ⟨_, rfl, k, hk⟩

theorem slice_ok (hH : HRel wr env H w) (hs : ∀ d, conc env H (T d) (a.tmps.getD d undef)) {tt : Types} (ht : TabOk P tt) {S : Tab} {d : Nat} {x : Operand} {lo hi mx : Option Operand} {t : Nat} {ty : Nat} {pos : String} {af : Array Edge} {g : Option (Nat × Bool)}
    (h : (evOp tt S ⟨some d, .slice t x lo hi mx, ty, pos, af, g⟩).run T H = some δ) (hp : ∀ p, δ.ok = some p → p) : Good P wr env H a w ⟨some d, .slice t x lo hi mx, ty, pos, af, g⟩ δ := by
  simp only [evOp] at h
  obtain ⟨i, hi', q⟩ := tiOf_inv h
  clear h
  split at q
  · rename_i hz
    obtain ⟨s, h, hc⟩ := opv_inv hs q
    clear q
    unfold zeroCut at hz
    split at hz
    case h_2 => cases hz
    rename_i k1 b k2 c
    simp only [Bool.and_eq_true, beq_iff_eq] at hz
    obtain ⟨rfl, rfl⟩ := hz
    cases s <;> simp only [RM.run, reduceCtorEq] at h
    · rename_i j
      obtain ⟨rw, U, xs, V, hj, hV, hsz, q⟩ := tyIs_inv h
      obtain ⟨hu, m, hm, hms⟩ := typeOk_slice (ht _ _ hi') hV
      simp only [ret1, RM.run, Option.some.injEq] at q
      subst q
      simp only [conc, conc2, concC, hj] at hc
      refine good_pure (v := .slice (env j).1 0 0) hH ?_ ⟨_, rfl⟩
      simp [execOp, hc, show ∀ v, a.eval (.const v) = v from fun _ => rfl, Instr.sliceAt, run_underlying hu, Instr.slice, Instr.sliceBounds, Instr.sliceBound, asIntOf, run_sizeOf hm]
    · split at h
      case h_2 => simp [RM.run] at h
      rename_i V hV
      obtain ⟨hu, m, hm, hms⟩ := typeOk_slice (ht _ _ hi') hV
      simp only [ret1, RM.run, Option.some.injEq] at h
      subst h
      obtain ⟨y, hc⟩ := hc
      refine good_pure (v := .slice y 0 0) hH ?_ ⟨_, rfl⟩
      simp [execOp, hc, show ∀ v, a.eval (.const v) = v from fun _ => rfl, Instr.sliceAt, run_underlying hu, Instr.slice, Instr.sliceBounds, Instr.sliceBound, asIntOf, run_sizeOf hm]
  · obtain ⟨s, h, hc⟩ := opv_inv hs q
    clear q
    obtain ⟨l, q, hl⟩ := bndOf_inv hs h
    clear h
    obtain ⟨hb, h, hh⟩ := bndOf_inv hs q
    clear q
    unfold sliceOf at h
    split at h
    · rename_i j
      obtain ⟨rw, U, xs, V, hj, hV, hsz, q⟩ := tyIs_inv h
      obtain ⟨hu, m, hm, hms⟩ := typeOk_slice (ht _ _ hi') hV
      have hms' : m.size = U.sz := hms.trans hsz
      split at q <;> simp only [ret1, retc, RM.run, Option.some.injEq] at q <;> subst q
      · simp only [conc, conc2, concC, hj] at hc
        refine good_pure (v := .slice (env j).1 xs.length (env j).2) hH ?_ (by simp only [conc, conc2, concC, hj])
        obtain ⟨hcap, _⟩ := hH.blk j rw _ hj
        have := slice_run (w := w) (d := d) (ty := ty) (pos := pos) (af := af) (g := g) hu hm hc hl hh (l := none) (h := none) (by simp) (by simpa using hcap) (by simp) (by simp)
        simp only [Option.getD_none, Int.toNat_natCast, Int.toNat_zero, Nat.sub_zero, Nat.zero_mul] at this
        rw [this]
        congr 3
        split
        · rfl
        · cases (env j).1 <;> simp [Addr.add]
      · have hq := hp _ rfl
        exact slice_vec hH (d := d) (ty := ty) (pos := pos) (af := af) (g := g) hu hm hj hms' hc hl hh (by simp) hq.1 (by simpa using hq.2) (by simp)
      · have hq := hp _ rfl
        exact slice_vec hH (d := d) (ty := ty) (pos := pos) (af := af) (g := g) hu hm hj hms' hc hl hh hq.2 (by simp) (by simpa using hq.1) (by simp)
      · have hq := hp _ rfl
        exact slice_vec hH (d := d) (ty := ty) (pos := pos) (af := af) (g := g) hu hm hj hms' hc hl hh hq.2.2 hq.1 hq.2.1 (by simp)
    · rename_i j o n
      obtain ⟨rw, U, xs, V, hj, hV, hsz, q⟩ := tyIs_inv h
      obtain ⟨hu, m, hm, hms⟩ := typeOk_slice (ht _ _ hi') hV
      have hms' : m.size = U.sz := hms.trans hsz
      have hmm : o + n ≤ xs.length := by
        have := hc
        simp only [conc, conc2, concC, hj] at this
        exact this.1
      split at q <;> simp only [ret1, retc, RM.run, Option.some.injEq] at q <;> subst q
      · exact slice_sl hH (d := d) (ty := ty) (pos := pos) (af := af) (g := g) hu hm hj hms' hc hl hh (by simp only [Option.getD_none]; omega) (by simp) (by simp) (by simp)
      · have hq := hp _ rfl
        exact slice_sl hH (d := d) (ty := ty) (pos := pos) (af := af) (g := g) hu hm hj hms' hc hl hh (by simp only [Option.getD_none]; omega) hq.1 (by simpa using hq.2) (by simp)
      · have hq := hp _ rfl
        exact slice_sl hH (d := d) (ty := ty) (pos := pos) (af := af) (g := g) hu hm hj hms' hc hl hh hq.2 (by simp) (by simpa using hq.1) (by simp)
      · have hq := hp _ rfl
        exact slice_sl hH (d := d) (ty := ty) (pos := pos) (af := af) (g := g) hu hm hj hms' hc hl hh hq.2.2 hq.1 hq.2.1 (by simp)
    · obtain ⟨y, hc⟩ := hc
      cases hty : i.ty with
      | none => simp [hty, RM.run] at h
      | some V =>
        obtain ⟨hu, m, hm, hms⟩ := typeOk_slice (ht _ _ hi') hty
        simp only [hty] at h
        cases l <;> cases hb <;> simp only [ret1, retc, RM.run, Option.some.injEq] at h <;> subst h
        · refine good_pure hH (slice_run (w := w) (d := d) (ty := ty) (pos := pos) (af := af) (g := g) hu hm hc hl hh (by simp) (by simp) (by simp) (by simp)) ?_
          exact ⟨_, by simp; rfl⟩
        · have hq := hp _ rfl
          subst hq
          refine good_pure hH (slice_run (w := w) (d := d) (ty := ty) (pos := pos) (af := af) (g := g) hu hm hc hl hh (by simp) (by simp) (by simp) (by simp)) ?_
          exact ⟨_, by simp; rfl⟩
        · have hq := hp _ rfl
          subst hq
          refine good_pure hH (slice_run (w := w) (d := d) (ty := ty) (pos := pos) (af := af) (g := g) hu hm hc hl hh (by simp) (by simp) (by simp) (by simp)) ?_
          exact ⟨_, by simp; rfl⟩
        · obtain ⟨rfl, rfl⟩ := hp _ rfl
          refine good_pure hH (slice_run (w := w) (d := d) (ty := ty) (pos := pos) (af := af) (g := g) hu hm hc hl hh (by simp) (by simp) (by simp) (by simp)) ?_
          exact ⟨_, by simp; rfl⟩
    · simp [RM.run] at h
  · rename_i mo _
    obtain ⟨s, h, hc⟩ := opv_inv hs q
    clear q
    obtain ⟨l, q, hl⟩ := bndOf_inv hs h
    clear h
    obtain ⟨hb, h, hh⟩ := bndOf_inv hs q
    clear q
    obtain ⟨mb, q, hm'⟩ := bndOf_inv hs h
    clear h
    split at q
    case h_2 => simp [RM.run] at q
    rename_i j l hi2 mx2
    obtain ⟨rw, U, xs, V, hj, hV, hsz, q⟩ := tyIs_inv q
    obtain ⟨hu, m, hm, hms⟩ := typeOk_slice (ht _ _ hi') hV
    simp only [retc, RM.run, Option.some.injEq] at q
    subst q
    obtain ⟨p1, p2, p3, p4⟩ := hp _ rfl
    simp only [conc, conc2, concC, hj] at hc
    obtain ⟨hcap, _⟩ := hH.blk j rw _ hj
    obtain ⟨v1, e1, k1, rfl⟩ := bnd_some hl
    obtain ⟨v2, e2, k2, rfl⟩ := bnd_some hh
    obtain ⟨v3, e3, k3, rfl⟩ := bnd_some hm'
    refine good_pure (v := .slice (if mx2.toNat = l.toNat then (env j).1 else (env j).1.map (·.add (l.toNat * m.size))) (hi2.toNat - l.toNat) (mx2.toNat - l.toNat)) hH ?_ trivial
    have e3' : a.eval mo = .int k3 mx2 := by simpa using e3
    have c1 : (hi2.toNat : Int) = hi2 := by omega
    have c2 : (mx2.toNat : Int) = mx2 := by omega
    simp [execOp, hc, Instr.sliceAt, run_underlying hu, Instr.slice, e1, e2, e3', Instr.sliceBounds, Instr.sliceBound, asIntOf, run_sizeOf hm, c1, c2, p1, p2, p3, show 0 ≤ hi2 by omega, show 0 ≤ mx2 by omega, show mx2 ≤ ((env j).2 : Int) by omega]

end

end Go.Proofs.Ytmflfpedmbfhkaa.Sym
