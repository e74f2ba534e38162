/-
  Each operation does what the symbolic machine says of it, third part: addresses, reads of memory, small operations.
  No condition.
-/
import Derived.Test.YtmflfpedmbfhkaaSymF
namespace Go.Proofs.Ytmflfpedmbfhkaa.Sym
open Go
set_option linter.unusedVariables false
set_option linter.unusedSimpArgs false

section
variable {P : Program} {wr : Nat → Prop} {env : Env} {H : Hp} {a : Act} {w : World} {T : Nat → SV} {δ : Delta}

theorem retO_inv {v : Option SV} (h : (retO v).run T H = some δ) : ∃ s, v = some s ∧ δ = ⟨none, s, []⟩ := by
  cases v with
  | none => simp [retO, RM.run] at h
  | some s => simp only [retO, ret1, RM.run, Option.some.injEq] at h; exact ⟨s, rfl, h.symm⟩

theorem conc2s_get : ∀ {vs : List SV} {us : List Value} {i : Nat} {s : SV}, conc2s env H vs us → vs[i]? = some s → ∃ u, us[i]? = some u ∧ conc2 env H s u
  | [], _, i, s, _, h => by simp at h
  | v :: r, [], i, s, h, _ => h.elim
  | v :: r, u :: t, 0, s, h, hi => by
    simp only [List.getElem?_cons_zero, Option.some.injEq] at hi
    subst hi
    exact ⟨u, rfl, h.1⟩
  | v :: r, u :: t, i + 1, s, h, hi => by
    simp only [List.getElem?_cons_succ] at hi
    obtain ⟨u', hu, hc⟩ := conc2s_get h.2 hi
    exact ⟨u', by simpa using hu, hc⟩

/-- A name whose block still stands. -/
def Live (H : Hp) (j : Nat) : Prop := (∃ r cs, H j = some (r, .box cs)) ∨ ∃ r T xs, H j = some (r, .vec T xs)

theorem alive_inv {α : Type} {j : Nat} {k : RM α} {r : α} (h : (alive j k).run T H = some r) : k.run T H = some r ∧ Live H j := by
  simp only [alive, RM.run] at h
  split at h
  · exact ⟨h, .inl ⟨_, _, by assumption⟩⟩
  · exact ⟨h, .inr ⟨_, _, _, by assumption⟩⟩
  · simp [RM.run] at h

theorem ptr_live {j e o : Nat} (h : Live H j) {v : Value} (hc : conc env H (.ptr j e o) v) : ∃ p, v = .pointer (some p) := by
  rcases h with ⟨r, cs, h⟩ | ⟨r, T, xs, h⟩
  · simp only [conc, conc2, concC, h] at hc
    obtain ⟨b, _, e⟩ := hc
    exact ⟨_, e⟩
  · simp only [conc, conc2, concC, h] at hc
    obtain ⟨b, off, _, _, e⟩ := hc
    exact ⟨_, e⟩

theorem un_ok (hh : HRel wr env H w) (hs : ∀ d, conc env H (T d) (a.tmps.getD d undef)) {tt : Types} {S : Tab} {d : Nat} {op : UnOp} {x : Operand} {t : Nat} {ty : Nat} {pos : String} {af : Array Edge} {g : Option (Nat × Bool)}
    (h : (evOp tt S ⟨some d, .unOp op t x, ty, pos, af, g⟩).run T H = some δ) : Good P wr env H a w ⟨some d, .unOp op t x, ty, pos, af, g⟩ δ := by
  simp only [evOp] at h
  obtain ⟨s, q, hc⟩ := opv_inv hs h
  clear h
  unfold un at q
  split at q
  · simp only [ret1, RM.run, Option.some.injEq] at q
    subst q
    have e := conc_int hc
    exact good_pure hh (by simp [execOp, e, Op.unary, Op.intArith]) rfl
  · simp only [ret1, RM.run, Option.some.injEq] at q
    subst q
    have e := conc_bool hc
    exact good_pure hh (by simp [execOp, e, Op.unary]) rfl
  · simp [RM.run] at q

theorem typeOk_int {t : Nat} {i : TI} (h : typeOk P t i = true) {k : IntKind} (hk : i.kind = some k) : P.underlying t = some (.int k) := by
  unfold typeOk at h
  split at h
  case h_2 => cases h
  rename_i n u hn hu
  simp only [Bool.and_eq_true] at h
  obtain ⟨_, h⟩ := h
  split at h
  case h_3 =>
    rename_i k'
    simp only [Bool.and_eq_true, hk, beq_iff_eq, Option.some.injEq] at h
    rw [hu, h.1.1.1.1.2]
  all_goals simp [hk] at h

theorem typeOk_some {t : Nat} {i : TI} (h : typeOk P t i = true) : ∃ n u, P.info? t = some n ∧ P.underlying t = some u ∧ n.size = i.size ∧ n.bytes = i.bytes ∧ i.zero.length = i.size ∧
    ∃ z, n.zero = some z ∧ zeroFits i.zero z.cells.toList = true ∧ (i.agg = true ↔ ∃ c, z = .agg c) := by
  unfold typeOk at h
  split at h
  case h_2 => cases h
  rename_i n u hn hu
  simp only [Bool.and_eq_true, beq_iff_eq] at h
  obtain ⟨⟨⟨⟨h1, h2⟩, h3⟩, h4⟩, _⟩ := h
  split at h4
  case h_2 => cases h4
  rename_i z hz
  refine ⟨n, u, hn, hu, h1, h2, h3, z, hz, ?_⟩
  simp only [Bool.and_eq_true] at h4
  refine ⟨h4.1, ?_⟩
  have := h4.2
  cases z <;> simp_all

theorem typeOk_agg {t : Nat} {i : TI} (h : typeOk P t i = true) : ∃ u, P.underlying t = some u ∧ aggDesc u = i.agg := by
  unfold typeOk at h
  split at h
  case h_2 => cases h
  rename_i n u hn hu
  simp only [Bool.and_eq_true] at h
  obtain ⟨_, h⟩ := h
  refine ⟨u, hu, ?_⟩
  split at h
  all_goals first | (cases h; done) | skip
  all_goals simp only [Bool.and_eq_true, Bool.not_eq_true'] at h
  all_goals simp [aggDesc, h]

theorem convert_ok (hh : HRel wr env H w) (hs : ∀ d, conc env H (T d) (a.tmps.getD d undef)) {tt : Types} (ht : TabOk P tt) {S : Tab} {d : Nat} {x : Operand} {t0 t : Nat} {ty : Nat} {pos : String} {af : Array Edge} {g : Option (Nat × Bool)}
    (h : (evOp tt S ⟨some d, .convert t0 t x, ty, pos, af, g⟩).run T H = some δ) : Good P wr env H a w ⟨some d, .convert t0 t x, ty, pos, af, g⟩ δ := by
  simp only [evOp] at h
  obtain ⟨i0, hi0, q⟩ := tiOf_inv h
  clear h
  obtain ⟨_, u, _, hs0, _⟩ := typeOk_some (ht _ _ hi0)
  obtain ⟨i, hi, h⟩ := tiOf_inv q
  clear q
  obtain ⟨s, q, hc⟩ := opv_inv hs h
  clear h
  have h := q
  clear q
  cases s <;> simp only [RM.run, reduceCtorEq] at h
  rename_i k n
  have e := conc_int hc
  split at h
  case h_2 => simp [RM.run] at h
  rename_i k' hk
  have hu := typeOk_int (ht _ _ hi) hk
  simp only [ret1, RM.run, Option.some.injEq] at h
  subst h
  exact good_pure hh (by simp [execOp, e, convert, run_underlying hs0, run_underlying hu, Conv.intToInt]) rfl

theorem extract_ok (hh : HRel wr env H w) (hs : ∀ d, conc env H (T d) (a.tmps.getD d undef)) {tt : Types} {S : Tab} {d : Nat} {x : Operand} {n : Nat} {ty : Nat} {pos : String} {af : Array Edge} {g : Option (Nat × Bool)}
    (h : (evOp tt S ⟨some d, .extract x n, ty, pos, af, g⟩).run T H = some δ) : Good P wr env H a w ⟨some d, .extract x n, ty, pos, af, g⟩ δ := by
  simp only [evOp] at h
  obtain ⟨s, q, hc⟩ := opv_inv hs h
  clear h
  cases s <;> simp only [RM.run, reduceCtorEq] at q
  obtain ⟨s, hv, rfl⟩ := retO_inv q
  obtain ⟨us, e, hc⟩ := hc
  obtain ⟨u, hu, hcu⟩ := conc2s_get hc hv
  exact good_pure hh (by simp [execOp, e, Instr.extract, show us[n]? = some u by simpa using hu]) (conc_of_conc2 hcu)

theorem nilCheck_ok (hh : HRel wr env H w) (hs : ∀ d, conc env H (T d) (a.tmps.getD d undef)) {tt : Types} {S : Tab} {d : Nat} {x : Operand} {ty : Nat} {pos : String} {af : Array Edge} {g : Option (Nat × Bool)}
    (h : (evOp tt S ⟨some d, .nilCheck x, ty, pos, af, g⟩).run T H = some δ) : Good P wr env H a w ⟨some d, .nilCheck x, ty, pos, af, g⟩ δ := by
  simp only [evOp] at h
  obtain ⟨s, q, hc⟩ := opv_inv hs h
  clear h
  cases s <;> simp only [RM.run, reduceCtorEq] at q
  obtain ⟨hq, ha⟩ := alive_inv q
  simp only [ret1, RM.run, Option.some.injEq] at hq
  subst hq
  obtain ⟨p, e⟩ := ptr_live ha hc
  exact good_pure hh (by simp [execOp, e]) hc

theorem typeOk_field {t : Nat} {i : TI} (h : typeOk P t i = true) {f k n : Nat} (hf : i.fields[f]? = some (k, n)) :
    ∃ fs fd, P.underlying t = some (.struct fs) ∧ fs[f]? = some fd ∧ fd.offset = k ∧ P.cellsOf fd.type = n ∧ 0 < n := by
  unfold typeOk at h
  split at h
  case h_2 => cases h
  rename_i m u hn hu
  simp only [Bool.and_eq_true] at h
  obtain ⟨_, h⟩ := h
  split at h
  case h_1 =>
    rename_i fs
    simp only [Bool.and_eq_true, beq_iff_eq] at h
    obtain ⟨⟨⟨⟨⟨_, h1⟩, h2⟩, _⟩, _⟩, _⟩ := h
    rw [← h1] at hf
    simp only [List.getElem?_map, Option.map_eq_some_iff] at hf
    obtain ⟨fd, hfd, e⟩ := hf
    simp only [Prod.mk.injEq] at e
    have hm := List.all_eq_true.1 h2 fd (List.mem_of_getElem? hfd)
    simp only [Bool.and_eq_true, decide_eq_true_eq] at hm
    exact ⟨fs, fd, hu, by simpa using hfd, e.1, e.2, by rw [← e.2]; exact hm.1⟩
  all_goals first | (simp at h; done) | skip
  all_goals
    simp only [Bool.and_eq_true, List.isEmpty_iff] at h
    have he : i.fields = [] := by simp_all
    simp [he] at hf

theorem add_addr (b o k : Nat) : (⟨b, o, none⟩ : Addr).add k = ⟨b, o + k, none⟩ := by
  unfold Addr.add
  split <;> simp_all

theorem fieldAddr_ok (hh : HRel wr env H w) (hs : ∀ d, conc env H (T d) (a.tmps.getD d undef)) {tt : Types} (ht : TabOk P tt) {S : Tab} {d : Nat} {x : Operand} {t f : Nat} {ty : Nat} {pos : String} {af : Array Edge} {g : Option (Nat × Bool)}
    (h : (evOp tt S ⟨some d, .fieldAddr t x f, ty, pos, af, g⟩).run T H = some δ) : Good P wr env H a w ⟨some d, .fieldAddr t x f, ty, pos, af, g⟩ δ := by
  simp only [evOp] at h
  obtain ⟨i, hi, q⟩ := tiOf_inv h
  clear h
  obtain ⟨s, h, hc⟩ := opv_inv hs q
  clear q
  cases s <;> simp only [RM.run, reduceCtorEq] at h
  rename_i j el o
  obtain ⟨q, ha⟩ := alive_inv h
  clear h
  split at q
  case h_2 => simp [RM.run] at q
  rename_i k n hf
  obtain ⟨fs, fd, hu, hfd, e1, e2, e3⟩ := typeOk_field (ht _ _ hi) hf
  simp only [ret1, RM.run, Option.some.injEq] at q
  subst q
  have hsz : ∀ w, (sizeOf fd.type).run P w = .ok n w := fun w => sizeOf_run e2 e3
  have hn : n ≠ 0 := by omega
  rcases ha with ⟨r, cs, hj⟩ | ⟨r, U, xs, hj⟩
  · simp only [conc, conc2, concC, hj] at hc
    obtain ⟨b, hb, e⟩ := hc
    refine good_pure (v := .pointer (some ⟨b, o + k, none⟩)) hh ?_ ?_
    · simp [execOp, e, Instr.fieldAt, run_underlying hu, hfd, Instr.sureAddr, fieldPlace, hsz, hn, add_addr, e1]
    · simp only [conc, conc2, concC, hj]
      exact ⟨b, hb, rfl⟩
  · simp only [conc, conc2, concC, hj] at hc
    obtain ⟨b, off, hb, hl, e⟩ := hc
    refine good_pure (v := .pointer (some ⟨b, off + el * U.sz + (o + k), none⟩)) hh ?_ ?_
    · simp [execOp, e, Instr.fieldAt, run_underlying hu, hfd, Instr.sureAddr, fieldPlace, hsz, hn, add_addr, e1, Nat.add_assoc]
    · simp only [conc, conc2, concC, hj]
      exact ⟨b, off, hb, hl, rfl⟩

theorem typeOk_slice {t : Nat} {i : TI} (h : typeOk P t i = true) {U : Ty} (hU : i.ty = some U) : P.underlying t = some (.slice i.elem) ∧ ∃ n, P.info? i.elem = some n ∧ n.size = U.sz := by
  unfold typeOk at h
  split at h
  case h_2 => cases h
  rename_i m u hn hu
  simp only [Bool.and_eq_true] at h
  obtain ⟨_, h⟩ := h
  split at h
  case h_2 =>
    simp only [Bool.and_eq_true, beq_iff_eq, hU] at h
    obtain ⟨⟨⟨⟨⟨⟨_, h1⟩, h2⟩, _⟩, _⟩, _⟩, _⟩ := h
    subst h1
    refine ⟨hu, ?_⟩
    simp only [tyOfDesc, Option.any_eq_true, beq_iff_eq] at h2
    obtain ⟨n, h3, h4⟩ := h2
    exact ⟨n, h3, h4⟩
  all_goals simp [hU] at h

theorem tyIs_inv {α : Type} {t : Option Ty} {j : Nat} {k : Nat → RM α} {r : α} (h : (tyIs t j k).run T H = some r) :
    ∃ rw U xs V, H j = some (rw, .vec U xs) ∧ t = some V ∧ V.sz = U.sz ∧ (k xs.length).run T H = some r := by
  simp only [tyIs, RM.run] at h
  split at h
  case h_2 => simp [RM.run] at h
  rename_i rw U xs hj
  split at h
  case h_2 => simp [RM.run] at h
  rename_i V
  split at h
  case h_2 => simp [RM.run] at h
  rename_i hsz
  exact ⟨rw, U, xs, V, hj, rfl, Nat.eq_of_beq_eq_true hsz, h⟩

theorem run_sizeOf {t : Nat} {n : TypeInfo} (h : P.info? t = some n) : (sizeOf t).run P w = .ok n.size w := by simp [sizeOf, typeInfo, h]

/-- Where a list's elements lie. -/
theorem vec_base (hh : HRel wr env H w) {j : Nat} {rw : Bool} {U : Ty} {xs : List U.El} (hj : H j = some (rw, .vec U xs)) (h0 : 0 < xs.length) : ∃ b off, (env j).1 = some ⟨b, off, none⟩ ∧ xs.length ≤ (env j).2 := by
  obtain ⟨hl, h⟩ := hh.blk j rw _ hj
  rcases h with h | ⟨b, off, E, vs, fz, hb, _⟩
  · omega
  · exact ⟨b, off, hb, hl⟩

theorem indexAddr_ok (hh : HRel wr env H w) (hs : ∀ d, conc env H (T d) (a.tmps.getD d undef)) {tt : Types} (ht : TabOk P tt) {S : Tab} {d : Nat} {x y : Operand} {t : Nat} {ty : Nat} {pos : String} {af : Array Edge} {g : Option (Nat × Bool)}
    (h : (evOp tt S ⟨some d, .indexAddr t x y, ty, pos, af, g⟩).run T H = some δ) (hp : ∀ p, δ.ok = some p → p) : Good P wr env H a w ⟨some d, .indexAddr t x y, ty, pos, af, g⟩ δ := by
  simp only [evOp] at h
  obtain ⟨i, hi, q⟩ := tiOf_inv h
  clear h
  obtain ⟨s, h, hc⟩ := opv_inv hs q
  clear q
  obtain ⟨s2, q, hc2⟩ := opv_inv hs h
  clear h
  cases s2 <;> simp only [RM.run, reduceCtorEq] at q
  rename_i k n
  have e2 := conc_int hc2
  split at q
  · rename_i j
    obtain ⟨rw, U, xs, V, hj, hV, hsz, q⟩ := tyIs_inv q
    obtain ⟨hu, m, hm, hms⟩ := typeOk_slice (ht _ _ hi) hV
    simp only [retc, RM.run, Option.some.injEq] at q
    subst q
    have hb := hp _ rfl
    have hlen : 0 < xs.length := by omega
    obtain ⟨b, off, hb1, hb2⟩ := vec_base hh hj hlen
    simp only [conc, conc2, concC, hj] at hc
    refine good_pure (v := .pointer (some ⟨b, off + n.toNat * U.sz, none⟩)) hh ?_ ?_
    · have hc1 : (0 ≤ n ∧ n < (xs.length : Int)) := hb
      simp [execOp, hc, e2, Instr.indexAt, asIntOf, run_underlying hu, hb1, hc1.1, hc1.2, run_sizeOf hm, hms, hsz, add_addr]
    · simp only [conc, conc2, concC, hj]
      exact ⟨b, off, hb1, by omega, by simp⟩
  · rename_i j lo m
    obtain ⟨rw, U, xs, V, hj, hV, hsz, q⟩ := tyIs_inv q
    obtain ⟨hu, m', hm, hms⟩ := typeOk_slice (ht _ _ hi) hV
    simp only [retc, RM.run, Option.some.injEq] at q
    subst q
    have hb := hp _ rfl
    simp only [conc, conc2, concC, hj] at hc
    obtain ⟨hlo, x', hx, hbase⟩ := hc
    have hlen : 0 < xs.length := by omega
    obtain ⟨b, off, hb1, hb2⟩ := vec_base hh hj hlen
    rcases hbase with hbase | hbase
    · omega
    rw [hb1] at hbase
    simp only [Option.map_some, add_addr] at hbase
    subst hbase
    refine good_pure (v := .pointer (some ⟨b, off + lo * U.sz + n.toNat * U.sz, none⟩)) hh ?_ ?_
    · simp [execOp, hx, e2, Instr.indexAt, asIntOf, run_underlying hu, hb.1, hb.2, run_sizeOf hm, hms, hsz, add_addr]
    · simp only [conc, conc2, concC, hj]
      exact ⟨b, off, hb1, by omega, by rw [Nat.add_mul, Nat.add_zero, Nat.add_assoc]⟩
  · simp [RM.run] at q

end

end Go.Proofs.Ytmflfpedmbfhkaa.Sym
