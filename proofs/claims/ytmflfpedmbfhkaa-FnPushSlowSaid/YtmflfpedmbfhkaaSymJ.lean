/-
  Each operation does what the symbolic machine says of it, sixth part: structs and lists that are built, made and appended to.
  No condition.
-/
import Derived.Test.YtmflfpedmbfhkaaSymI
namespace Go.Proofs.Ytmflfpedmbfhkaa.Sym
open Go
set_option linter.unusedVariables false
set_option linter.unusedSimpArgs false

section
variable {P : Program} {wr : Nat → Prop} {env env' : Env} {H H' : Hp} {a : Act} {w w' : World} {T : Nat → SV} {δ : Delta}

theorem fold_set (off : Nat) : ∀ (us : List Value) (k : Nat) (cs : Array Value), off + k + us.length ≤ cs.size →
    ((us.zipIdx k).foldl (fun cs (c, j) => cs.setIfInBounds (off + j) c) cs).toList = cs.toList.take (off + k) ++ us ++ cs.toList.drop (off + k + us.length)
  | [], k, cs, _ => by simp
  | u :: r, k, cs, h => by
    simp only [List.length_cons] at h
    simp only [List.zipIdx_cons, List.foldl_cons]
    rw [fold_set off r (k + 1) _ (by simp; omega)]
    apply List.ext_getElem?
    intro q
    rw [show off + k + (u :: r).length = off + k + (u :: r).length from rfl, get_splice (l := cs.toList) (us := u :: r) (p := off + k) (by simp; omega)]
    have := get_splice (l := (cs.setIfInBounds (off + k) u).toList) (us := r) (p := off + (k + 1)) (by simp; omega) q
    rw [this]
    simp only [Array.toList_setIfInBounds, List.getElem?_set, List.length_cons, Array.length_toList]
    by_cases h1 : q < off + k
    · rw [if_pos (by omega), if_pos h1, if_neg (by omega)]
    · rw [if_neg h1]
      by_cases h2 : q = off + k
      · subst h2
        rw [if_pos (by omega), if_pos rfl, if_pos (by omega), if_pos (by omega)]
        simp
      · by_cases h3 : q < off + k + (r.length + 1)
        · rw [if_neg (by omega), if_pos (by omega), if_pos h3]
          rw [show q - (off + k) = (q - (off + (k + 1))) + 1 by omega, List.getElem?_cons_succ]
        · rw [if_neg (by omega), if_neg (by omega), if_neg h3, if_neg (by omega)]

def partsRel (env : Env) (H : Hp) : List (Nat × SV) → List (Nat × Value) → Prop
  | [], [] => True
  | (i, s) :: r, (j, v) :: t => i = j ∧ conc env H s v ∧ partsRel env H r t
  | _, _ => False

theorem opParts_inv {α : Type} (hs : ∀ d, conc env H (T d) (a.tmps.getD d undef)) : ∀ {xs : List (Nat × Operand)} {k : List (Nat × SV) → RM α} {r : α}, (opParts xs k).run T H = some r →
    ∃ ps, (k ps).run T H = some r ∧ partsRel env H ps (xs.map fun (i, x) => (i, a.eval x))
  | [], k, r, h => ⟨[], h, trivial⟩
  | (i, x) :: xs, k, r, h => by
    simp only [opParts] at h
    obtain ⟨s, q, hc⟩ := opv_inv hs h
    obtain ⟨ps, q, hps⟩ := opParts_inv hs q
    exact ⟨(i, s) :: ps, q, rfl, hc, hps⟩

theorem fill_ok {fields place : Nat → Option (Nat × Nat)} (hpl : ∀ i o n, fields i = some (o, n) → place i = some (o, n)) :
    ∀ {ps : List (Nat × SV)} {vs : List (Nat × Value)} {cells cs : List SV} {cv : Array Value}, partsRel env H ps vs → concCs env H cells cv.toList → fillS fields cells ps = some cs →
      ∃ vals, Instr.fill place cv vs = some vals ∧ concCs env H cs vals.toList
  | [], [], cells, cs, cv, _, hc, h => by
    simp only [fillS, Option.some.injEq] at h
    subst h
    exact ⟨cv, rfl, hc⟩
  | (i, s) :: r, (j, v) :: t, cells, cs, cv, hp, hc, h => by
    obtain ⟨rfl, hsv, hp⟩ := hp
    unfold fillS at h
    split at h
    case h_2 => cases h
    rename_i o n hf
    split at h
    case h_2 => cases h
    rename_i hb
    simp only [Bool.and_eq_true] at hb
    have h1 : s.cells.length = n := Nat.eq_of_beq_eq_true hb.1.1
    have h2 : o + n ≤ cells.length := Nat.le_of_ble_eq_true hb.1.2
    have hcells := conc_cells hsv hb.2
    have hl := concCs_length hcells
    have hl2 := concCs_length hc
    simp only [Array.length_toList] at hl hl2
    have hfold := fold_set o v.cells.toList 0 cv (by simp; omega)
    simp only [Nat.add_zero] at hfold
    have hnew : concCs env H (splice cells o s.cells) ((v.cells.toList.zipIdx 0).foldl (fun cs (c, j) => cs.setIfInBounds (o + j) c) cv).toList := by
      rw [hfold]
      simp only [splice]
      rw [show v.cells.toList.length = s.cells.length by simp; omega]
      exact concCs_append (concCs_append (concCs_take hc) hcells) (concCs_drop hc)
    obtain ⟨vals, hv, hcv⟩ := fill_ok hpl hp hnew h
    refine ⟨vals, ?_, hcv⟩
    unfold Instr.fill
    rw [hpl _ _ _ hf]
    simp only
    rw [if_neg (by simp; omega)]
    rw [← hv]
    congr 1
    rw [← Array.foldl_toList]
    simp

theorem build_ok (hh : HRel wr env H w) (hs : ∀ d, conc env H (T d) (a.tmps.getD d undef)) {tt : Types} (ht : TabOk P tt) {S : Tab} {d : Nat} {ps : Array (Nat × Operand)} {t : Nat} {ty : Nat} {pos : String} {af : Array Edge} {g : Option (Nat × Bool)}
    (h : (evOp tt S ⟨some d, .build t ps, ty, pos, af, g⟩).run T H = some δ) : Good P wr env H a w ⟨some d, .build t ps, ty, pos, af, g⟩ δ := by
  simp only [evOp] at h
  obtain ⟨i, hi, q⟩ := tiOf_inv h
  clear h
  obtain ⟨sp, h, hsp⟩ := opParts_inv hs q
  clear q
  split at h
  case h_2 => simp [RM.run] at h
  rename_i cs hag hf
  simp only [ret1, RM.run, Option.some.injEq] at h
  subst h
  obtain ⟨n, u, hin, hu, hsz, _, _, z, hz, hzf, _⟩ := typeOk_some (ht _ _ hi)
  obtain ⟨u', hu', hda⟩ := typeOk_agg (ht _ _ hi)
  rw [hu] at hu'
  cases hu'
  rw [hag] at hda
  -- a struct: an array has no entry in the table
  have hst : ∃ fs, u = .struct fs ∧ (fs.toList.map fun f => (f.offset, P.cellsOf f.type)) = i.fields ∧ ∀ f ∈ fs.toList, 0 < P.cellsOf f.type := by
    have h := ht _ _ hi
    unfold typeOk at h
    rw [hin, hu] at h
    simp only [Bool.and_eq_true] at h
    obtain ⟨_, h⟩ := h
    split at h
    case h_1 =>
      rename_i fs
      simp only [Bool.and_eq_true, beq_iff_eq] at h
      obtain ⟨⟨⟨⟨⟨_, h1⟩, h2⟩, _⟩, _⟩, _⟩ := h
      refine ⟨fs, rfl, h1, fun f hf => ?_⟩
      have := List.all_eq_true.1 h2 f hf
      simp only [Bool.and_eq_true, decide_eq_true_eq] at this
      exact this.1
    all_goals simp [hag] at h
  obtain ⟨fs, rfl, hfs, hpos⟩ := hst
  have hplaces : ∀ w, (fs.mapM fun f => (do pure (f.offset, ← sizeOf f.type) : Sem (Nat × Nat))).run P w = .ok (fs.map fun f => (f.offset, P.cellsOf f.type)) w := by
    intro w
    rw [Array.mapM_eq_mapM_toList]
    have : ∀ l : List Field, (∀ f ∈ l, 0 < P.cellsOf f.type) → (l.mapM fun f => (do pure (f.offset, ← sizeOf f.type) : Sem (Nat × Nat))).run P w = .ok (l.map fun f => (f.offset, P.cellsOf f.type)) w := by
      intro l
      induction l with
      | nil => intro _; rfl
      | cons f r ih =>
        intro hl
        have h1 : (sizeOf f.type).run P w = .ok (P.cellsOf f.type) w := sizeOf_run rfl (hl f (by simp))
        simp only [List.mapM_cons, Sem.run_bind, h1, Result.andThen_ok, Sem.run_pure, ih fun g hg => hl g (by simp [hg]), List.map_cons]
    simp only [Sem.run_map, this _ hpos, Result.andThen_ok]
    congr 1
    apply Array.ext'
    simp
  obtain ⟨vals, hv, hcv⟩ := fill_ok (place := ((fs.map fun f => (f.offset, P.cellsOf f.type))[·]?)) (fun k o m hk => by
    rw [← hfs] at hk
    simpa using hk) hsp (zero_conc hzf) hf
  refine good_pure (v := .agg vals) hh ?_ ⟨vals, rfl, hcv⟩
  have hpt : (ps.map fun (i, x) => (i, a.eval x)).toList = ps.toList.map fun (i, x) => (i, a.eval x) := by simp
  simp only [execOp, Instr.build, zeroValue, typeInfo, Sem.run_bind, run_program, Result.andThen_ok, hin, hz, Sem.run_pure, run_underlying hu, hplaces, hpt, hv]

theorem rep_ok {zs : List SV} {us : List Value} (hc : concCs env H zs us) : ∀ n, concCs env H (rep n zs) ((List.range (n * us.length)).map fun q => us.toArray[q % us.toArray.size]!)
  | 0 => by simp [rep, concCs]
  | n + 1 => by
    have ih := rep_ok hc n
    have : (n + 1) * us.length = us.length + n * us.length := by rw [Nat.add_mul, Nat.one_mul, Nat.add_comm]
    rw [this, List.range_add, List.map_append, List.map_map]
    simp only [rep]
    refine concCs_append ?_ ?_
    · have : (List.range us.length).map (fun q => us.toArray[q % us.toArray.size]!) = us := by
        apply List.ext_getElem
        · simp
        · intro q h1 h2
          simp at h1
          simp [Nat.mod_eq_of_lt h1, h1]
      rw [this]
      exact hc
    · have : ((fun q => us.toArray[q % us.toArray.size]!) ∘ fun x => us.length + x) = fun q => us.toArray[q % us.toArray.size]! := by
        funext q
        simp
      rw [this]
      exact ih

theorem decAll_length {U : Ty} : ∀ {cs : List (List SV)} {xs : List U.El}, decAll U cs = some xs → xs.length = cs.length
  | [], xs, h => by simp only [decAll, Option.some.injEq] at h; subst h; rfl
  | c :: r, xs, h => by
    unfold decAll at h
    split at h
    · rename_i x y h1 h2
      cases h
      simp [decAll_length h2]
    · cases h

theorem chunks_length {n : Nat} : ∀ {m : Nat} {cs : List SV}, (chunks n m cs).length = m
  | 0, _ => rfl
  | m + 1, cs => by simp [chunks, chunks_length (n := n) (m := m)]

/-- Cells that are read as elements lie as the elements do. -/
theorem lies_chunks {U : Ty} : ∀ {m : Nat} {cs : List SV} {xs : List U.El} {us : List Value}, decAll U (chunks U.sz m cs) = some xs → concCs env H cs us →
    ∀ e, e < xs.length → ∀ o, o < U.sz → us[e * U.sz + o]? = some (svl ((U.enc (U.ix xs e)).getD o .any))
  | 0, cs, xs, us, h, _ => by
    simp only [chunks, decAll, Option.some.injEq] at h
    subst h
    intro e he
    simp at he
  | m + 1, cs, xs, us, h, hc => by
    unfold chunks decAll at h
    split at h
    case h_2 => cases h
    rename_i x ys h1 h2
    cases h
    intro e he o ho
    have henc := dec_enc h1
    cases e with
    | zero =>
      have hpl : ∀ c ∈ cs.take U.sz, plain c = true := fun c hc => enc_plain U x c (by rw [henc]; exact hc)
      have hv := plain_vals hpl (concCs_take (n := U.sz) hc)
      have hl := enc_length U x
      have hx : U.ix (x :: ys) 0 = x := rfl
      rw [hx, henc]
      simp only [Nat.zero_mul, Nat.zero_add]
      have h3 : us[o]? = (us.take U.sz)[o]? := by rw [List.getElem?_take, if_pos ho]
      have h4 : o < (cs.take U.sz).length := by rw [← henc, hl]; exact ho
      have h5 : (cs.take U.sz)[o]? = some (cs.take U.sz)[o] := List.getElem?_eq_getElem h4
      rw [h3, hv, List.getElem?_map, List.getD_eq_getElem?_getD, h5]
      rfl
    | succ e =>
      have hx : U.ix (x :: ys) (e + 1) = U.ix ys e := by simp [Ty.ix, List.getD]
      rw [hx]
      have := lies_chunks (m := m) h2 (concCs_drop (n := U.sz) hc) e (by simpa using he) o ho
      rw [← this, List.getElem?_drop]
      congr 1
      rw [Nat.add_mul]
      omega

theorem zero_size {zs : List SV} {us : List Value} (h : zeroFits zs us = true) : us.length = zs.length := (concCs_length (zero_conc (env := fun _ => (none, 0)) (H := fun _ => none) h)).symm

theorem buildSlice_ok (hh : HRel wr env H w) (hnew : ∀ k, w.heap.size ≤ k → wr k) (hs : ∀ d, conc env H (T d) (a.tmps.getD d undef)) {tt : Types} (ht : TabOk P tt) {S : Tab} {d m : Nat} {ps : Array (Nat × Operand)} {t : Nat} {ty : Nat} {pos : String} {af : Array Edge} {g : Option (Nat × Bool)}
    (h : (evOp tt S ⟨some d, .buildSlice t m ps, ty, pos, af, g⟩).run T H = some δ) : Good P wr env H a w ⟨some d, .buildSlice t m ps, ty, pos, af, g⟩ δ := by
  simp only [evOp] at h
  obtain ⟨i, hi, q⟩ := tiOf_inv h
  clear h
  obtain ⟨e, he, h⟩ := tiOf_inv q
  clear q
  obtain ⟨sp, q, hsp⟩ := opParts_inv hs h
  clear h
  split at q
  case h_2 => simp [RM.run] at q
  rename_i U cs hU hf hle
  split at q
  case h_2 => simp [RM.run] at q
  rename_i xs hxs
  obtain ⟨hn, q⟩ := fresh_inv q
  simp only [RM.run, Option.some.injEq] at q
  subst q
  obtain ⟨hu, n, hin, hsz⟩ := typeOk_slice (ht _ _ hi) hU
  obtain ⟨n', u', hin', hu', hsz', _, hzl, z, hz, hzf, _⟩ := typeOk_some (ht _ _ he)
  rw [hin] at hin'
  cases hin'
  have hes : e.size = U.sz := by omega
  have hzs := zero_size hzf
  simp only [Array.length_toList] at hzs
  have hle := Nat.le_of_ble_eq_true hle
  have hrep := rep_ok (zero_conc (env := env) (H := H) hzf) m
  have hcells : concCs env H (rep m e.zero) (((Array.range (m * n.size)).map fun q => z.cells[q % z.cells.size]!)).toList := by
    have : z.cells.toList.length = n.size := by simp; omega
    rw [this] at hrep
    simpa using hrep
  obtain ⟨vals, hv, hcv⟩ := fill_ok (place := fun k => some (k * n.size, n.size)) (fun k o q hk => by rw [← hk, hsz', ]) hsp hcells hf
  have hxl := decAll_length hxs
  rw [chunks_length] at hxl
  have hli : Lies U xs vals 0 := by
    intro k hk o ho
    rw [hes] at hxs
    have := lies_chunks hxs hcv k hk o ho
    rw [Nat.zero_add]
    simpa using this
  have hcl := concCs_length hcv
  have hvs : m * U.sz ≤ vals.size := by
    have : ∀ {ps : List (Nat × SV)} {fields : Nat → Option (Nat × Nat)} {cells cs : List SV}, fillS fields cells ps = some cs → cs.length = cells.length := by
      intro ps
      induction ps with
      | nil => intro f c c' h; simp only [fillS, Option.some.injEq] at h; rw [h]
      | cons p r ih =>
        obtain ⟨k, s⟩ := p
        intro f c c' h
        unfold fillS at h
        split at h
        case h_2 => cases h
        split at h
        case h_2 => cases h
        rename_i hb
        simp only [Bool.and_eq_true] at hb
        have h1 := Nat.eq_of_beq_eq_true hb.1.1
        have h2 := Nat.le_of_ble_eq_true hb.1.2
        rw [ih h, splice_length (by omega)]
    have h1 := this hf
    have h2 := concCs_length hcells
    simp at h2 hcl
    rw [h2] at h1
    rw [← hcl, h1, hsz]
    exact Nat.le_refl _
  obtain ⟨env', r1, r2, r3, r4⟩ := vec_good (w' := { w with heap := w.heap.push (.cells vals i.elem (0, 0)) }) hh hnew hn (U := U) (xs := xs) (vs := vals) (E := i.elem) (c := m) (by omega) hvs hli rfl rfl rfl rfl
  refine .inl ⟨.slice (some ⟨w.heap.size, 0, none⟩) m m, _, ?_, env', r1, r2, r3, by rw [hxl] at r4; exact r4⟩
  have hpt : (ps.map fun (i, x) => (i, a.eval x)).toList = ps.toList.map fun (i, x) => (i, a.eval x) := by simp
  have hne : ¬ 2 ^ 24 < m * n.size := by rw [hsz']; omega
  by_cases h0 : m * n.size = 0
  · have hA : ∀ f : Nat → Value, (Array.range (m * n.size)).map f = #[] := fun f => by rw [h0]; simp
    rw [hA] at hv
    simp only [execOp, Instr.buildSlice, Sem.run_bind, run_underlying hu, Result.andThen_ok, run_sizeOf hin, hpt, hA]
    simp [hne, h0, hv, newRow]
  · simp only [execOp, Instr.buildSlice, Sem.run_bind, run_underlying hu, Result.andThen_ok, run_sizeOf hin, hpt]
    simp [hne, h0, zeroValue, typeInfo, hin, hz, hv, newRow]

end

end Go.Proofs.Ytmflfpedmbfhkaa.Sym
