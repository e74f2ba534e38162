/-
  Each operation does what the symbolic machine says of it, second part: reckoning, comparing, addresses.
  No condition.
-/
import Derived.Test.YtmflfpedmbfhkaaSymE
import Derived.Laws.StructEq
import Derived.Laws.AppendOwn
import Derived.Laws.OwnMore
import Derived.Laws.MakeOwn
import Derived.Laws.CopyRow
namespace Go.Proofs.Ytmflfpedmbfhkaa.Sym
open Go
set_option linter.unusedVariables false
set_option linter.unusedSimpArgs false

section
variable {P : Program} {wr : Nat → Prop} {env : Env} {H : Hp} {a : Act} {w : World} {T : Nat → SV} {δ : Delta}

theorem run_guard_int (op : BinOp) (t : TypeId) (x y : Operand) (k j : IntKind) (m n : Int) : (eqGuard op t x y (.int k m) (.int j n)).run P w = .ok () w := by
  cases op <;> simp [eqGuard]
theorem run_guard_bool (op : BinOp) (t : TypeId) (x y : Operand) (m n : Bool) : (eqGuard op t x y (.bool m) (.bool n)).run P w = .ok () w := by
  cases op <;> simp [eqGuard]

theorem kindEq_eq {j k : IntKind} (h : kindEq j k = true) : j = k := by cases j <;> cases k <;> first | rfl | cases h

theorem isCst_of {x : Operand} : isCst x = true ∨ isCst x = false := by cases isCst x <;> simp

theorem arith_ok (hh : HRel wr env H w) {op : BinOp} {cy : Bool} {k : IntKind} {m n : Int} {o : Oper}
    (hr : ∀ v, (binOp op 0 (.int k m) (.int k n)).run P w = .ok v w → (execOp a.eval o).run P w = .ok (.value v) w)
    (h : (arith op cy k m n).run T H = some δ) (hp : ∀ p, δ.ok = some p → p) : Good P wr env H a w o δ := by
  cases op <;> simp only [arith, ret1, retc, RM.run, Option.some.injEq, reduceCtorEq] at h
  case quo =>
    cases cy <;> simp only [RM.run, Option.some.injEq] at h
    · subst h
      have hn : n ≠ 0 := hp _ rfl
      exact good_pure hh (hr _ (by simp [binOp, Op.intDiv, hn])) rfl
    · cases hn : n == 0 <;> simp only [hn, RM.run, Option.some.injEq, reduceCtorEq] at h
      subst h
      have hn' : n ≠ 0 := by simpa using hn
      exact good_pure hh (hr _ (by simp [binOp, Op.intDiv, hn'])) rfl
  case rem =>
    cases cy <;> simp only [RM.run, Option.some.injEq] at h
    · subst h
      have hn : n ≠ 0 := hp _ rfl
      exact good_pure hh (hr _ (by simp [binOp, Op.intDiv, hn])) rfl
    · cases hn : n == 0 <;> simp only [hn, RM.run, Option.some.injEq, reduceCtorEq] at h
      subst h
      have hn' : n ≠ 0 := by simpa using hn
      exact good_pure hh (hr _ (by simp [binOp, Op.intDiv, hn'])) rfl
  case shr =>
    cases cy <;> cases hn : n == 1 <;> simp only [hn, RM.run, Option.some.injEq, reduceCtorEq] at h
    subst h
    have hn' : n = 1 := by simpa using hn
    subst hn'
    have hb : min 1 k.bits = 1 := by cases k <;> rfl
    exact good_pure hh (hr _ (by simp [binOp, Op.shift, hb])) rfl
  all_goals
    subst h
    exact good_pure hh (hr _ (by simp [binOp, Op.intArith, Op.intBits, Op.intCmp])) rfl

/-! ### '==' of structs -/

def eqV : List SV → List SV → Bool
  | .int _ a :: r, .int _ b :: s => (a == b) && eqV r s
  | .bool a :: r, .bool b :: s => (a == b) && eqV r s
  | _, _ => true

theorem eqCells_eqV : ∀ {xs ys : List SV} {b : Bool}, eqCells xs ys = some b → b = eqV xs ys
  | [], [], b, h => by simp [eqCells] at h; simp [eqV, h]
  | .int j a :: r, .int k c :: s, b, h => by
    unfold eqCells at h
    split at h
    · simp at h; simp [eqV, h]
    · cases e : eqCells r s with
      | none => simp [e] at h
      | some t =>
        simp [e] at h
        rw [← h, eqCells_eqV e]
        rfl
  | .bool a :: r, .bool c :: s, b, h => by
    unfold eqCells at h
    split at h
    · simp at h; simp [eqV, h]
    · cases e : eqCells r s with
      | none => simp [e] at h
      | some t =>
        simp [e] at h
        rw [← h, eqCells_eqV e]
        rfl

/-- Cells of such kinds. -/
def TyK : List (Option IntKind) → List SV → Prop
  | [], [] => True
  | some k :: r, .int j _ :: s => j = k ∧ TyK r s
  | none :: r, .bool _ :: s => TyK r s
  | _, _ => False

theorem tyK_of {zs : List SV} : ∀ {xs : List SV}, sameKinds zs xs = true → TyK (kindsOf zs) xs := by
  induction zs with
  | nil => intro xs h; cases xs <;> first | trivial | (cases h)
  | cons z r ih =>
    intro xs h
    cases z <;> cases xs <;> try (cases h)
    · rename_i k n x s
      cases x <;> try (cases h)
      rename_i j m
      simp only [sameKinds] at h
      cases e : kindEq k j with
      | false => simp [e] at h
      | true =>
        simp only [e] at h
        exact ⟨(kindEq_eq e).symm, ih h⟩
    · rename_i b x s
      cases x <;> try (cases h)
      exact ih (by simpa [sameKinds] using h)

theorem TyK.length : ∀ {ks : List (Option IntKind)} {xs : List SV}, TyK ks xs → xs.length = ks.length
  | [], [], _ => rfl
  | some _ :: _, .int _ _ :: _, h => by simp [TyK.length h.2]
  | none :: r, .bool _ :: s, h => by simp [TyK.length (ks := r) (xs := s) h]

theorem TyK.append : ∀ {k1 k2 : List (Option IntKind)} {xs : List SV}, TyK (k1 ++ k2) xs → TyK k1 (xs.take k1.length) ∧ TyK k2 (xs.drop k1.length)
  | [], k2, xs, h => ⟨by simp [TyK], h⟩
  | some k :: r, k2, .int j n :: s, h => by
    obtain ⟨h1, h2⟩ := TyK.append (k1 := r) (k2 := k2) (xs := s) h.2
    exact ⟨⟨h.1, h1⟩, h2⟩
  | none :: r, k2, .bool b :: s, h => TyK.append (k1 := r) (k2 := k2) (xs := s) h
  | some k :: r, k2, [], h => h.elim
  | none :: r, k2, [], h => h.elim

theorem eqV_append : ∀ {ks : List (Option IntKind)} {xs ys : List SV} {us vs : List SV}, TyK ks xs → TyK ks ys → eqV (xs ++ us) (ys ++ vs) = (eqV xs ys && eqV us vs)
  | [], [], [], us, vs, _, _ => by simp [eqV]
  | some _ :: r, .int _ a :: s, .int _ b :: t, us, vs, h, g => by
    simp only [List.cons_append, eqV, eqV_append (us := us) (vs := vs) h.2 g.2, Bool.and_assoc]
  | none :: r, .bool a :: s, .bool b :: t, us, vs, h, g => by
    simp only [List.cons_append, eqV, eqV_append (ks := r) (us := us) (vs := vs) h g, Bool.and_assoc]

def aggDesc : TypeDesc → Bool
  | .struct _ => true
  | .array _ _ => true
  | _ => false

theorem run_isAgg {t : TypeId} {u : TypeDesc} (h : P.underlying t = some u) : (isAgg t).run P w = .ok (aggDesc u) w := by
  unfold isAgg
  simp only [Sem.run_bind, run_underlying h, Result.andThen_ok]
  cases u <;> rfl

def valOf (g : Bool) (xs : List SV) : Value := match g with
  | true => .agg (xs.map svl).toArray
  | false => svl (xs.headD .any)

theorem sizeOf_run {t : TypeId} {n : Nat} (h : P.cellsOf t = n) (h0 : 0 < n) : (sizeOf t).run P w = .ok n w := by
  unfold Program.cellsOf at h
  cases e : P.info? t with
  | none => simp [e] at h; omega
  | some i => simp [e] at h; simp [sizeOf, typeInfo, e, h]

theorem flatK_pos {d t : Nat} {ks : List (Option IntKind)} (h : flatK P d t = some ks) : ∃ u, P.underlying t = some u ∧ (aggDesc u = false → ks.length = 1) := by
  cases d with
  | zero => simp [flatK] at h
  | succ d =>
    unfold flatK at h
    split at h
    · rename_i k hu; cases h; exact ⟨_, hu, fun _ => rfl⟩
    · rename_i hu; cases h; exact ⟨_, hu, fun _ => rfl⟩
    · rename_i fs hu; exact ⟨_, hu, fun q => by simp [aggDesc] at q⟩
    · cases h

end

section
variable {P : Program}

theorem run_part {t : TypeId} {u : TypeDesc} {w : World} {xs : List SV} {o n : Nat} (hu : P.underlying t = some u) (hc : P.cellsOf t = n) (h0 : 0 < n) (hn : aggDesc u = false → n = 1) (hl : o + n ≤ xs.length) :
    (part t (xs.map svl).toArray o).run P w = .ok (valOf (aggDesc u) ((xs.drop o).take n)) w := by
  unfold part
  simp only [Sem.run_bind, run_isAgg hu, Result.andThen_ok, Sem.run_ite]
  cases e : aggDesc u with
  | true =>
    simp only [if_true, sizeOf_run hc h0, Result.andThen_ok, Sem.run_pure]
    congr 2
    apply Array.ext'
    simp [List.map_take, List.map_drop]
  | false =>
    have h1 := hn e
    subst h1
    have : o < xs.length := by omega
    simp only [Bool.false_eq_true, if_false]
    have hg : (xs.map svl).toArray[o]? = some (svl xs[o]) := by simp [this]
    rw [hg]
    simp only [Sem.run_pure, valOf]
    congr 2
    rw [List.drop_eq_getElem_cons this]
    rfl

theorem eqFields_flat (d D : Nat) (ih : ∀ t ks, flatK P d t = some ks → ∀ (w : World) xs ys, TyK ks xs → TyK ks ys → ∀ u, P.underlying t = some u → (Op.equalIn D t (valOf (aggDesc u) xs) (valOf (aggDesc u) ys)).run P w = .ok (eqV xs ys) w) :
    ∀ (fs : List Field) (acc ks : List (Option IntKind)), flatFs P (flatK P d) fs acc = some ks → ∀ (w : World) (xs ys : List SV), TyK ks xs → TyK ks ys →
      (Op.eqFields D (xs.map svl).toArray (ys.map svl).toArray fs).run P w = .ok (eqV (xs.drop acc.length) (ys.drop acc.length)) w
  | [], acc, ks, h, w, xs, ys, hx, hy => by
    simp only [flatFs, Option.some.injEq] at h
    subst h
    rw [List.drop_eq_nil_of_le (by rw [hx.length]; exact Nat.le_refl _), List.drop_eq_nil_of_le (by rw [hy.length]; exact Nat.le_refl _)]
    simp [Op.eqFields, eqV]
  | f :: r, acc, ks, h, w, xs, ys, hx, hy => by
    unfold flatFs at h
    split at h
    case isFalse => cases h
    rename_i hf
    split at h
    case h_2 => cases h
    rename_i kf hkf
    split at h
    case isFalse => cases h
    rename_i hcell'
    obtain ⟨hcell, hpos⟩ := hcell'
    obtain ⟨u, hu, hone⟩ := flatK_pos hkf
    have key : ∀ (fs : List Field) (acc ks : List (Option IntKind)), flatFs P (flatK P d) fs acc = some ks → ∃ z, ks = acc ++ z := by
      intro fs
      induction fs with
      | nil => intro acc ks h; simp only [flatFs, Option.some.injEq] at h; exact ⟨[], by simp [h]⟩
      | cons f r ih' =>
        intro acc ks h
        unfold flatFs at h
        split at h
        case isFalse => cases h
        split at h
        case h_2 => cases h
        split at h
        case isFalse => cases h
        obtain ⟨z, hz⟩ := ih' _ _ h
        exact ⟨_, by rw [hz, List.append_assoc]⟩
    obtain ⟨z, hz⟩ := key _ _ _ h
    have hx' := hx
    have hy' := hy
    rw [hz, List.append_assoc] at hx' hy'
    have ax := (TyK.append hx').2
    have ay := (TyK.append hy').2
    have bx := (TyK.append ax).1
    have by' := (TyK.append ay).1
    have lx := hx.length
    have ly := hy.length
    rw [hz] at lx ly
    simp only [List.length_append] at lx ly
    have px := run_part (w := w) (xs := xs) (o := f.offset) hu hcell hpos hone (by rw [hf.2]; omega)
    have py := run_part (w := w) (xs := ys) (o := f.offset) hu hcell hpos hone (by rw [hf.2]; omega)
    have he := ih _ _ hkf w _ _ bx by' u hu
    rw [← hf.2] at he
    have hrec := eqFields_flat d D ih r (acc ++ kf) ks h w xs ys hx hy
    simp only [Op.eqFields]
    rw [if_pos hf.1]
    simp only [Sem.run_bind, px, py, Result.andThen_ok, he, Sem.run_ite, Sem.run_pure, hrec]
    have sx : xs.drop acc.length = (xs.drop acc.length).take kf.length ++ xs.drop (acc ++ kf).length := by
      conv => lhs; rw [← List.take_append_drop kf.length (xs.drop acc.length)]
      rw [List.drop_drop, List.length_append]
    have sy : ys.drop acc.length = (ys.drop acc.length).take kf.length ++ ys.drop (acc ++ kf).length := by
      conv => lhs; rw [← List.take_append_drop kf.length (ys.drop acc.length)]
      rw [List.drop_drop, List.length_append]
    rw [hf.2, sx, sy, eqV_append bx by']
    simp only [← sx, ← sy]
    cases eqV ((xs.drop acc.length).take kf.length) ((ys.drop acc.length).take kf.length) <;> simp

theorem equalIn_flat : ∀ (d D : Nat), d ≤ D → ∀ t ks, flatK P d t = some ks → ∀ (w : World) xs ys, TyK ks xs → TyK ks ys → ∀ u, P.underlying t = some u →
    (Op.equalIn D t (valOf (aggDesc u) xs) (valOf (aggDesc u) ys)).run P w = .ok (eqV xs ys) w
  | 0, _, _, _, _, h, _, _, _, _, _, _, _ => by simp [flatK] at h
  | d + 1, 0, hd, _, _, _, _, _, _, _, _, _, _ => by omega
  | d + 1, D + 1, hd, t, ks, h, w, xs, ys, hx, hy, u, hu => by
    unfold flatK at h
    split at h
    · rename_i k hk
      rw [hk] at hu
      cases hu
      cases h
      cases xs with
      | nil => exact hx.elim
      | cons x r =>
        cases ys with
        | nil => exact hy.elim
        | cons y s =>
          cases x <;> try exact hx.elim
          cases y <;> try exact hy.elim
          cases r <;> try exact hx.2.elim
          cases s <;> try exact hy.2.elim
          rename_i k1 a k2 b
          have h1 : k1 = k := hx.1
          have h2 : k2 = k := hy.1
          subst h1
          subst h2
          simp only [aggDesc, valOf, List.headD, svl]
          rw [run_equalIn_int w D t k2 k2 a b hk]
          simp [eqV]
    · rename_i hk
      rw [hk] at hu
      cases hu
      cases h
      cases xs with
      | nil => exact hx.elim
      | cons x r =>
        cases ys with
        | nil => exact hy.elim
        | cons y s =>
          cases x <;> try exact hx.elim
          cases y <;> try exact hy.elim
          cases r <;> try exact hx.elim
          cases s <;> try exact hy.elim
          rename_i a b
          simp only [aggDesc, valOf, List.headD, svl]
          rw [run_equalIn_bool' w D t a b hk]
          simp [eqV]
    · rename_i fs hk
      rw [hk] at hu
      cases hu
      split at h
      case isTrue => cases h
      rename_i hs
      have hf : P.fieldsOf t = fs := by simp [Program.fieldsOf, hk]
      simp only [aggDesc, valOf]
      rw [run_equalIn_struct w D t _ _ (by rw [hk, hf]) (by simpa using hs), hf]
      have := eqFields_flat d D (fun t ks h => equalIn_flat d D (by omega) t ks h) fs.toList [] ks h w xs ys hx hy
      simpa using this
    · cases h

variable {wr : Nat → Prop} {env : Env} {H : Hp} {a : Act} {w : World} {T : Nat → SV} {δ : Delta}

theorem concCs_svl {ks : List (Option IntKind)} : ∀ {xs : List SV} {vs : List Value}, TyK ks xs → concCs env H xs vs → vs = xs.map svl := by
  induction ks with
  | nil =>
    intro xs vs h hc
    cases xs with
    | nil => cases vs with
      | nil => rfl
      | cons _ _ => exact hc.elim
    | cons _ _ => exact h.elim
  | cons k r ih =>
    intro xs vs h hc
    cases xs with
    | nil => cases k <;> exact h.elim
    | cons x s =>
      cases vs with
      | nil => exact hc.elim
      | cons v t =>
        cases k with
        | some k =>
          cases x <;> try exact h.elim
          have h1 : v = _ := hc.1
          rw [h1, ih h.2 hc.2]
          rfl
        | none =>
          cases x <;> try exact h.elim
          have h1 : v = _ := hc.1
          have h2 : TyK r s := h
          rw [h1, ih h2 hc.2]
          rfl

theorem typeOk_flat {t : Nat} {i : TI} (h : typeOk P t i = true) (hf : i.flat = true) :
    flatK P 6 t = some (kindsOf i.zero) ∧ P.eqGuardType P.depth t = false ∧ ∃ fs, P.underlying t = some (.struct fs) := by
  unfold typeOk at h
  split at h
  case h_2 => cases h
  rename_i n u hn hu
  simp only [Bool.and_eq_true] at h
  obtain ⟨_, h⟩ := h
  split at h
  · rename_i fs
    simp only [Bool.and_eq_true, Bool.or_eq_true, Bool.not_eq_true', hf, false_or, Bool.true_eq_false, beq_iff_eq] at h
    exact ⟨h.2.1, h.2.2, fs, hu⟩
  all_goals simp [hf] at h

theorem typeOk_bool {t : Nat} {i : TI} (h : typeOk P t i = true) (ha : i.agg = false) {b : Bool} (hz : i.zero = [.bool b]) : P.underlying t = some .bool := by
  unfold typeOk at h
  split at h
  case h_2 => cases h
  rename_i n u hn hu
  simp only [Bool.and_eq_true] at h
  obtain ⟨_, h⟩ := h
  split at h
  case h_4 => exact hu
  all_goals simp [ha, hz, zNilsl, zInt, zNilp] at h

theorem bin_ok (hh : HRel wr env H w) (hs : ∀ d, conc env H (T d) (a.tmps.getD d undef)) {tt : Types} (ht : TabOk P tt) {S : Tab} {d : Nat} {op : BinOp} {x y : Operand} {t u : Nat} {ty : Nat} {pos : String} {af : Array Edge} {g : Option (Nat × Bool)}
    (h : (evOp tt S ⟨some d, .binOp op t x y u, ty, pos, af, g⟩).run T H = some δ) (hp : ∀ p, δ.ok = some p → p) : Good P wr env H a w ⟨some d, .binOp op t x y u, ty, pos, af, g⟩ δ := by
  simp only [evOp] at h
  obtain ⟨s1, q, h1⟩ := opv_inv hs h
  clear h
  obtain ⟨s2, h, h2⟩ := opv_inv hs q
  clear q
  obtain ⟨i, hi, q⟩ := tiOf_inv h
  clear h
  unfold bin at q
  split at q
  · rename_i k m j n
    split at q
    case h_2 => simp [RM.run] at q
    rename_i hk
    have := kindEq_eq hk
    subst this
    have e1 := conc_int h1
    have e2 := conc_int h2
    refine arith_ok hh ?_ q hp
    intro v hv
    have hv' : (binOp op t (.int k m) (.int k n)).run P w = .ok v w := by
      rw [← hv]
      cases op <;> rfl
    simp [execOp, e1, e2, run_guard_int, hv']
  · rename_i b c
    have e1 := conc_bool h1
    have e2 := conc_bool h2
    split at q
    case h_2 => simp [RM.run] at q
    rename_i z hz ha
    have hu := typeOk_bool (ht _ _ hi) hz ha
    cases op <;> simp only [ret1, RM.run, Option.some.injEq, reduceCtorEq] at q
    all_goals
      subst q
      exact good_pure hh (by simp [execOp, e1, e2, run_guard_bool, binOp, Op.equal, Op.maxDepth, run_equalIn_bool' w 9999 t b c hu]) rfl
  · rename_i xs ys
    unfold aggEq at q
    split at q
    case h_2 => simp [RM.run] at q
    rename_i b hf hx hy he
    obtain ⟨xv, e1, c1⟩ := h1
    obtain ⟨yv, e2, c2⟩ := h2
    obtain ⟨hk, hg, fs, hu⟩ := typeOk_flat (ht _ _ hi) hf
    have k1 := tyK_of hx
    have k2 := tyK_of hy
    have v1 := concCs_svl k1 c1
    have v2 := concCs_svl k2 c2
    have := equalIn_flat 6 10000 (by omega) t _ hk w xs ys k1 k2 _ hu
    simp only [valOf, aggDesc, ← v1, ← v2, Array.toArray_toList] at this
    have hb := eqCells_eqV he
    subst hb
    cases op <;> simp only [ret1, RM.run, Option.some.injEq, reduceCtorEq] at q
    · subst q
      exact good_pure hh (by simp [execOp, e1, e2, run_eqGuard_agg w _ _ _ _ _ _ hg, run_eql_struct, this]) rfl
    · subst q
      exact good_pure hh (by simp [execOp, e1, e2, run_eqGuard_agg w _ _ _ _ _ _ hg, run_neq_struct, this]) rfl
  · simp [RM.run] at q

end

end Go.Proofs.Ytmflfpedmbfhkaa.Sym
