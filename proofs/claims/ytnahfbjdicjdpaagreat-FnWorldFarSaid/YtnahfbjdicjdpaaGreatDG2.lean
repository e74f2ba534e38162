/-
  What the rows of this claim stand on, part 2: the machine, the walks, the plain laws, as far as they are used.
  No condition.
-/
import Derived.Test.YtnahfbjdicjdpaaGreatDG1
import Derived.Laws.StructEq
import Derived.Laws.AppendOwn
import Derived.Laws.OwnMore
import Derived.Laws.MakeOwn
import Derived.Laws.CopyRow
namespace Go.Proofs.YtnahfbjdicjdpaaGreat.Sym
open Go
set_option linter.unusedVariables false
set_option linter.unusedSimpArgs false

section
variable {P : Program} {wr : Nat → Prop} {env : Env} {H : Hp} {a : Act} {w : World} {T : Nat → SV} {δ : Delta}

theorem run_guard_int (op : BinOp) (t : TypeId) (x y : Operand) (k j : IntKind) (m n : Int) : (eqGuard op t x y (.int k m) (.int j n)).run P w = .ok () w := by
  cases op <;> simp [eqGuard]
theorem run_guard_bool (op : BinOp) (t : TypeId) (x y : Operand) (m n : Bool) : (eqGuard op t x y (.bool m) (.bool n)).run P w = .ok () w := by
  cases op <;> simp [eqGuard]

theorem kindEq_eq {j k : IntKind} (h : kindEq j k = true) : j = k := by cases j <;> cases k <;> first | rfl | cases h

theorem isCst_of {x : Operand} : isCst x = true ∨ isCst x = false := by cases isCst x <;> simp

theorem arith_ok (hh : HRel wr env H w) {op : BinOp} {cy : Bool} {k : IntKind} {m n : Int} {o : Oper}
    (hr : ∀ v, (binOp op 0 (.int k m) (.int k n)).run P w = .ok v w → (execOp a.eval o).run P w = .ok (.value v) w)
    (h : (arith op cy k m n).run T H = some δ) (hp : ∀ p, δ.ok = some p → p) : Good P wr env H a w o δ := by
  cases op <;> simp only [arith, ret1, retc, RM.run, Option.some.injEq, reduceCtorEq] at h
  case quo =>
    cases cy <;> simp only [RM.run, Option.some.injEq] at h
    · subst h
      have hn : n ≠ 0 := hp _ rfl
      exact good_pure hh (hr _ (by simp [binOp, Op.intDiv, hn])) rfl
    · cases hn : n == 0 <;> simp only [hn, RM.run, Option.some.injEq, reduceCtorEq] at h
      subst h
      have hn' : n ≠ 0 := by simpa using hn
      exact good_pure hh (hr _ (by simp [binOp, Op.intDiv, hn'])) rfl
  case rem =>
    cases cy <;> simp only [RM.run, Option.some.injEq] at h
    · subst h
      have hn : n ≠ 0 := hp _ rfl
      exact good_pure hh (hr _ (by simp [binOp, Op.intDiv, hn])) rfl
    · cases hn : n == 0 <;> simp only [hn, RM.run, Option.some.injEq, reduceCtorEq] at h
      subst h
      have hn' : n ≠ 0 := by simpa using hn
      exact good_pure hh (hr _ (by simp [binOp, Op.intDiv, hn'])) rfl
  case shr =>
    cases cy <;> cases hn : n == 1 <;> simp only [hn, RM.run, Option.some.injEq, reduceCtorEq] at h
    subst h
    have hn' : n = 1 := by simpa using hn
    subst hn'
    have hb : min 1 k.bits = 1 := by cases k <;> rfl
    exact good_pure hh (hr _ (by simp [binOp, Op.shift, hb])) rfl
  all_goals
    subst h
    exact good_pure hh (hr _ (by simp [binOp, Op.intArith, Op.intBits, Op.intCmp])) rfl

def eqV : List SV → List SV → Bool
  | .int _ a :: r, .int _ b :: s => (a == b) && eqV r s
  | .bool a :: r, .bool b :: s => (a == b) && eqV r s
  | _, _ => true

theorem eqCells_eqV : ∀ {xs ys : List SV} {b : Bool}, eqCells xs ys = some b → b = eqV xs ys
  | [], [], b, h => by simp [eqCells] at h; simp [eqV, h]
  | .int j a :: r, .int k c :: s, b, h => by
    unfold eqCells at h
    split at h
    · simp at h; simp [eqV, h]
    · cases e : eqCells r s with
      | none => simp [e] at h
      | some t =>
        simp [e] at h
        rw [← h, eqCells_eqV e]
        rfl
  | .bool a :: r, .bool c :: s, b, h => by
    unfold eqCells at h
    split at h
    · simp at h; simp [eqV, h]
    · cases e : eqCells r s with
      | none => simp [e] at h
      | some t =>
        simp [e] at h
        rw [← h, eqCells_eqV e]
        rfl

/-- Cells of such kinds. -/
def TyK : List (Option IntKind) → List SV → Prop
  | [], [] => True
  | some k :: r, .int j _ :: s => j = k ∧ TyK r s
  | none :: r, .bool _ :: s => TyK r s
  | _, _ => False

theorem tyK_of {zs : List SV} : ∀ {xs : List SV}, sameKinds zs xs = true → TyK (kindsOf zs) xs := by
  induction zs with
  | nil => intro xs h; cases xs <;> first | trivial | (cases h)
  | cons z r ih =>
    intro xs h
    cases z <;> cases xs <;> try (cases h)
    · rename_i k n x s
      cases x <;> try (cases h)
      rename_i j m
      simp only [sameKinds] at h
      cases e : kindEq k j with
      | false => simp [e] at h
      | true =>
        simp only [e] at h
        exact ⟨(kindEq_eq e).symm, ih h⟩
    · rename_i b x s
      cases x <;> try (cases h)
      exact ih (by simpa [sameKinds] using h)

theorem TyK.length : ∀ {ks : List (Option IntKind)} {xs : List SV}, TyK ks xs → xs.length = ks.length
  | [], [], _ => rfl
  | some _ :: _, .int _ _ :: _, h => by simp [TyK.length h.2]
  | none :: r, .bool _ :: s, h => by simp [TyK.length (ks := r) (xs := s) h]

theorem TyK.append : ∀ {k1 k2 : List (Option IntKind)} {xs : List SV}, TyK (k1 ++ k2) xs → TyK k1 (xs.take k1.length) ∧ TyK k2 (xs.drop k1.length)
  | [], k2, xs, h => ⟨by simp [TyK], h⟩
  | some k :: r, k2, .int j n :: s, h => by
    obtain ⟨h1, h2⟩ := TyK.append (k1 := r) (k2 := k2) (xs := s) h.2
    exact ⟨⟨h.1, h1⟩, h2⟩
  | none :: r, k2, .bool b :: s, h => TyK.append (k1 := r) (k2 := k2) (xs := s) h
  | some k :: r, k2, [], h => h.elim
  | none :: r, k2, [], h => h.elim

theorem eqV_append : ∀ {ks : List (Option IntKind)} {xs ys : List SV} {us vs : List SV}, TyK ks xs → TyK ks ys → eqV (xs ++ us) (ys ++ vs) = (eqV xs ys && eqV us vs)
  | [], [], [], us, vs, _, _ => by simp [eqV]
  | some _ :: r, .int _ a :: s, .int _ b :: t, us, vs, h, g => by
    simp only [List.cons_append, eqV, eqV_append (us := us) (vs := vs) h.2 g.2, Bool.and_assoc]
  | none :: r, .bool a :: s, .bool b :: t, us, vs, h, g => by
    simp only [List.cons_append, eqV, eqV_append (ks := r) (us := us) (vs := vs) h g, Bool.and_assoc]

def aggDesc : TypeDesc → Bool
  | .struct _ => true
  | .array _ _ => true
  | _ => false

theorem run_isAgg {t : TypeId} {u : TypeDesc} (h : P.underlying t = some u) : (isAgg t).run P w = .ok (aggDesc u) w := by
  unfold isAgg
  simp only [Sem.run_bind, run_underlying h, Result.andThen_ok]
  cases u <;> rfl

def valOf (g : Bool) (xs : List SV) : Value := match g with
  | true => .agg (xs.map svl).toArray
  | false => svl (xs.headD .any)

theorem sizeOf_run {t : TypeId} {n : Nat} (h : P.cellsOf t = n) (h0 : 0 < n) : (sizeOf t).run P w = .ok n w := by
  unfold Program.cellsOf at h
  cases e : P.info? t with
  | none => simp [e] at h; omega
  | some i => simp [e] at h; simp [sizeOf, typeInfo, e, h]

theorem flatK_pos {d t : Nat} {ks : List (Option IntKind)} (h : flatK P d t = some ks) : ∃ u, P.underlying t = some u ∧ (aggDesc u = false → ks.length = 1) := by
  cases d with
  | zero => simp [flatK] at h
  | succ d =>
    unfold flatK at h
    split at h
    · rename_i k hu; cases h; exact ⟨_, hu, fun _ => rfl⟩
    · rename_i hu; cases h; exact ⟨_, hu, fun _ => rfl⟩
    · rename_i fs hu; exact ⟨_, hu, fun q => by simp [aggDesc] at q⟩
    · cases h

end

section
variable {P : Program}

theorem run_part {t : TypeId} {u : TypeDesc} {w : World} {xs : List SV} {o n : Nat} (hu : P.underlying t = some u) (hc : P.cellsOf t = n) (h0 : 0 < n) (hn : aggDesc u = false → n = 1) (hl : o + n ≤ xs.length) :
    (part t (xs.map svl).toArray o).run P w = .ok (valOf (aggDesc u) ((xs.drop o).take n)) w := by
  unfold part
  simp only [Sem.run_bind, run_isAgg hu, Result.andThen_ok, Sem.run_ite]
  cases e : aggDesc u with
  | true =>
    simp only [if_true, sizeOf_run hc h0, Result.andThen_ok, Sem.run_pure]
    congr 2
    apply Array.ext'
    simp [List.map_take, List.map_drop]
  | false =>
    have h1 := hn e
    subst h1
    have : o < xs.length := by omega
    simp only [Bool.false_eq_true, if_false]
    have hg : (xs.map svl).toArray[o]? = some (svl xs[o]) := by simp [this]
    rw [hg]
    simp only [Sem.run_pure, valOf]
    congr 2
    rw [List.drop_eq_getElem_cons this]
    rfl

theorem eqFields_flat (d D : Nat) (ih : ∀ t ks, flatK P d t = some ks → ∀ (w : World) xs ys, TyK ks xs → TyK ks ys → ∀ u, P.underlying t = some u → (Op.equalIn D t (valOf (aggDesc u) xs) (valOf (aggDesc u) ys)).run P w = .ok (eqV xs ys) w) :
    ∀ (fs : List Field) (acc ks : List (Option IntKind)), flatFs P (flatK P d) fs acc = some ks → ∀ (w : World) (xs ys : List SV), TyK ks xs → TyK ks ys →
      (Op.eqFields D (xs.map svl).toArray (ys.map svl).toArray fs).run P w = .ok (eqV (xs.drop acc.length) (ys.drop acc.length)) w
  | [], acc, ks, h, w, xs, ys, hx, hy => by
    simp only [flatFs, Option.some.injEq] at h
    subst h
    rw [List.drop_eq_nil_of_le (by rw [hx.length]; exact Nat.le_refl _), List.drop_eq_nil_of_le (by rw [hy.length]; exact Nat.le_refl _)]
    simp [Op.eqFields, eqV]
  | f :: r, acc, ks, h, w, xs, ys, hx, hy => by
    unfold flatFs at h
    split at h
    case isFalse => cases h
    rename_i hf
    split at h
    case h_2 => cases h
    rename_i kf hkf
    split at h
    case isFalse => cases h
    rename_i hcell'
    obtain ⟨hcell, hpos⟩ := hcell'
    obtain ⟨u, hu, hone⟩ := flatK_pos hkf
    have key : ∀ (fs : List Field) (acc ks : List (Option IntKind)), flatFs P (flatK P d) fs acc = some ks → ∃ z, ks = acc ++ z := by
      intro fs
      induction fs with
      | nil => intro acc ks h; simp only [flatFs, Option.some.injEq] at h; exact ⟨[], by simp [h]⟩
      | cons f r ih' =>
        intro acc ks h
        unfold flatFs at h
        split at h
        case isFalse => cases h
        split at h
        case h_2 => cases h
        split at h
        case isFalse => cases h
        obtain ⟨z, hz⟩ := ih' _ _ h
        exact ⟨_, by rw [hz, List.append_assoc]⟩
    obtain ⟨z, hz⟩ := key _ _ _ h
    have hx' := hx
    have hy' := hy
    rw [hz, List.append_assoc] at hx' hy'
    have ax := (TyK.append hx').2
    have ay := (TyK.append hy').2
    have bx := (TyK.append ax).1
    have by' := (TyK.append ay).1
    have lx := hx.length
    have ly := hy.length
    rw [hz] at lx ly
    simp only [List.length_append] at lx ly
    have px := run_part (w := w) (xs := xs) (o := f.offset) hu hcell hpos hone (by rw [hf.2]; omega)
    have py := run_part (w := w) (xs := ys) (o := f.offset) hu hcell hpos hone (by rw [hf.2]; omega)
    have he := ih _ _ hkf w _ _ bx by' u hu
    rw [← hf.2] at he
    have hrec := eqFields_flat d D ih r (acc ++ kf) ks h w xs ys hx hy
    simp only [Op.eqFields]
    rw [if_pos hf.1]
    simp only [Sem.run_bind, px, py, Result.andThen_ok, he, Sem.run_ite, Sem.run_pure, hrec]
    have sx : xs.drop acc.length = (xs.drop acc.length).take kf.length ++ xs.drop (acc ++ kf).length := by
      conv => lhs; rw [← List.take_append_drop kf.length (xs.drop acc.length)]
      rw [List.drop_drop, List.length_append]
    have sy : ys.drop acc.length = (ys.drop acc.length).take kf.length ++ ys.drop (acc ++ kf).length := by
      conv => lhs; rw [← List.take_append_drop kf.length (ys.drop acc.length)]
      rw [List.drop_drop, List.length_append]
    rw [hf.2, sx, sy, eqV_append bx by']
    simp only [← sx, ← sy]
    cases eqV ((xs.drop acc.length).take kf.length) ((ys.drop acc.length).take kf.length) <;> simp

theorem equalIn_flat : ∀ (d D : Nat), d ≤ D → ∀ t ks, flatK P d t = some ks → ∀ (w : World) xs ys, TyK ks xs → TyK ks ys → ∀ u, P.underlying t = some u →
    (Op.equalIn D t (valOf (aggDesc u) xs) (valOf (aggDesc u) ys)).run P w = .ok (eqV xs ys) w
  | 0, _, _, _, _, h, _, _, _, _, _, _, _ => by simp [flatK] at h
  | d + 1, 0, hd, _, _, _, _, _, _, _, _, _, _ => by omega
  | d + 1, D + 1, hd, t, ks, h, w, xs, ys, hx, hy, u, hu => by
    unfold flatK at h
    split at h
    · rename_i k hk
      rw [hk] at hu
      cases hu
      cases h
      cases xs with
      | nil => exact hx.elim
      | cons x r =>
        cases ys with
        | nil => exact hy.elim
        | cons y s =>
          cases x <;> try exact hx.elim
          cases y <;> try exact hy.elim
          cases r <;> try exact hx.2.elim
          cases s <;> try exact hy.2.elim
          rename_i k1 a k2 b
          have h1 : k1 = k := hx.1
          have h2 : k2 = k := hy.1
          subst h1
          subst h2
          simp only [aggDesc, valOf, List.headD, svl]
          rw [run_equalIn_int w D t k2 k2 a b hk]
          simp [eqV]
    · rename_i hk
      rw [hk] at hu
      cases hu
      cases h
      cases xs with
      | nil => exact hx.elim
      | cons x r =>
        cases ys with
        | nil => exact hy.elim
        | cons y s =>
          cases x <;> try exact hx.elim
          cases y <;> try exact hy.elim
          cases r <;> try exact hx.elim
          cases s <;> try exact hy.elim
          rename_i a b
          simp only [aggDesc, valOf, List.headD, svl]
          rw [run_equalIn_bool' w D t a b hk]
          simp [eqV]
    · rename_i fs hk
      rw [hk] at hu
      cases hu
      split at h
      case isTrue => cases h
      rename_i hs
      have hf : P.fieldsOf t = fs := by simp [Program.fieldsOf, hk]
      simp only [aggDesc, valOf]
      rw [run_equalIn_struct w D t _ _ (by rw [hk, hf]) (by simpa using hs), hf]
      have := eqFields_flat d D (fun t ks h => equalIn_flat d D (by omega) t ks h) fs.toList [] ks h w xs ys hx hy
      simpa using this
    · cases h

variable {wr : Nat → Prop} {env : Env} {H : Hp} {a : Act} {w : World} {T : Nat → SV} {δ : Delta}

theorem concCs_svl {ks : List (Option IntKind)} : ∀ {xs : List SV} {vs : List Value}, TyK ks xs → concCs env H xs vs → vs = xs.map svl := by
  induction ks with
  | nil =>
    intro xs vs h hc
    cases xs with
    | nil => cases vs with
      | nil => rfl
      | cons _ _ => exact hc.elim
    | cons _ _ => exact h.elim
  | cons k r ih =>
    intro xs vs h hc
    cases xs with
    | nil => cases k <;> exact h.elim
    | cons x s =>
      cases vs with
      | nil => exact hc.elim
      | cons v t =>
        cases k with
        | some k =>
          cases x <;> try exact h.elim
          have h1 : v = _ := hc.1
          rw [h1, ih h.2 hc.2]
          rfl
        | none =>
          cases x <;> try exact h.elim
          have h1 : v = _ := hc.1
          have h2 : TyK r s := h
          rw [h1, ih h2 hc.2]
          rfl

theorem typeOk_flat {t : Nat} {i : TI} (h : typeOk P t i = true) (hf : i.flat = true) :
    flatK P 6 t = some (kindsOf i.zero) ∧ P.eqGuardType P.depth t = false ∧ ∃ fs, P.underlying t = some (.struct fs) := by
  unfold typeOk at h
  split at h
  case h_2 => cases h
  rename_i n u hn hu
  simp only [Bool.and_eq_true] at h
  obtain ⟨_, h⟩ := h
  split at h
  · rename_i fs
    simp only [Bool.and_eq_true, Bool.or_eq_true, Bool.not_eq_true', hf, false_or, Bool.true_eq_false, beq_iff_eq] at h
    exact ⟨h.2.1, h.2.2, fs, hu⟩
  all_goals simp [hf] at h

theorem typeOk_bool {t : Nat} {i : TI} (h : typeOk P t i = true) (ha : i.agg = false) {b : Bool} (hz : i.zero = [.bool b]) : P.underlying t = some .bool := by
  unfold typeOk at h
  split at h
  case h_2 => cases h
  rename_i n u hn hu
  simp only [Bool.and_eq_true] at h
  obtain ⟨_, h⟩ := h
  split at h
  case h_4 => exact hu
  all_goals simp [ha, hz, zNilsl, zInt, zNilp] at h

theorem bin_ok (hh : HRel wr env H w) (hs : ∀ d, conc env H (T d) (a.tmps.getD d undef)) {tt : Types} (ht : TabOk P tt) {S : Tab} {d : Nat} {op : BinOp} {x y : Operand} {t u : Nat} {ty : Nat} {pos : String} {af : Array Edge} {g : Option (Nat × Bool)}
    (h : (evOp tt S ⟨some d, .binOp op t x y u, ty, pos, af, g⟩).run T H = some δ) (hp : ∀ p, δ.ok = some p → p) : Good P wr env H a w ⟨some d, .binOp op t x y u, ty, pos, af, g⟩ δ := by
  simp only [evOp] at h
  obtain ⟨s1, q, h1⟩ := opv_inv hs h
  clear h
  obtain ⟨s2, h, h2⟩ := opv_inv hs q
  clear q
  obtain ⟨i, hi, q⟩ := tiOf_inv h
  clear h
  unfold bin at q
  split at q
  · rename_i k m j n
    split at q
    case h_2 => simp [RM.run] at q
    rename_i hk
    have := kindEq_eq hk
    subst this
    have e1 := conc_int h1
    have e2 := conc_int h2
    refine arith_ok hh ?_ q hp
    intro v hv
    have hv' : (binOp op t (.int k m) (.int k n)).run P w = .ok v w := by
      rw [← hv]
      cases op <;> rfl
    simp [execOp, e1, e2, run_guard_int, hv']
  · rename_i b c
    have e1 := conc_bool h1
    have e2 := conc_bool h2
    split at q
    case h_2 => simp [RM.run] at q
    rename_i z hz ha
    have hu := typeOk_bool (ht _ _ hi) hz ha
    cases op <;> simp only [ret1, RM.run, Option.some.injEq, reduceCtorEq] at q
    all_goals
      subst q
      exact good_pure hh (by simp [execOp, e1, e2, run_guard_bool, binOp, Op.equal, Op.maxDepth, run_equalIn_bool' w 9999 t b c hu]) rfl
  · rename_i xs ys
    unfold aggEq at q
    split at q
    case h_2 => simp [RM.run] at q
    rename_i b hf hx hy he
    obtain ⟨xv, e1, c1⟩ := h1
    obtain ⟨yv, e2, c2⟩ := h2
    obtain ⟨hk, hg, fs, hu⟩ := typeOk_flat (ht _ _ hi) hf
    have k1 := tyK_of hx
    have k2 := tyK_of hy
    have v1 := concCs_svl k1 c1
    have v2 := concCs_svl k2 c2
    have := equalIn_flat 6 10000 (by omega) t _ hk w xs ys k1 k2 _ hu
    simp only [valOf, aggDesc, ← v1, ← v2, Array.toArray_toList] at this
    have hb := eqCells_eqV he
    subst hb
    cases op <;> simp only [ret1, RM.run, Option.some.injEq, reduceCtorEq] at q
    · subst q
      exact good_pure hh (by simp [execOp, e1, e2, run_eqGuard_agg w _ _ _ _ _ _ hg, run_eql_struct, this]) rfl
    · subst q
      exact good_pure hh (by simp [execOp, e1, e2, run_eqGuard_agg w _ _ _ _ _ _ hg, run_neq_struct, this]) rfl
  · simp [RM.run] at q

end

end Go.Proofs.YtnahfbjdicjdpaaGreat.Sym

namespace Go.Proofs.YtnahfbjdicjdpaaGreat.Sym
open Go
set_option linter.unusedVariables false
set_option linter.unusedSimpArgs false

section
variable {P : Program} {wr : Nat → Prop} {env : Env} {H : Hp} {a : Act} {w : World} {T : Nat → SV} {δ : Delta}

theorem retO_inv {v : Option SV} (h : (retO v).run T H = some δ) : ∃ s, v = some s ∧ δ = ⟨none, s, []⟩ := by
  cases v with
  | none => simp [retO, RM.run] at h
  | some s => simp only [retO, ret1, RM.run, Option.some.injEq] at h; exact ⟨s, rfl, h.symm⟩

theorem conc2s_get : ∀ {vs : List SV} {us : List Value} {i : Nat} {s : SV}, conc2s env H vs us → vs[i]? = some s → ∃ u, us[i]? = some u ∧ conc2 env H s u
  | [], _, i, s, _, h => by simp at h
  | v :: r, [], i, s, h, _ => h.elim
  | v :: r, u :: t, 0, s, h, hi => by
    simp only [List.getElem?_cons_zero, Option.some.injEq] at hi
    subst hi
    exact ⟨u, rfl, h.1⟩
  | v :: r, u :: t, i + 1, s, h, hi => by
    simp only [List.getElem?_cons_succ] at hi
    obtain ⟨u', hu, hc⟩ := conc2s_get h.2 hi
    exact ⟨u', by simpa using hu, hc⟩

/-- A name whose block still stands. -/
def Live (H : Hp) (j : Nat) : Prop := (∃ r cs, H j = some (r, .box cs)) ∨ ∃ r T xs, H j = some (r, .vec T xs)

theorem alive_inv {α : Type} {j : Nat} {k : RM α} {r : α} (h : (alive j k).run T H = some r) : k.run T H = some r ∧ Live H j := by
  simp only [alive, RM.run] at h
  split at h
  · exact ⟨h, .inl ⟨_, _, by assumption⟩⟩
  · exact ⟨h, .inr ⟨_, _, _, by assumption⟩⟩
  · simp [RM.run] at h

theorem ptr_live {j e o : Nat} (h : Live H j) {v : Value} (hc : conc env H (.ptr j e o) v) : ∃ p, v = .pointer (some p) := by
  rcases h with ⟨r, cs, h⟩ | ⟨r, T, xs, h⟩
  · simp only [conc, conc2, concC, h] at hc
    obtain ⟨b, _, e⟩ := hc
    exact ⟨_, e⟩
  · simp only [conc, conc2, concC, h] at hc
    obtain ⟨b, off, _, _, e⟩ := hc
    exact ⟨_, e⟩

theorem un_ok (hh : HRel wr env H w) (hs : ∀ d, conc env H (T d) (a.tmps.getD d undef)) {tt : Types} {S : Tab} {d : Nat} {op : UnOp} {x : Operand} {t : Nat} {ty : Nat} {pos : String} {af : Array Edge} {g : Option (Nat × Bool)}
    (h : (evOp tt S ⟨some d, .unOp op t x, ty, pos, af, g⟩).run T H = some δ) : Good P wr env H a w ⟨some d, .unOp op t x, ty, pos, af, g⟩ δ := by
  simp only [evOp] at h
  obtain ⟨s, q, hc⟩ := opv_inv hs h
  clear h
  unfold un at q
  split at q
  · simp only [ret1, RM.run, Option.some.injEq] at q
    subst q
    have e := conc_int hc
    exact good_pure hh (by simp [execOp, e, Op.unary, Op.intArith]) rfl
  · simp only [ret1, RM.run, Option.some.injEq] at q
    subst q
    have e := conc_bool hc
    exact good_pure hh (by simp [execOp, e, Op.unary]) rfl
  · simp [RM.run] at q

theorem typeOk_int {t : Nat} {i : TI} (h : typeOk P t i = true) {k : IntKind} (hk : i.kind = some k) : P.underlying t = some (.int k) := by
  unfold typeOk at h
  split at h
  case h_2 => cases h
  rename_i n u hn hu
  simp only [Bool.and_eq_true] at h
  obtain ⟨_, h⟩ := h
  split at h
  case h_3 =>
    rename_i k'
    simp only [Bool.and_eq_true, hk, beq_iff_eq, Option.some.injEq] at h
    rw [hu, h.1.1.1.1.2]
  all_goals simp [hk] at h

theorem typeOk_some {t : Nat} {i : TI} (h : typeOk P t i = true) : ∃ n u, P.info? t = some n ∧ P.underlying t = some u ∧ n.size = i.size ∧ n.bytes = i.bytes ∧ i.zero.length = i.size ∧
    ∃ z, n.zero = some z ∧ zeroFits i.zero z.cells.toList = true ∧ (i.agg = true ↔ ∃ c, z = .agg c) := by
  unfold typeOk at h
  split at h
  case h_2 => cases h
  rename_i n u hn hu
  simp only [Bool.and_eq_true, beq_iff_eq] at h
  obtain ⟨⟨⟨⟨h1, h2⟩, h3⟩, h4⟩, _⟩ := h
  split at h4
  case h_2 => cases h4
  rename_i z hz
  refine ⟨n, u, hn, hu, h1, h2, h3, z, hz, ?_⟩
  simp only [Bool.and_eq_true] at h4
  refine ⟨h4.1, ?_⟩
  have := h4.2
  cases z <;> simp_all

theorem typeOk_agg {t : Nat} {i : TI} (h : typeOk P t i = true) : ∃ u, P.underlying t = some u ∧ aggDesc u = i.agg := by
  unfold typeOk at h
  split at h
  case h_2 => cases h
  rename_i n u hn hu
  simp only [Bool.and_eq_true] at h
  obtain ⟨_, h⟩ := h
  refine ⟨u, hu, ?_⟩
  split at h
  all_goals first | (cases h; done) | skip
  all_goals simp only [Bool.and_eq_true, Bool.not_eq_true'] at h
  all_goals simp [aggDesc, h]

theorem convert_ok (hh : HRel wr env H w) (hs : ∀ d, conc env H (T d) (a.tmps.getD d undef)) {tt : Types} (ht : TabOk P tt) {S : Tab} {d : Nat} {x : Operand} {t0 t : Nat} {ty : Nat} {pos : String} {af : Array Edge} {g : Option (Nat × Bool)}
    (h : (evOp tt S ⟨some d, .convert t0 t x, ty, pos, af, g⟩).run T H = some δ) : Good P wr env H a w ⟨some d, .convert t0 t x, ty, pos, af, g⟩ δ := by
  simp only [evOp] at h
  obtain ⟨i0, hi0, q⟩ := tiOf_inv h
  clear h
  obtain ⟨_, u, _, hs0, _⟩ := typeOk_some (ht _ _ hi0)
  obtain ⟨i, hi, h⟩ := tiOf_inv q
  clear q
  obtain ⟨s, q, hc⟩ := opv_inv hs h
  clear h
  have h := q
  clear q
  cases s <;> simp only [RM.run, reduceCtorEq] at h
  rename_i k n
  have e := conc_int hc
  split at h
  case h_2 => simp [RM.run] at h
  rename_i k' hk
  have hu := typeOk_int (ht _ _ hi) hk
  simp only [ret1, RM.run, Option.some.injEq] at h
  subst h
  exact good_pure hh (by simp [execOp, e, convert, run_underlying hs0, run_underlying hu, Conv.intToInt]) rfl

theorem extract_ok (hh : HRel wr env H w) (hs : ∀ d, conc env H (T d) (a.tmps.getD d undef)) {tt : Types} {S : Tab} {d : Nat} {x : Operand} {n : Nat} {ty : Nat} {pos : String} {af : Array Edge} {g : Option (Nat × Bool)}
    (h : (evOp tt S ⟨some d, .extract x n, ty, pos, af, g⟩).run T H = some δ) : Good P wr env H a w ⟨some d, .extract x n, ty, pos, af, g⟩ δ := by
  simp only [evOp] at h
  obtain ⟨s, q, hc⟩ := opv_inv hs h
  clear h
  cases s <;> simp only [RM.run, reduceCtorEq] at q
  obtain ⟨s, hv, rfl⟩ := retO_inv q
  obtain ⟨us, e, hc⟩ := hc
  obtain ⟨u, hu, hcu⟩ := conc2s_get hc hv
  exact good_pure hh (by simp [execOp, e, Instr.extract, show us[n]? = some u by simpa using hu]) (conc_of_conc2 hcu)

theorem nilCheck_ok (hh : HRel wr env H w) (hs : ∀ d, conc env H (T d) (a.tmps.getD d undef)) {tt : Types} {S : Tab} {d : Nat} {x : Operand} {ty : Nat} {pos : String} {af : Array Edge} {g : Option (Nat × Bool)}
    (h : (evOp tt S ⟨some d, .nilCheck x, ty, pos, af, g⟩).run T H = some δ) : Good P wr env H a w ⟨some d, .nilCheck x, ty, pos, af, g⟩ δ := by
  simp only [evOp] at h
  obtain ⟨s, q, hc⟩ := opv_inv hs h
  clear h
  cases s <;> simp only [RM.run, reduceCtorEq] at q
  obtain ⟨hq, ha⟩ := alive_inv q
  simp only [ret1, RM.run, Option.some.injEq] at hq
  subst hq
  obtain ⟨p, e⟩ := ptr_live ha hc
  exact good_pure hh (by simp [execOp, e]) hc

theorem typeOk_field {t : Nat} {i : TI} (h : typeOk P t i = true) {f k n : Nat} (hf : i.fields[f]? = some (k, n)) :
    ∃ fs fd, P.underlying t = some (.struct fs) ∧ fs[f]? = some fd ∧ fd.offset = k ∧ P.cellsOf fd.type = n ∧ 0 < n := by
  unfold typeOk at h
  split at h
  case h_2 => cases h
  rename_i m u hn hu
  simp only [Bool.and_eq_true] at h
  obtain ⟨_, h⟩ := h
  split at h
  case h_1 =>
    rename_i fs
    simp only [Bool.and_eq_true, beq_iff_eq] at h
    obtain ⟨⟨⟨⟨⟨_, h1⟩, h2⟩, _⟩, _⟩, _⟩ := h
    rw [← h1] at hf
    simp only [List.getElem?_map, Option.map_eq_some_iff] at hf
    obtain ⟨fd, hfd, e⟩ := hf
    simp only [Prod.mk.injEq] at e
    have hm := List.all_eq_true.1 h2 fd (List.mem_of_getElem? hfd)
    simp only [Bool.and_eq_true, decide_eq_true_eq] at hm
    exact ⟨fs, fd, hu, by simpa using hfd, e.1, e.2, by rw [← e.2]; exact hm.1⟩
  all_goals first | (simp at h; done) | skip
  all_goals
    simp only [Bool.and_eq_true, List.isEmpty_iff] at h
    have he : i.fields = [] := by simp_all
    simp [he] at hf

theorem add_addr (b o k : Nat) : (⟨b, o, none⟩ : Addr).add k = ⟨b, o + k, none⟩ := by
  unfold Addr.add
  split <;> simp_all

theorem fieldAddr_ok (hh : HRel wr env H w) (hs : ∀ d, conc env H (T d) (a.tmps.getD d undef)) {tt : Types} (ht : TabOk P tt) {S : Tab} {d : Nat} {x : Operand} {t f : Nat} {ty : Nat} {pos : String} {af : Array Edge} {g : Option (Nat × Bool)}
    (h : (evOp tt S ⟨some d, .fieldAddr t x f, ty, pos, af, g⟩).run T H = some δ) : Good P wr env H a w ⟨some d, .fieldAddr t x f, ty, pos, af, g⟩ δ := by
  simp only [evOp] at h
  obtain ⟨i, hi, q⟩ := tiOf_inv h
  clear h
  obtain ⟨s, h, hc⟩ := opv_inv hs q
  clear q
  cases s <;> simp only [RM.run, reduceCtorEq] at h
  rename_i j el o
  obtain ⟨q, ha⟩ := alive_inv h
  clear h
  split at q
  case h_2 => simp [RM.run] at q
  rename_i k n hf
  obtain ⟨fs, fd, hu, hfd, e1, e2, e3⟩ := typeOk_field (ht _ _ hi) hf
  simp only [ret1, RM.run, Option.some.injEq] at q
  subst q
  have hsz : ∀ w, (sizeOf fd.type).run P w = .ok n w := fun w => sizeOf_run e2 e3
  have hn : n ≠ 0 := by omega
  rcases ha with ⟨r, cs, hj⟩ | ⟨r, U, xs, hj⟩
  · simp only [conc, conc2, concC, hj] at hc
    obtain ⟨b, hb, e⟩ := hc
    refine good_pure (v := .pointer (some ⟨b, o + k, none⟩)) hh ?_ ?_
    · simp [execOp, e, Instr.fieldAt, run_underlying hu, hfd, Instr.sureAddr, fieldPlace, hsz, hn, add_addr, e1]
    · simp only [conc, conc2, concC, hj]
      exact ⟨b, hb, rfl⟩
  · simp only [conc, conc2, concC, hj] at hc
    obtain ⟨b, off, hb, hl, e⟩ := hc
    refine good_pure (v := .pointer (some ⟨b, off + el * U.sz + (o + k), none⟩)) hh ?_ ?_
    · simp [execOp, e, Instr.fieldAt, run_underlying hu, hfd, Instr.sureAddr, fieldPlace, hsz, hn, add_addr, e1, Nat.add_assoc]
    · simp only [conc, conc2, concC, hj]
      exact ⟨b, off, hb, hl, rfl⟩

theorem typeOk_slice {t : Nat} {i : TI} (h : typeOk P t i = true) {U : Ty} (hU : i.ty = some U) : P.underlying t = some (.slice i.elem) ∧ ∃ n, P.info? i.elem = some n ∧ n.size = U.sz := by
  unfold typeOk at h
  split at h
  case h_2 => cases h
  rename_i m u hn hu
  simp only [Bool.and_eq_true] at h
  obtain ⟨_, h⟩ := h
  split at h
  case h_2 =>
    simp only [Bool.and_eq_true, beq_iff_eq, hU] at h
    obtain ⟨⟨⟨⟨⟨⟨_, h1⟩, h2⟩, _⟩, _⟩, _⟩, _⟩ := h
    subst h1
    refine ⟨hu, ?_⟩
    simp only [tyOfDesc, Option.any_eq_true, beq_iff_eq] at h2
    obtain ⟨n, h3, h4⟩ := h2
    exact ⟨n, h3, h4⟩
  all_goals simp [hU] at h

theorem tyIs_inv {α : Type} {t : Option Ty} {j : Nat} {k : Nat → RM α} {r : α} (h : (tyIs t j k).run T H = some r) :
    ∃ rw U xs V, H j = some (rw, .vec U xs) ∧ t = some V ∧ V.sz = U.sz ∧ (k xs.length).run T H = some r := by
  simp only [tyIs, RM.run] at h
  split at h
  case h_2 => simp [RM.run] at h
  rename_i rw U xs hj
  split at h
  case h_2 => simp [RM.run] at h
  rename_i V
  split at h
  case h_2 => simp [RM.run] at h
  rename_i hsz
  exact ⟨rw, U, xs, V, hj, rfl, Nat.eq_of_beq_eq_true hsz, h⟩

theorem run_sizeOf {t : Nat} {n : TypeInfo} (h : P.info? t = some n) : (sizeOf t).run P w = .ok n.size w := by simp [sizeOf, typeInfo, h]

/-- Where a list's elements lie. -/
theorem vec_base (hh : HRel wr env H w) {j : Nat} {rw : Bool} {U : Ty} {xs : List U.El} (hj : H j = some (rw, .vec U xs)) (h0 : 0 < xs.length) : ∃ b off, (env j).1 = some ⟨b, off, none⟩ ∧ xs.length ≤ (env j).2 := by
  obtain ⟨hl, h⟩ := hh.blk j rw _ hj
  rcases h with h | ⟨b, off, E, vs, fz, hb, _⟩
  · omega
  · exact ⟨b, off, hb, hl⟩

theorem indexAddr_ok (hh : HRel wr env H w) (hs : ∀ d, conc env H (T d) (a.tmps.getD d undef)) {tt : Types} (ht : TabOk P tt) {S : Tab} {d : Nat} {x y : Operand} {t : Nat} {ty : Nat} {pos : String} {af : Array Edge} {g : Option (Nat × Bool)}
    (h : (evOp tt S ⟨some d, .indexAddr t x y, ty, pos, af, g⟩).run T H = some δ) (hp : ∀ p, δ.ok = some p → p) : Good P wr env H a w ⟨some d, .indexAddr t x y, ty, pos, af, g⟩ δ := by
  simp only [evOp] at h
  obtain ⟨i, hi, q⟩ := tiOf_inv h
  clear h
  obtain ⟨s, h, hc⟩ := opv_inv hs q
  clear q
  obtain ⟨s2, q, hc2⟩ := opv_inv hs h
  clear h
  cases s2 <;> simp only [RM.run, reduceCtorEq] at q
  rename_i k n
  have e2 := conc_int hc2
  split at q
  · rename_i j
    obtain ⟨rw, U, xs, V, hj, hV, hsz, q⟩ := tyIs_inv q
    obtain ⟨hu, m, hm, hms⟩ := typeOk_slice (ht _ _ hi) hV
    simp only [retc, RM.run, Option.some.injEq] at q
    subst q
    have hb := hp _ rfl
    have hlen : 0 < xs.length := by omega
    obtain ⟨b, off, hb1, hb2⟩ := vec_base hh hj hlen
    simp only [conc, conc2, concC, hj] at hc
    refine good_pure (v := .pointer (some ⟨b, off + n.toNat * U.sz, none⟩)) hh ?_ ?_
    · have hc1 : (0 ≤ n ∧ n < (xs.length : Int)) := hb
      simp [execOp, hc, e2, Instr.indexAt, asIntOf, run_underlying hu, hb1, hc1.1, hc1.2, run_sizeOf hm, hms, hsz, add_addr]
    · simp only [conc, conc2, concC, hj]
      exact ⟨b, off, hb1, by omega, by simp⟩
  · rename_i j lo m
    obtain ⟨rw, U, xs, V, hj, hV, hsz, q⟩ := tyIs_inv q
    obtain ⟨hu, m', hm, hms⟩ := typeOk_slice (ht _ _ hi) hV
    simp only [retc, RM.run, Option.some.injEq] at q
    subst q
    have hb := hp _ rfl
    simp only [conc, conc2, concC, hj] at hc
    obtain ⟨hlo, x', hx, hbase⟩ := hc
    have hlen : 0 < xs.length := by omega
    obtain ⟨b, off, hb1, hb2⟩ := vec_base hh hj hlen
    rcases hbase with hbase | hbase
    · omega
    rw [hb1] at hbase
    simp only [Option.map_some, add_addr] at hbase
    subst hbase
    refine good_pure (v := .pointer (some ⟨b, off + lo * U.sz + n.toNat * U.sz, none⟩)) hh ?_ ?_
    · simp [execOp, hx, e2, Instr.indexAt, asIntOf, run_underlying hu, hb.1, hb.2, run_sizeOf hm, hms, hsz, add_addr]
    · simp only [conc, conc2, concC, hj]
      exact ⟨b, off, hb1, by omega, by rw [Nat.add_mul, Nat.add_zero, Nat.add_assoc]⟩
  · simp [RM.run] at q

end

end Go.Proofs.YtnahfbjdicjdpaaGreat.Sym

namespace Go.Proofs.YtnahfbjdicjdpaaGreat.Sym
open Go
set_option linter.unusedVariables false
set_option linter.unusedSimpArgs false

section
variable {P : Program} {wr : Nat → Prop} {env : Env} {H : Hp} {a : Act} {w : World} {T : Nat → SV} {δ : Delta}

theorem concCs_length : ∀ {cs : List SV} {vs : List Value}, concCs env H cs vs → cs.length = vs.length
  | [], [], _ => rfl
  | _ :: r, _ :: s, h => by simp [concCs_length (cs := r) (vs := s) h.2]

theorem concCs_drop : ∀ {n : Nat} {cs : List SV} {vs : List Value}, concCs env H cs vs → concCs env H (cs.drop n) (vs.drop n)
  | 0, _, _, h => h
  | n + 1, [], [], h => h
  | n + 1, _ :: r, _ :: s, h => concCs_drop (n := n) (cs := r) (vs := s) h.2

theorem concCs_take : ∀ {n : Nat} {cs : List SV} {vs : List Value}, concCs env H cs vs → concCs env H (cs.take n) (vs.take n)
  | 0, _, _, _ => by simp [concCs]
  | n + 1, [], [], h => h
  | n + 1, _ :: r, _ :: s, h => ⟨h.1, concCs_take (n := n) (cs := r) (vs := s) h.2⟩

theorem concCs_append : ∀ {cs ds : List SV} {vs us : List Value}, concCs env H cs vs → concCs env H ds us → concCs env H (cs ++ ds) (vs ++ us)
  | [], _, [], _, _, k => k
  | _ :: r, ds, _ :: s, us, h, k => ⟨h.1, concCs_append (cs := r) (vs := s) h.2 k⟩

/-- A plain cell: a number or a bool. -/
def plain : SV → Bool
  | .int _ _ => true
  | .bool _ => true
  | _ => false

theorem conc_plain {c : SV} (h : plain c = true) : concC env H c (svl c) := by cases c <;> first | rfl | (cases h)

theorem concCs_plain : ∀ {cs : List SV}, (∀ c ∈ cs, plain c = true) → concCs env H cs (cs.map svl)
  | [], _ => trivial
  | c :: r, h => ⟨conc_plain (h c (by simp)), concCs_plain fun x hx => h x (by simp [hx])⟩

theorem enc_plain (U : Ty) (x : U.El) : ∀ c ∈ U.enc x, plain c = true := by
  cases U <;> simp [Ty.enc, plain]

theorem enc_length (U : Ty) (x : U.El) : (U.enc x).length = U.sz := by cases U <;> rfl

theorem sz_pos (U : Ty) : 0 < U.sz := by cases U <;> simp [Ty.sz]

theorem shapeOf_inv {g : Bool} {cs : List SV} {s : SV} (h : shapeOf g cs = some s) {vs : List Value} (hc : concCs env H cs vs) :
    conc env H s (if g = true then .agg vs.toArray else vs.headD undef) ∧ (g = false → vs.length = 1) := by
  cases g with
  | true =>
    simp only [shapeOf, Option.some.injEq] at h
    subst h
    exact ⟨⟨vs.toArray, rfl, by simpa using hc⟩, fun q => by cases q⟩
  | false =>
    cases cs with
    | nil => simp [shapeOf] at h
    | cons c r =>
      cases r with
      | cons _ _ => simp [shapeOf] at h
      | nil =>
        simp only [shapeOf, Option.some.injEq] at h
        subst h
        cases vs with
        | nil => exact hc.elim
        | cons v t =>
          cases t with
          | cons _ _ => exact hc.2.elim
          | nil => exact ⟨conc_of_concC hc.1, fun _ => rfl⟩

theorem run_loadAt {t : Nat} {u : TypeDesc} {n : TypeInfo} (hu : P.underlying t = some u) (hn : P.info? t = some n) {b o : Nat} {us : List Value} (hl : us.length = n.size)
    (h1 : aggDesc u = false → us.length = 1) (hc : ∀ j v, us[j]? = some v → w.cell? ⟨b, o + j, none⟩ = some v) :
    (Instr.loadAt t (.pointer (some ⟨b, o, none⟩))).run P w = .ok (if aggDesc u = true then .agg us.toArray else us.headD undef) w := by
  have hc' : ∀ j v, us[j]? = some v → w.cell? ((⟨b, o, none⟩ : Addr).add j) = some v := fun j v h => by rw [add_addr]; exact hc j v h
  simp only [Instr.loadAt, Instr.sureAddr, Sem.run_bind, Sem.run_pure, Result.andThen_ok, loadVar, run_isAgg hu, Sem.run_ite]
  cases e : aggDesc u with
  | true =>
    simp only [if_true, run_sizeOf hn, Result.andThen_ok, ← hl, run_loadCells_list w _ us hc']
  | false =>
    have hu1 := h1 e
    cases us with
    | nil => simp at hu1
    | cons v r =>
      have := hc 0 v rfl
      simp only [Nat.add_zero] at this
      simp [run_load, this]

theorem cell_of {b o : Nat} {vs : Array Value} {E : TypeId} {fz : Nat × Nat} (h : w.heap[b]? = some (.cells vs E fz)) : w.cell? ⟨b, o, none⟩ = vs[o]? := by
  simp [World.cell?, h]

theorem load_run (hh : HRel wr env H w) {tt : Types} (ht : TabOk P tt) {t : Nat} {i : TI} (hi : tt t = some i) {j el o : Nat} {v : Value} (hc : conc env H (.ptr j el o) v)
    (h : (readBlk (H j) el o i.size i.agg).run T H = some δ) : δ.hs = [] ∧ ∃ u, (Instr.loadAt t v).run P w = .ok u w ∧ conc env H δ.v u := by
  obtain ⟨n, u, hn, hu, hsz, _, _, _⟩ := typeOk_some (ht _ _ hi)
  obtain ⟨u', hu', hag⟩ := typeOk_agg (ht _ _ hi)
  rw [hu] at hu'
  cases hu'
  unfold readBlk at h
  split at h
  · rename_i rw cs hj
    split at h
    case h_2 => simp [RM.run] at h
    rename_i hb
    simp only [Bool.and_eq_true] at hb
    have hle : o + i.size ≤ cs.length := Nat.le_of_ble_eq_true hb.2
    obtain ⟨s, hv, rfl⟩ := retO_inv h
    simp only [conc, conc2, concC, hj] at hc
    obtain ⟨b, hb1, e⟩ := hc
    obtain ⟨b', E, vs, fz, hb2, hheap, hcs, _⟩ := hh.blk j rw _ hj
    rw [hb1] at hb2
    cases hb2
    have hlen := concCs_length hcs
    have hus : concCs env H ((cs.drop o).take i.size) ((vs.toList.drop o).take i.size) := concCs_take (concCs_drop hcs)
    obtain ⟨r1, r2⟩ := shapeOf_inv hv hus
    refine ⟨rfl, if i.agg = true then .agg ((vs.toList.drop o).take i.size).toArray else ((vs.toList.drop o).take i.size).headD undef, ?_, r1⟩
    have := run_loadAt (w := w) (b := b) (o := o) (us := (vs.toList.drop o).take i.size) hu hn (by simp; simp at hlen; omega) (by rw [hag]; exact r2) (fun k v hk => by
      rw [cell_of hheap]
      rw [List.getElem?_take] at hk
      split at hk
      · simpa using hk
      · cases hk)
    rw [hag] at this
    rw [e]
    exact this
  · rename_i rw U xs hj
    split at h
    case h_2 => simp [RM.run] at h
    rename_i hb
    have hle : o + i.size ≤ U.sz := Nat.le_of_ble_eq_true hb
    obtain ⟨s, hv, rfl⟩ := retO_inv h
    simp only [conc, conc2, concC, hj] at hc
    obtain ⟨b, off, hb1, hel, e⟩ := hc
    obtain ⟨hl, hcap⟩ := hh.blk j rw _ hj
    rcases hcap with hcap | ⟨b', off', E, vs, fz, hb2, hheap, hsize, hlies, _⟩
    · omega
    rw [hb1] at hb2
    cases hb2
    have henc := enc_length U (U.ix xs el)
    have hus : concCs env H (((U.enc (U.ix xs el)).drop o).take i.size) ((((U.enc (U.ix xs el)).drop o).take i.size).map svl) :=
      concCs_plain fun c hc => enc_plain U _ c (List.mem_of_mem_drop (List.mem_of_mem_take hc))
    obtain ⟨r1, r2⟩ := shapeOf_inv hv hus
    refine ⟨rfl, if i.agg = true then .agg ((((U.enc (U.ix xs el)).drop o).take i.size).map svl).toArray else ((((U.enc (U.ix xs el)).drop o).take i.size).map svl).headD undef, ?_, r1⟩
    have := run_loadAt (w := w) (b := b) (o := off + el * U.sz + o) (us := (((U.enc (U.ix xs el)).drop o).take i.size).map svl) hu hn (by simp; omega) (by rw [hag]; exact r2) (fun k v hk => by
      rw [cell_of hheap, Nat.add_assoc, hlies el hel (o + k) ?_]
      · simp only [List.getElem?_map, Option.map_eq_some_iff] at hk
        obtain ⟨c, hk, rfl⟩ := hk
        rw [List.getElem?_take] at hk
        split at hk
        · simp only [List.getElem?_drop] at hk
          simp [List.getD, hk]
        · cases hk
      · have := List.getElem?_eq_some_iff.1 hk
        obtain ⟨hk, _⟩ := this
        simp at hk
        omega)
    rw [hag] at this
    rw [e]
    exact this
  · simp [RM.run] at h

theorem load_ok (hh : HRel wr env H w) (hs : ∀ d, conc env H (T d) (a.tmps.getD d undef)) {tt : Types} (ht : TabOk P tt) {S : Tab} {d : Nat} {x : Operand} {t : Nat} {ty : Nat} {pos : String} {af : Array Edge} {g : Option (Nat × Bool)}
    (h : (evOp tt S ⟨some d, .load t x, ty, pos, af, g⟩).run T H = some δ) : Good P wr env H a w ⟨some d, .load t x, ty, pos, af, g⟩ δ := by
  simp only [evOp] at h
  obtain ⟨i, hi, q⟩ := tiOf_inv h
  clear h
  obtain ⟨s, h, hc⟩ := opv_inv hs q
  clear q
  cases s <;> simp only [RM.run, reduceCtorEq] at h
  rename_i j el o
  obtain ⟨h1, u, h2, h3⟩ := load_run hh ht hi hc h
  obtain ⟨p, s, hs'⟩ := δ
  simp only at h1
  subst h1
  exact good_pure hh (by simp [execOp, h2]) h3

theorem makeFunc_ok (hh : HRel wr env H w) (hs : ∀ d, conc env H (T d) (a.tmps.getD d undef)) {tt : Types} {S : Tab} {d : Nat} {f : Nat} {first caps : Array Operand} {ty : Nat} {pos : String} {af : Array Edge} {g : Option (Nat × Bool)}
    (h : (evOp tt S ⟨some d, .makeFunc (.func f) first caps, ty, pos, af, g⟩).run T H = some δ) : Good P wr env H a w ⟨some d, .makeFunc (.func f) first caps, ty, pos, af, g⟩ δ := by
  obtain ⟨first⟩ := first
  obtain ⟨caps⟩ := caps
  simp only [evOp] at h
  split at h
  · simp only [ret1, RM.run, Option.some.injEq] at h
    subst h
    exact good_pure hh (by simp [execOp, Instr.makeFunc]) rfl
  · rename_i x
    obtain ⟨s, q, hc⟩ := opv_inv hs h
    clear h
    cases s <;> simp only [RM.run, reduceCtorEq] at q
    rename_i j e o
    split at q
    case h_2 => simp [RM.run] at q
    rename_i he
    simp only [Bool.and_eq_true] at he
    have ho : o = 0 := Nat.eq_of_beq_eq_true he.2
    subst ho
    simp only [RM.run] at q
    split at q
    case h_2 => simp [RM.run] at q
    rename_i rw cs hj
    simp only [ret1, RM.run, Option.some.injEq] at q
    subst q
    simp only [conc, conc2, concC, hj] at hc
    obtain ⟨b, hb, e⟩ := hc
    refine good_pure (v := .func (.func f) #[] #[.pointer (some ⟨b, 0, none⟩)]) hh (by simp [execOp, Instr.makeFunc, e]) ?_
    simp only [conc, conc2, concC, hj]
    exact ⟨b, hb, rfl⟩
  · simp [RM.run] at h

def bndIs (v : Option Value) (n : Option Int) : Prop :=
  match v, n with
  | none, none => True
  | some v, some n => ∃ k, v = .int k n
  | _, _ => False

theorem bndOf_inv {α : Type} (hs : ∀ d, conc env H (T d) (a.tmps.getD d undef)) {x : Option Operand} {k : Option Int → RM α} {r : α} (h : (bndOf x k).run T H = some r) :
    ∃ n, (k n).run T H = some r ∧ bndIs (x.map a.eval) n := by
  cases x with
  | none => exact ⟨none, h, trivial⟩
  | some x =>
    simp only [bndOf] at h
    obtain ⟨s, q, hc⟩ := opv_inv hs h
    cases s <;> simp only [RM.run, reduceCtorEq] at q
    exact ⟨_, q, _, conc_int hc⟩

theorem run_bounds {len cap : Nat} {lo hi : Option Value} {l h : Option Int} (hl : bndIs lo l) (hh : bndIs hi h) (h0 : 0 ≤ h.getD len) (h1 : h.getD len ≤ cap) (l0 : 0 ≤ l.getD 0) (l1 : l.getD 0 ≤ h.getD len) :
    (Instr.sliceBounds true len cap lo hi none).run P w = .ok ((l.getD 0).toNat, (h.getD len).toNat, cap) w := by
  cases hi with
  | none =>
    cases h with
    | some _ => exact hh.elim
    | none =>
      cases lo with
      | none =>
        cases l with
        | some _ => exact hl.elim
        | none => simp [Instr.sliceBounds]
      | some v =>
        cases l with
        | none => exact hl.elim
        | some l =>
          obtain ⟨k, rfl⟩ := hl
          simp only [Option.getD_some, Option.getD_none] at *
          simp [Instr.sliceBounds, Instr.sliceBound, asIntOf, l0, l1]
  | some u =>
    cases h with
    | none => exact hh.elim
    | some h =>
      obtain ⟨k, rfl⟩ := hh
      simp only [Option.getD_some] at *
      have ht : ((h.toNat : Nat) : Int) = h := by omega
      cases lo with
      | none =>
        cases l with
        | some _ => exact hl.elim
        | none => simp [Instr.sliceBounds, Instr.sliceBound, asIntOf, h0, h1]
      | some v =>
        cases l with
        | none => exact hl.elim
        | some l =>
          obtain ⟨k, rfl⟩ := hl
          simp only [Option.getD_some] at *
          simp [Instr.sliceBounds, Instr.sliceBound, asIntOf, h0, h1, l0, l1, ht]

theorem run_sliceAt {t e : Nat} {n : TypeInfo} (hu : P.underlying t = some (.slice e)) (hn : P.info? e = some n) {x : Option Addr} {len cap : Nat} {lo hi : Option Value} {l h : Option Int} (hl : bndIs lo l) (hh : bndIs hi h)
    (h0 : 0 ≤ h.getD len) (h1 : h.getD len ≤ cap) (l0 : 0 ≤ l.getD 0) (l1 : l.getD 0 ≤ h.getD len) :
    (Instr.sliceAt t (.slice x len cap) lo hi none).run P w =
      .ok (.slice (if cap = (l.getD 0).toNat then x else x.map (·.add ((l.getD 0).toNat * n.size))) ((h.getD len).toNat - (l.getD 0).toNat) (cap - (l.getD 0).toNat)) w := by
  simp only [Instr.sliceAt, Sem.run_bind, run_underlying hu, Result.andThen_ok, Instr.slice, run_bounds hl hh h0 h1 l0 l1, run_sizeOf hn, Sem.run_pure]

theorem slice_run {d t e : Nat} {n : TypeInfo} (hu : P.underlying t = some (.slice e)) (hn : P.info? e = some n) {ty : Nat} {pos : String} {af : Array Edge} {g : Option (Nat × Bool)} {x : Operand} {lo hi : Option Operand}
    {y : Option Addr} {len cap : Nat} (hx : a.eval x = .slice y len cap) {l h : Option Int} (hl : bndIs (lo.map a.eval) l) (hh : bndIs (hi.map a.eval) h)
    (h0 : 0 ≤ h.getD len) (h1 : h.getD len ≤ cap) (l0 : 0 ≤ l.getD 0) (l1 : l.getD 0 ≤ h.getD len) :
    (execOp a.eval ⟨some d, .slice t x lo hi none, ty, pos, af, g⟩).run P w =
      .ok (.value (.slice (if cap = (l.getD 0).toNat then y else y.map (·.add ((l.getD 0).toNat * n.size))) ((h.getD len).toNat - (l.getD 0).toNat) (cap - (l.getD 0).toNat))) w := by
  simp [execOp, hx, run_sliceAt hu hn hl hh h0 h1 l0 l1]

theorem slice_vec (hH : HRel wr env H w) {d t e : Nat} {n : TypeInfo} (hu : P.underlying t = some (.slice e)) (hn : P.info? e = some n) {ty : Nat} {pos : String} {af : Array Edge} {g : Option (Nat × Bool)} {x : Operand} {lo hi : Option Operand}
    {j : Nat} {rw : Bool} {U : Ty} {xs : List U.El} (hj : H j = some (rw, .vec U xs)) (hsz : n.size = U.sz) (hx : conc env H (.vec j) (a.eval x)) {l h : Option Int} (hl : bndIs (lo.map a.eval) l) (hh : bndIs (hi.map a.eval) h)
    (h1 : h.getD xs.length ≤ xs.length) (l0 : 0 ≤ l.getD 0) (l1 : l.getD 0 ≤ h.getD xs.length) {p : Option Prop} {v : SV} (hv : v = .sl j (l.getD 0).toNat ((h.getD xs.length).toNat - (l.getD 0).toNat)) :
    Good P wr env H a w ⟨some d, .slice t x lo hi none, ty, pos, af, g⟩ ⟨p, v, []⟩ := by
  subst hv
  simp only [conc, conc2, concC, hj] at hx
  obtain ⟨hcap, _⟩ := hH.blk j rw _ hj
  refine good_pure hH (slice_run hu hn hx hl hh (by omega) (by omega) l0 l1) ?_
  simp only [conc, conc2, concC, hj]
  refine ⟨by omega, _, rfl, ?_⟩
  split
  · exact .inl (by assumption)
  · rw [hsz]; exact .inr rfl

theorem slice_sl (hH : HRel wr env H w) {d t e : Nat} {n : TypeInfo} (hu : P.underlying t = some (.slice e)) (hn : P.info? e = some n) {ty : Nat} {pos : String} {af : Array Edge} {g : Option (Nat × Bool)} {x : Operand} {lo hi : Option Operand}
    {j o m : Nat} {rw : Bool} {U : Ty} {xs : List U.El} (hj : H j = some (rw, .vec U xs)) (hsz : n.size = U.sz) (hx : conc env H (.sl j o m) (a.eval x)) {l h : Option Int} (hl : bndIs (lo.map a.eval) l) (hh : bndIs (hi.map a.eval) h)
    (h1 : o + h.getD m ≤ xs.length) (l0 : 0 ≤ l.getD 0) (l1 : l.getD 0 ≤ h.getD m) {p : Option Prop} {v : SV} (hv : v = .sl j (o + (l.getD 0).toNat) ((h.getD m).toNat - (l.getD 0).toNat)) :
    Good P wr env H a w ⟨some d, .slice t x lo hi none, ty, pos, af, g⟩ ⟨p, v, []⟩ := by
  subst hv
  simp only [conc, conc2, concC, hj] at hx
  obtain ⟨hm, y, hx, hy⟩ := hx
  obtain ⟨hcap, _⟩ := hH.blk j rw _ hj
  refine good_pure hH (slice_run hu hn hx hl hh (by omega) (by omega) l0 l1) ?_
  simp only [conc, conc2, concC, hj]
  refine ⟨by omega, _, by rw [Nat.sub_sub], ?_⟩
  split
  · exact .inl (by omega)
  · rename_i hne
    rcases hy with hy | hy
    · omega
    · right
      subst hy
      cases (env j).1 with
      | none => rfl
      | some q =>
        simp only [Option.map_some, hsz]
        congr 1
        unfold Addr.add
        rw [Nat.add_mul]
        split <;> split <;> split <;> simp_all <;> omega

theorem bnd_some {x : Option Operand} {n : Int} (h : bndIs (x.map a.eval) (some n)) : ∃ v : Value, x.map a.eval = some v ∧ ∃ k : IntKind, v = .int k n := by
  cases x with
  | none => exact h.elim
  | some x =>
    obtain ⟨k, hk⟩ := h
    exact ⟨_, rfl, k, hk⟩

theorem slice_ok (hH : HRel wr env H w) (hs : ∀ d, conc env H (T d) (a.tmps.getD d undef)) {tt : Types} (ht : TabOk P tt) {S : Tab} {d : Nat} {x : Operand} {lo hi mx : Option Operand} {t : Nat} {ty : Nat} {pos : String} {af : Array Edge} {g : Option (Nat × Bool)}
    (h : (evOp tt S ⟨some d, .slice t x lo hi mx, ty, pos, af, g⟩).run T H = some δ) (hp : ∀ p, δ.ok = some p → p) : Good P wr env H a w ⟨some d, .slice t x lo hi mx, ty, pos, af, g⟩ δ := by
  simp only [evOp] at h
  obtain ⟨i, hi', q⟩ := tiOf_inv h
  clear h
  split at q
  · rename_i hz
    obtain ⟨s, h, hc⟩ := opv_inv hs q
    clear q
    unfold zeroCut at hz
    split at hz
    case h_2 => cases hz
    rename_i k1 b k2 c
    simp only [Bool.and_eq_true, beq_iff_eq] at hz
    obtain ⟨rfl, rfl⟩ := hz
    cases s <;> simp only [RM.run, reduceCtorEq] at h
    · rename_i j
      obtain ⟨rw, U, xs, V, hj, hV, hsz, q⟩ := tyIs_inv h
      obtain ⟨hu, m, hm, hms⟩ := typeOk_slice (ht _ _ hi') hV
      simp only [ret1, RM.run, Option.some.injEq] at q
      subst q
      simp only [conc, conc2, concC, hj] at hc
      refine good_pure (v := .slice (env j).1 0 0) hH ?_ ⟨_, rfl⟩
      simp [execOp, hc, show ∀ v, a.eval (.const v) = v from fun _ => rfl, Instr.sliceAt, run_underlying hu, Instr.slice, Instr.sliceBounds, Instr.sliceBound, asIntOf, run_sizeOf hm]
    · split at h
      case h_2 => simp [RM.run] at h
      rename_i V hV
      obtain ⟨hu, m, hm, hms⟩ := typeOk_slice (ht _ _ hi') hV
      simp only [ret1, RM.run, Option.some.injEq] at h
      subst h
      obtain ⟨y, hc⟩ := hc
      refine good_pure (v := .slice y 0 0) hH ?_ ⟨_, rfl⟩
      simp [execOp, hc, show ∀ v, a.eval (.const v) = v from fun _ => rfl, Instr.sliceAt, run_underlying hu, Instr.slice, Instr.sliceBounds, Instr.sliceBound, asIntOf, run_sizeOf hm]
  · obtain ⟨s, h, hc⟩ := opv_inv hs q
    clear q
    obtain ⟨l, q, hl⟩ := bndOf_inv hs h
    clear h
    obtain ⟨hb, h, hh⟩ := bndOf_inv hs q
    clear q
    unfold sliceOf at h
    split at h
    · rename_i j
      obtain ⟨rw, U, xs, V, hj, hV, hsz, q⟩ := tyIs_inv h
      obtain ⟨hu, m, hm, hms⟩ := typeOk_slice (ht _ _ hi') hV
      have hms' : m.size = U.sz := hms.trans hsz
      split at q <;> simp only [ret1, retc, RM.run, Option.some.injEq] at q <;> subst q
      · simp only [conc, conc2, concC, hj] at hc
        refine good_pure (v := .slice (env j).1 xs.length (env j).2) hH ?_ (by simp only [conc, conc2, concC, hj])
        obtain ⟨hcap, _⟩ := hH.blk j rw _ hj
        have := slice_run (w := w) (d := d) (ty := ty) (pos := pos) (af := af) (g := g) hu hm hc hl hh (l := none) (h := none) (by simp) (by simpa using hcap) (by simp) (by simp)
        simp only [Option.getD_none, Int.toNat_natCast, Int.toNat_zero, Nat.sub_zero, Nat.zero_mul] at this
        rw [this]
        congr 3
        split
        · rfl
        · cases (env j).1 <;> simp [Addr.add]
      · have hq := hp _ rfl
        exact slice_vec hH (d := d) (ty := ty) (pos := pos) (af := af) (g := g) hu hm hj hms' hc hl hh (by simp) hq.1 (by simpa using hq.2) (by simp)
      · have hq := hp _ rfl
        exact slice_vec hH (d := d) (ty := ty) (pos := pos) (af := af) (g := g) hu hm hj hms' hc hl hh hq.2 (by simp) (by simpa using hq.1) (by simp)
      · have hq := hp _ rfl
        exact slice_vec hH (d := d) (ty := ty) (pos := pos) (af := af) (g := g) hu hm hj hms' hc hl hh hq.2.2 hq.1 hq.2.1 (by simp)
    · rename_i j o n
      obtain ⟨rw, U, xs, V, hj, hV, hsz, q⟩ := tyIs_inv h
      obtain ⟨hu, m, hm, hms⟩ := typeOk_slice (ht _ _ hi') hV
      have hms' : m.size = U.sz := hms.trans hsz
      have hmm : o + n ≤ xs.length := by
        have := hc
        simp only [conc, conc2, concC, hj] at this
        exact this.1
      split at q <;> simp only [ret1, retc, RM.run, Option.some.injEq] at q <;> subst q
      · exact slice_sl hH (d := d) (ty := ty) (pos := pos) (af := af) (g := g) hu hm hj hms' hc hl hh (by simp only [Option.getD_none]; omega) (by simp) (by simp) (by simp)
      · have hq := hp _ rfl
        exact slice_sl hH (d := d) (ty := ty) (pos := pos) (af := af) (g := g) hu hm hj hms' hc hl hh (by simp only [Option.getD_none]; omega) hq.1 (by simpa using hq.2) (by simp)
      · have hq := hp _ rfl
        exact slice_sl hH (d := d) (ty := ty) (pos := pos) (af := af) (g := g) hu hm hj hms' hc hl hh hq.2 (by simp) (by simpa using hq.1) (by simp)
      · have hq := hp _ rfl
        exact slice_sl hH (d := d) (ty := ty) (pos := pos) (af := af) (g := g) hu hm hj hms' hc hl hh hq.2.2 hq.1 hq.2.1 (by simp)
    · obtain ⟨y, hc⟩ := hc
      cases hty : i.ty with
      | none => simp [hty, RM.run] at h
      | some V =>
        obtain ⟨hu, m, hm, hms⟩ := typeOk_slice (ht _ _ hi') hty
        simp only [hty] at h
        cases l <;> cases hb <;> simp only [ret1, retc, RM.run, Option.some.injEq] at h <;> subst h
        · refine good_pure hH (slice_run (w := w) (d := d) (ty := ty) (pos := pos) (af := af) (g := g) hu hm hc hl hh (by simp) (by simp) (by simp) (by simp)) ?_
          exact ⟨_, by simp; rfl⟩
        · have hq := hp _ rfl
          subst hq
          refine good_pure hH (slice_run (w := w) (d := d) (ty := ty) (pos := pos) (af := af) (g := g) hu hm hc hl hh (by simp) (by simp) (by simp) (by simp)) ?_
          exact ⟨_, by simp; rfl⟩
        · have hq := hp _ rfl
          subst hq
          refine good_pure hH (slice_run (w := w) (d := d) (ty := ty) (pos := pos) (af := af) (g := g) hu hm hc hl hh (by simp) (by simp) (by simp) (by simp)) ?_
          exact ⟨_, by simp; rfl⟩
        · obtain ⟨rfl, rfl⟩ := hp _ rfl
          refine good_pure hH (slice_run (w := w) (d := d) (ty := ty) (pos := pos) (af := af) (g := g) hu hm hc hl hh (by simp) (by simp) (by simp) (by simp)) ?_
          exact ⟨_, by simp; rfl⟩
    · simp [RM.run] at h
  · rename_i mo _
    obtain ⟨s, h, hc⟩ := opv_inv hs q
    clear q
    obtain ⟨l, q, hl⟩ := bndOf_inv hs h
    clear h
    obtain ⟨hb, h, hh⟩ := bndOf_inv hs q
    clear q
    obtain ⟨mb, q, hm'⟩ := bndOf_inv hs h
    clear h
    split at q
    case h_2 => simp [RM.run] at q
    rename_i j l hi2 mx2
    obtain ⟨rw, U, xs, V, hj, hV, hsz, q⟩ := tyIs_inv q
    obtain ⟨hu, m, hm, hms⟩ := typeOk_slice (ht _ _ hi') hV
    simp only [retc, RM.run, Option.some.injEq] at q
    subst q
    obtain ⟨p1, p2, p3, p4⟩ := hp _ rfl
    simp only [conc, conc2, concC, hj] at hc
    obtain ⟨hcap, _⟩ := hH.blk j rw _ hj
    obtain ⟨v1, e1, k1, rfl⟩ := bnd_some hl
    obtain ⟨v2, e2, k2, rfl⟩ := bnd_some hh
    obtain ⟨v3, e3, k3, rfl⟩ := bnd_some hm'
    refine good_pure (v := .slice (if mx2.toNat = l.toNat then (env j).1 else (env j).1.map (·.add (l.toNat * m.size))) (hi2.toNat - l.toNat) (mx2.toNat - l.toNat)) hH ?_ trivial
    have e3' : a.eval mo = .int k3 mx2 := by simpa using e3
    have c1 : (hi2.toNat : Int) = hi2 := by omega
    have c2 : (mx2.toNat : Int) = mx2 := by omega
    simp [execOp, hc, Instr.sliceAt, run_underlying hu, Instr.slice, e1, e2, e3', Instr.sliceBounds, Instr.sliceBound, asIntOf, run_sizeOf hm, c1, c2, p1, p2, p3, show 0 ≤ hi2 by omega, show 0 ≤ mx2 by omega, show mx2 ≤ ((env j).2 : Int) by omega]

end

end Go.Proofs.YtnahfbjdicjdpaaGreat.Sym

namespace Go.Proofs.YtnahfbjdicjdpaaGreat.Sym
open Go
set_option linter.unusedVariables false
set_option linter.unusedSimpArgs false

section
variable {P : Program} {wr : Nat → Prop} {env env' : Env} {H H' : Hp} {a : Act} {w w' : World} {T : Nat → SV} {δ : Delta}

theorem own_lt (hh : HRel wr env H w) {j : Nat} {r : Bool} {b : Blk} (hj : H j = some (r, b)) {x : Nat} (hx : own env j b = some x) : x < w.heap.size := by
  have h := hh.blk j r b hj
  cases b with
  | box cs =>
    obtain ⟨b, E, vs, fz, hb, hheap, _⟩ := h
    simp only [own, hb, Option.map_some, Option.some.injEq] at hx
    subst hx
    exact (Array.getElem?_eq_some_iff.1 hheap).1
  | vec U xs =>
    obtain ⟨_, h⟩ := h
    simp only [own] at hx
    split at hx
    · cases hx
    · rcases h with h | ⟨b, off, E, vs, fz, hb, hheap, _⟩
      · contradiction
      · simp only [hb, Option.map_some, Option.some.injEq] at hx
        subst hx
        exact (Array.getElem?_eq_some_iff.1 hheap).1
  | dead => simp [own] at hx

theorem HRel.step (hh : HRel wr env H w) (sp : Nat → Prop) (x : Ext env H env' H')
    (old : ∀ k r b, ¬ sp k → H' k = some (r, b) → H k = some (r, b) ∧ env' k = env k ∧ ∀ y, own env k b = some y → w'.heap[y]? = w.heap[y]?)
    (new : ∀ k r b, sp k → H' k = some (r, b) → blkRel env' H' k r b w' ∧ ∀ y, own env' k b = some y → (r = true → wr y) ∧
      ∀ k' r' b', k' ≠ k → H' k' = some (r', b') → own env' k' b' = some y → (r = true ∨ r' = true) → False) : HRel wr env' H' w' := by
  have ow : ∀ k b, env' k = env k → own env' k b = own env k b := fun k b e => by cases b <;> simp [own, e]
  refine ⟨?_, ?_, ?_⟩
  · intro j r b hj
    by_cases hs : sp j
    · exact (new j r b hs hj).1
    · obtain ⟨h1, h2, h3⟩ := old j r b hs hj
      have h := hh.blk j r b h1
      cases b with
      | box cs =>
        obtain ⟨b, E, vs, fz, hb, hheap, hc, hf⟩ := h
        exact ⟨b, E, vs, fz, by rw [h2]; exact hb, by rw [h3 b (by simp [own, hb])]; exact hheap, concCs_ext x hc, hf⟩
      | vec U xs =>
        obtain ⟨hl, h⟩ := h
        refine ⟨by rw [h2]; exact hl, ?_⟩
        rw [h2]
        rcases h with h | ⟨b, off, E, vs, fz, hb, hheap, rest⟩
        · exact .inl h
        · by_cases hz : (env j).2 = 0
          · exact .inl hz
          · exact .inr ⟨b, off, E, vs, fz, hb, by rw [h3 b (by simp [own, hb, hz])]; exact hheap, rest⟩
      | dead => trivial
  · intro i j ri bi rj bj hij hi hj hrw y hyi hyj
    by_cases hsi : sp i
    · exact ((new i ri bi hsi hi).2 y hyi).2 j rj bj (Ne.symm hij) hj hyj hrw
    · by_cases hsj : sp j
      · exact ((new j rj bj hsj hj).2 y hyj).2 i ri bi hij hi hyi hrw.symm
      · obtain ⟨a1, a2, _⟩ := old i ri bi hsi hi
        obtain ⟨c1, c2, _⟩ := old j rj bj hsj hj
        rw [ow _ _ a2] at hyi
        rw [ow _ _ c2] at hyj
        exact hh.dj i j ri bi rj bj hij a1 c1 hrw y hyi hyj
  · intro j b hj y hy
    by_cases hs : sp j
    · exact ((new j true b hs hj).2 y hy).1 rfl
    · obtain ⟨h1, h2, _⟩ := old j true b hs hj
      rw [ow _ _ h2] at hy
      exact hh.wrt j b h1 y hy

def envSet (env : Env) (n : Nat) (x : Option Addr × Nat) : Env := fun k => if k = n then x else env k

theorem updH_one (n : Nat) (e : Ent) (k : Nat) : updH H [(n, e)] k = if k = n then some e else H k := by
  by_cases h : k = n
  · subst h; simp [updH, look]
  · have : Nat.beq n k = false := by
      cases q : Nat.beq n k with
      | false => rfl
      | true => exact absurd (Nat.eq_of_beq_eq_true q).symm h
    simp [updH, look, this, h]

theorem updH_two (m n : Nat) (d e : Ent) (k : Nat) : updH H [(m, d), (n, e)] k = if k = m then some d else if k = n then some e else H k := by
  have beq : ∀ a, Nat.beq a k = decide (k = a) := fun a => by
    cases q : Nat.beq a k with
    | true => simp [(Nat.eq_of_beq_eq_true q)]
    | false => simp; intro h; subst h; simp at q
  by_cases h : k = m
  · simp [updH, look, beq, h]
  · by_cases h2 : k = n
    · subst h2; simp [updH, look, beq, h]
    · simp [updH, look, beq, h, h2]

/-- A new block under a new name. -/
theorem HRel.add (hh : HRel wr env H w) {n : Nat} (hn : H n = none) {rw : Bool} {b : Blk} {x : Option Addr × Nat} (hw : ∀ k, k < w.heap.size → w'.heap[k]? = w.heap[k]?)
    (hnew : ∀ k, w.heap.size ≤ k → wr k) (hb : ∀ H', Ext env H (envSet env n x) H' → blkRel (envSet env n x) H' n rw b w') (ho : ∀ y, own (envSet env n x) n b = some y → w.heap.size ≤ y) :
    Ext env H (envSet env n x) (updH H [(n, rw, b)]) ∧ HRel wr (envSet env n x) (updH H [(n, rw, b)]) w' := by
  have ex : Ext env H (envSet env n x) (updH H [(n, rw, b)]) := ⟨fun j r c hj => by
    have hne : j ≠ n := fun e => by subst e; rw [hn] at hj; cases hj
    exact ⟨by simp [envSet, hne], r, c, by rw [updH_one, if_neg hne]; exact hj, stays_refl c⟩⟩
  refine ⟨ex, hh.step (fun k => k = n) ex ?_ ?_⟩
  · intro k r c hk hc
    rw [updH_one, if_neg hk] at hc
    exact ⟨hc, by simp [envSet, hk], fun y hy => hw y (own_lt hh hc hy)⟩
  · intro k r c hk hc
    subst hk
    rw [updH_one, if_pos rfl] at hc
    cases hc
    refine ⟨hb _ ex, fun y hy => ⟨fun _ => hnew y (ho y hy), ?_⟩⟩
    intro k' r' b' hne hk' hy' _
    rw [updH_one, if_neg hne] at hk'
    have : own env k' b' = some y := by
      rw [← hy']
      cases b' <;> simp [own, envSet, hne]
    have := own_lt hh hk' this
    have := ho y hy
    omega

theorem fr_alloc {o : Obj} (h0 : w'.heap = w.heap.push o) (h1 : w'.os = w.os) (h2 : w'.tape = w.tape) (h3 : w'.output = w.output) : Fr wr w w' ∧ ∀ k, k < w.heap.size → w'.heap[k]? = w.heap[k]? := by
  have h : ∀ k, k < w.heap.size → w'.heap[k]? = w.heap[k]? := fun k hk => by rw [h0, Array.getElem?_push, if_neg (by omega)]
  exact ⟨⟨h1, h2, h3, by rw [h0]; simp, fun k hk _ => h k hk⟩, h⟩

/-- A box. -/
theorem box_good (hh : HRel wr env H w) (hnew : ∀ k, w.heap.size ≤ k → wr k) {n : Nat} (hn : H n = none) {cs : List SV} {vs : Array Value} {E : Nat} (hc : concCs env H cs vs.toList)
    (h0 : w'.heap = w.heap.push (.cells vs E (0, 0))) (h1 : w'.os = w.os) (h2 : w'.tape = w.tape) (h3 : w'.output = w.output) :
    ∃ env', Ext env H env' (updH H [(n, true, .box cs)]) ∧ HRel wr env' (updH H [(n, true, .box cs)]) w' ∧ Fr wr w w' ∧
      conc env' (updH H [(n, true, .box cs)]) (.ptr n 0 0) (.pointer (some ⟨w.heap.size, 0, none⟩)) := by
  obtain ⟨f1, f2⟩ := fr_alloc (wr := wr) h0 h1 h2 h3
  have := hh.add hn (rw := true) (b := .box cs) (x := (some ⟨w.heap.size, 0, none⟩, 0)) f2 hnew (fun H'' ex =>
    ⟨w.heap.size, E, vs, (0, 0), by simp [envSet], by rw [h0]; simp, concCs_ext ex hc, fun _ => rfl⟩) (fun y hy => by simp [own, envSet] at hy; omega)
  refine ⟨_, this.1, this.2, f1, ?_⟩
  simp only [conc, conc2, concC, updH_one, if_true]
  exact ⟨w.heap.size, by simp [envSet], rfl⟩

/-- A list of the call's own. -/
theorem vec_good (hh : HRel wr env H w) (hnew : ∀ k, w.heap.size ≤ k → wr k) {n : Nat} (hn : H n = none) {U : Ty} {xs : List U.El} {vs : Array Value} {E c : Nat} (hl : xs.length ≤ c) (hs : c * U.sz ≤ vs.size) (hli : Lies U xs vs 0)
    (h0 : w'.heap = w.heap.push (.cells vs E (0, 0))) (h1 : w'.os = w.os) (h2 : w'.tape = w.tape) (h3 : w'.output = w.output) :
    ∃ env', Ext env H env' (updH H [(n, true, .vec U xs)]) ∧ HRel wr env' (updH H [(n, true, .vec U xs)]) w' ∧ Fr wr w w' ∧
      conc env' (updH H [(n, true, .vec U xs)]) (.vec n) (.slice (some ⟨w.heap.size, 0, none⟩) xs.length c) := by
  obtain ⟨f1, f2⟩ := fr_alloc (wr := wr) h0 h1 h2 h3
  have := hh.add hn (rw := true) (b := .vec U xs) (x := (some ⟨w.heap.size, 0, none⟩, c)) f2 hnew (fun H'' ex =>
    ⟨by simpa [envSet] using hl, .inr ⟨w.heap.size, 0, E, vs, (0, 0), by simp [envSet], by rw [h0]; simp, by simpa [envSet] using hs, hli, fun _ => rfl⟩⟩)
    (fun y hy => by simp only [own, envSet, if_true] at hy; split at hy <;> simp at hy; omega)
  refine ⟨_, this.1, this.2, f1, ?_⟩
  simp only [conc, conc2, concC, updH_one, if_true]
  simp [envSet]

theorem fresh_inv {α : Type} {n : Nat} {k : RM α} {r : α} (h : (fresh n k).run T H = some r) : H n = none ∧ k.run T H = some r := by
  simp only [fresh, RM.run] at h
  split at h
  · exact ⟨by assumption, h⟩
  · simp [RM.run] at h

theorem concC_of {s : SV} {v : Value} (h : conc env H s v) (h1 : ∀ cs, s ≠ .agg cs) (h2 : ∀ cs, s ≠ .tup cs) : concC env H s v := by
  cases s <;> first | exact h | exact absurd rfl (h1 _) | exact absurd rfl (h2 _)

theorem conc_cells {s : SV} {v : Value} (h : conc env H s v) (hs : solid s.cells = true) : concCs env H s.cells v.cells.toList := by
  by_cases h1 : ∃ cs, s = .agg cs
  · obtain ⟨cs, rfl⟩ := h1
    obtain ⟨vs, e, h⟩ := h
    subst e
    exact h
  · by_cases h2 : ∃ cs, s = .tup cs
    · obtain ⟨cs, rfl⟩ := h2
      simp [SV.cells, solid] at hs
    · have hc := concC_of h (fun cs e => h1 ⟨cs, e⟩) (fun cs e => h2 ⟨cs, e⟩)
      have ha : s.cells = [s] := by cases s <;> first | rfl | exact absurd ⟨_, rfl⟩ h1
      have hn : s ≠ .any := fun e => by subst e; simp [SV.cells, solid] at hs
      have h1 := concC_one hc hn
      have : v.cells = #[v] := by cases v <;> first | rfl | (cases h1)
      rw [this, ha]
      exact ⟨hc, trivial⟩

theorem box_ok (hh : HRel wr env H w) (hnew : ∀ k, w.heap.size ≤ k → wr k) (hs : ∀ d, conc env H (T d) (a.tmps.getD d undef)) {tt : Types} {S : Tab} {d : Nat} {x : Operand} {t : Nat} {ty : Nat} {pos : String} {af : Array Edge} {g : Option (Nat × Bool)}
    (h : (evOp tt S ⟨some d, .box t x, ty, pos, af, g⟩).run T H = some δ) : Good P wr env H a w ⟨some d, .box t x, ty, pos, af, g⟩ δ := by
  simp only [evOp] at h
  obtain ⟨s, q, hc⟩ := opv_inv hs h
  clear h
  split at q
  case h_2 => simp [RM.run] at q
  rename_i hso
  obtain ⟨hn, q⟩ := fresh_inv q
  simp only [RM.run, Option.some.injEq] at q
  subst q
  have := conc_cells hc hso
  refine .inl ⟨.pointer (some ⟨w.heap.size, 0, none⟩), { w with heap := w.heap.push (.cells (a.eval x).cells t) }, ?_, ?_⟩
  · simp [execOp, Instr.box, newVar, newRow]
  · exact box_good hh hnew hn this rfl rfl rfl rfl

theorem zero_conc : ∀ {zs : List SV} {vs : List Value}, zeroFits zs vs = true → concCs env H zs vs
  | [], [], _ => trivial
  | .int k n :: r, .int j m :: s, h => by
    simp only [zeroFits, Bool.and_eq_true, beq_iff_eq] at h
    exact ⟨by simp [concC, h.1.1, h.1.2], zero_conc h.2⟩
  | .bool b :: r, .bool c :: s, h => by
    simp only [zeroFits, Bool.and_eq_true, beq_iff_eq] at h
    exact ⟨by simp [concC, h.1], zero_conc h.2⟩
  | .nilp :: r, .pointer none :: s, h => ⟨rfl, zero_conc (by simpa [zeroFits] using h)⟩
  | .nilsl :: r, .slice x 0 0 :: s, h => ⟨⟨x, rfl⟩, zero_conc (by simpa [zeroFits] using h)⟩

theorem alloc_ok (hh : HRel wr env H w) (hnew : ∀ k, w.heap.size ≤ k → wr k) (hs : ∀ d, conc env H (T d) (a.tmps.getD d undef)) {tt : Types} (ht : TabOk P tt) {S : Tab} {d : Nat} {t : Nat} {ty : Nat} {pos : String} {af : Array Edge} {g : Option (Nat × Bool)}
    (h : (evOp tt S ⟨some d, .alloc t, ty, pos, af, g⟩).run T H = some δ) : Good P wr env H a w ⟨some d, .alloc t, ty, pos, af, g⟩ δ := by
  simp only [evOp] at h
  obtain ⟨i, hi, q⟩ := tiOf_inv h
  clear h
  obtain ⟨hn, q⟩ := fresh_inv q
  simp only [RM.run, Option.some.injEq] at q
  subst q
  obtain ⟨n, u, hin, hu, _, _, _, z, hz, hzf, _⟩ := typeOk_some (ht _ _ hi)
  refine .inl ⟨.pointer (some ⟨w.heap.size, 0, none⟩), { w with heap := w.heap.push (.cells z.cells t) }, ?_, ?_⟩
  · simp [execOp, Instr.alloc, zeroValue, typeInfo, hin, hz, newVar, newRow]
  · exact box_good hh hnew hn (zero_conc hzf) rfl rfl rfl rfl

theorem get_splice {α : Type} {l us : List α} {p : Nat} (h : p + us.length ≤ l.length) (q : Nat) :
    (l.take p ++ us ++ l.drop (p + us.length))[q]? = if q < p then l[q]? else if q < p + us.length then us[q - p]? else l[q]? := by
  have hp : p ≤ l.length := by omega
  by_cases h1 : q < p
  · rw [if_pos h1, List.append_assoc, List.getElem?_append_left (by simp; omega), List.getElem?_take, if_pos h1]
  · rw [if_neg h1]
    by_cases h2 : q < p + us.length
    · rw [if_pos h2, List.getElem?_append_left (by simp; omega), List.getElem?_append_right (by simp; omega)]
      congr 1
      simp
      omega
    · rw [if_neg h2, List.getElem?_append_right (by simp; omega), List.getElem?_drop]
      congr 1
      simp
      omega

theorem plain_val {c : SV} {v : Value} (h : plain c = true) (hc : concC env H c v) : v = svl c := by
  cases c <;> first | exact hc | (cases h)

theorem plain_vals : ∀ {cs : List SV} {vs : List Value}, (∀ c ∈ cs, plain c = true) → concCs env H cs vs → vs = cs.map svl
  | [], [], _, _ => rfl
  | c :: r, v :: s, h, hc => by
    rw [plain_val (h c (by simp)) hc.1, plain_vals (cs := r) (vs := s) (fun x hx => h x (by simp [hx])) hc.2]
    rfl

theorem solid_one : ∀ {cs : List SV} {vs : List Value}, solid cs = true → concCs env H cs vs → ∀ v ∈ vs, v.oneCell' = true
  | [], [], _, _ => by simp
  | c :: r, v :: s, h, hc => by
    intro u hu
    have hn : c ≠ .any := fun e => by subst e; simp [solid] at h
    have hr : solid r = true := by cases c <;> first | exact h | (cases h)
    rcases List.mem_cons.1 hu with e | e
    · subst e; exact concC_one hc.1 hn
    · exact solid_one (cs := r) (vs := s) hr hc.2 u e

theorem dec_enc {U : Ty} {cs : List SV} {x : U.El} (h : U.dec cs = some x) : U.enc x = cs := by
  unfold Ty.dec at h
  split at h <;> first | (cases h; done) | (cases h; rfl)

theorem run_storeAt {t : Nat} {n : TypeInfo} (hn : P.info? t = some n) {b o : Nat} {v : Value} {us : List Value} (hu : v.cells.toList = us) (hl : us.length = n.size) {cur : Array Value} {E : TypeId}
    (hg : w.heap[b]? = some (.cells cur E (0, 0))) (hf : o + us.length ≤ cur.size) (h1 : ∀ u ∈ us, u.oneCell' = true) :
    (Instr.storeAt t (.pointer (some ⟨b, o, none⟩)) v).run P w = .ok () (w.setRow b (cur.toList.take o ++ us ++ cur.toList.drop (o + us.length)).toArray) := by
  have hs : v.cells.size = n.size := by rw [← hl, ← hu]; simp
  have := run_storeCells_at P b o E us 0 cur w hg (by simpa using hf) h1
  simp only [Nat.add_zero] at this
  simp [Instr.storeAt, Instr.sureAddr, storeVar, run_sizeOf hn, hs, hu, this]

theorem fr_setRow {b : Nat} {cs : Array Value} (hb : wr b) : Fr wr w (w.setRow b cs) :=
  ⟨rfl, rfl, rfl, by simp [World.setRow], fun k _ hk => setRow_other w b k cs (fun e => hk (e ▸ hb))⟩

theorem splice_length {cs vs : List SV} {o : Nat} (h : o + vs.length ≤ cs.length) : (splice cs o vs).length = cs.length := by
  simp [splice]; omega

theorem mem_splice {cs vs : List SV} {o : Nat} {c : SV} (h : c ∈ vs) : c ∈ splice cs o vs := by simp [splice, h]

/-- A list whose one element is written anew. -/
theorem lies_set {U : Ty} {xs : List U.El} {vs : Array Value} {off e : Nat} (hl : Lies U xs vs off) (he : e < xs.length) {x : U.El} {cs : List SV} {o : Nat} (hx : U.enc x = splice (U.enc (U.ix xs e)) o cs)
    (ho : o + cs.length ≤ U.sz) (hsz : off + xs.length * U.sz ≤ vs.size) :
    Lies U (xs.set e x) (vs.toList.take (off + e * U.sz + o) ++ cs.map svl ++ vs.toList.drop (off + e * U.sz + o + (cs.map svl).length)).toArray off := by
  intro e' he' o' ho'
  simp only [List.length_set] at he'
  have hes : e * U.sz + U.sz ≤ xs.length * U.sz := by
    have : (e + 1) * U.sz ≤ xs.length * U.sz := Nat.mul_le_mul_right _ he
    rw [Nat.add_mul, Nat.one_mul] at this
    exact this
  have hes' : e' * U.sz + U.sz ≤ xs.length * U.sz := by
    have : (e' + 1) * U.sz ≤ xs.length * U.sz := Nat.mul_le_mul_right _ he'
    rw [Nat.add_mul, Nat.one_mul] at this
    exact this
  rw [List.getElem?_toArray, get_splice (by simp; omega)]
  simp only [List.length_map]
  have hL := hl e' he' o' ho'
  rw [← Array.getElem?_toList] at hL
  by_cases heq : e' = e
  · subst heq
    have hix : U.ix (xs.set e' x) e' = x := by simp [Ty.ix, List.getD, he]
    rw [hix, hx]
    have hlen : (U.enc (U.ix xs e')).length = U.sz := enc_length U _
    have hg : (splice (U.enc (U.ix xs e')) o cs)[o']? = if o' < o then (U.enc (U.ix xs e'))[o']? else if o' < o + cs.length then cs[o' - o]? else (U.enc (U.ix xs e'))[o']? := get_splice (by omega) o'
    split
    · rw [hL]
      rw [if_pos (by omega)] at hg
      simp [List.getD, hg]
    · rename_i h1
      rw [if_neg (by omega)] at hg
      split
      · rename_i h2
        rw [if_pos (by omega)] at hg
        have hi : off + e' * U.sz + o' - (off + e' * U.sz + o) = o' - o := by omega
        rw [hi]
        have hlt : o' - o < cs.length := by omega
        simp [List.getD, hg, hlt]
      · rename_i h2
        rw [if_neg (by omega)] at hg
        rw [hL]
        simp [List.getD, hg]
  · have hix : U.ix (xs.set e x) e' = U.ix xs e' := by simp [Ty.ix, List.getD, Ne.symm heq]
    rw [hix]
    have hsep : e' * U.sz + U.sz ≤ e * U.sz ∨ e * U.sz + U.sz ≤ e' * U.sz := by
      rcases Nat.lt_or_ge e' e with h | h
      · left
        have : (e' + 1) * U.sz ≤ e * U.sz := Nat.mul_le_mul_right _ h
        rw [Nat.add_mul, Nat.one_mul] at this
        exact this
      · right
        have : (e + 1) * U.sz ≤ e' * U.sz := Nat.mul_le_mul_right _ (by omega)
        rw [Nat.add_mul, Nat.one_mul] at this
        exact this
    split
    · exact hL
    · split
      · rename_i h1 h2
        rcases hsep with h | h <;> omega
      · exact hL

theorem store_ok (hh : HRel wr env H w) (hs : ∀ d, conc env H (T d) (a.tmps.getD d undef)) {tt : Types} (ht : TabOk P tt) {S : Tab} {x y : Operand} {t : Nat} {ty : Nat} {pos : String} {af : Array Edge} {g : Option (Nat × Bool)}
    (h : (evOp tt S ⟨none, .store t x y, ty, pos, af, g⟩).run T H = some δ) : Good P wr env H a w ⟨none, .store t x y, ty, pos, af, g⟩ δ := by
  simp only [evOp] at h
  obtain ⟨i, hi, q⟩ := tiOf_inv h
  clear h
  obtain ⟨s, h, hc⟩ := opv_inv hs q
  clear q
  cases s <;> simp only [RM.run, reduceCtorEq] at h
  rename_i j e o
  obtain ⟨v, q, hv⟩ := opv_inv hs h
  clear h
  obtain ⟨n, u, hin, hu, hsz, _, _, _⟩ := typeOk_some (ht _ _ hi)
  unfold writeBlk at q
  simp only [RM.run] at q
  split at q
  · rename_i cs hj hb
    simp only [Bool.and_eq_true] at hb
    have hn : v.cells.length = i.size := Nat.eq_of_beq_eq_true hb.1
    split at q
    case h_2 => simp [RM.run] at q
    rename_i hq
    simp only [Bool.and_eq_true] at hq
    have hle : o + i.size ≤ cs.length := Nat.le_of_ble_eq_true hq.2
    simp only [RM.run, Option.some.injEq] at q
    subst q
    have hcells := conc_cells hv hb.2
    have hlen := concCs_length hcells
    simp only [conc, conc2, concC, hj] at hc
    obtain ⟨b, hb1, ea⟩ := hc
    obtain ⟨b', E, vs, fz, hb2, hheap, hcs, hfz⟩ := hh.blk j true _ hj
    rw [hb1] at hb2
    cases hb2
    have hfz := hfz rfl
    subst hfz
    have hl2 := concCs_length hcs
    simp only [Array.length_toList] at hl2 hlen
    have hst := run_storeAt (w := w) hin (v := a.eval y) (us := (a.eval y).cells.toList) rfl (by simp; omega) hheap (o := o) (by simp; omega) (solid_one hb.2 hcells)
    have hown : own env j (.box cs) = some b := by simp [own, hb1]
    have ex : Ext env H env (updH H [(j, true, .box (splice cs o v.cells))]) := ⟨fun k r c hk => ⟨rfl, by
      rw [updH_one]
      by_cases hkj : k = j
      · subst hkj; rw [hj] at hk; cases hk; rw [if_pos rfl]; exact ⟨_, _, rfl, trivial⟩
      · rw [if_neg hkj]; exact ⟨r, c, hk, stays_refl c⟩⟩⟩
    refine .inr (.inl ⟨w.setRow b _, by simp [execOp, ea, hst]; rfl, env, ex, ?_, fr_setRow (hh.wrt j _ hj b hown), ⟨#[], rfl, trivial⟩⟩)
    refine hh.step (fun k => k = j) ex ?_ ?_
    · intro k r c hk hc
      rw [updH_one, if_neg hk] at hc
      refine ⟨hc, rfl, fun y' hy => setRow_other w b y' _ (fun e => ?_)⟩
      subst e
      exact hh.dj j k true _ r c (Ne.symm hk) hj hc (.inl rfl) _ hown hy
    · intro k r c hk hc
      subst hk
      rw [updH_one, if_pos rfl] at hc
      cases hc
      refine ⟨⟨b, E, _, (0, 0), hb1, setRow_heap w b vs _ E (0, 0) hheap, ?_, fun _ => rfl⟩, ?_⟩
      · have h1 := concCs_ext ex hcs
        have h2 := concCs_ext ex hcells
        have hL : v.cells.length = (a.eval y).cells.size := by omega
        have h3 := concCs_append (concCs_append (concCs_take (n := o) h1) h2) (concCs_drop (n := o + v.cells.length) h1)
        have h4 : splice cs o v.cells = cs.take o ++ v.cells ++ cs.drop (o + v.cells.length) := rfl
        rw [← h4, hL, List.append_assoc] at h3
        exact h3
      · intro y' hy
        simp only [own, hb1, Option.map_some, Option.some.injEq] at hy
        subst hy
        refine ⟨fun _ => hh.wrt k _ hj b hown, ?_⟩
        intro k' r' b' hne hk' hy' _
        rw [updH_one, if_neg hne] at hk'
        exact hh.dj k k' true _ r' b' (Ne.symm hne) hj hk' (.inl rfl) _ hown hy'
  · rename_i U xs hj hb
    simp only [Bool.and_eq_true] at hb
    have hn : v.cells.length = i.size := Nat.eq_of_beq_eq_true hb.1
    split at q
    case h_2 => simp [RM.run] at q
    rename_i x' hq hd
    have hle : o + i.size ≤ U.sz := Nat.le_of_ble_eq_true hq
    have q : some (⟨none, noSlot, [(j, true, .vec U (xs.set e x'))]⟩ : Delta) = some δ := by
      split at q
      · simpa only [RM.run] using q
      · rw [forceL_eq] at q
        have h9 : setC U xs e o v.cells = xs.set e x' := by simp only [setC, hd]
        simpa only [RM.run, h9] using q
    simp only [Option.some.injEq] at q
    subst q
    have hcells := conc_cells hv hb.2
    have hlen := concCs_length hcells
    have henc := dec_enc hd
    have hpl : ∀ c ∈ v.cells, plain c = true := fun c hc => enc_plain U x' c (by rw [henc]; exact mem_splice hc)
    have hvals := plain_vals hpl hcells
    simp only [conc, conc2, concC, hj] at hc
    obtain ⟨b, off, hb1, hel, ea⟩ := hc
    obtain ⟨hcap, hrest⟩ := hh.blk j true _ hj
    rcases hrest with hz | ⟨b', off', E, vs, fz, hb2, hheap, hsize, hlies, hfz⟩
    · omega
    rw [hb1] at hb2
    cases hb2
    have hfz := hfz rfl
    subst hfz
    have hmul : xs.length * U.sz ≤ (env j).2 * U.sz := Nat.mul_le_mul_right _ hcap
    have hes : e * U.sz + U.sz ≤ xs.length * U.sz := by
      have : (e + 1) * U.sz ≤ xs.length * U.sz := Nat.mul_le_mul_right _ hel
      rw [Nat.add_mul, Nat.one_mul] at this
      exact this
    have hst := run_storeAt (w := w) hin (v := a.eval y) (us := v.cells.map svl) hvals (by simp; omega) hheap (o := off + e * U.sz + o) (by simp; omega) (by rw [← hvals]; exact solid_one hb.2 hcells)
    have hc0 : (env j).2 ≠ 0 := by omega
    have hown : ∀ ys : List U.El, own env j (.vec U ys) = some b := fun ys => by simp [own, hb1, hc0]
    have ex : Ext env H env (updH H [(j, true, .vec U (xs.set e x'))]) := ⟨fun k r c hk => ⟨rfl, by
      rw [updH_one]
      by_cases hkj : k = j
      · subst hkj; rw [hj] at hk; cases hk; rw [if_pos rfl]; exact ⟨_, _, rfl, rfl, by simp⟩
      · rw [if_neg hkj]; exact ⟨r, c, hk, stays_refl c⟩⟩⟩
    refine .inr (.inl ⟨w.setRow b _, by simp [execOp, ea, hst]; rfl, env, ex, ?_, fr_setRow (hh.wrt j _ hj b (hown _)), ⟨#[], rfl, trivial⟩⟩)
    refine hh.step (fun k => k = j) ex ?_ ?_
    · intro k r c hk hc
      rw [updH_one, if_neg hk] at hc
      refine ⟨hc, rfl, fun y' hy => setRow_other w b y' _ (fun e => ?_)⟩
      subst e
      exact hh.dj j k true _ r c (Ne.symm hk) hj hc (.inl rfl) _ (hown _) hy
    · intro k r c hk hc
      subst hk
      rw [updH_one, if_pos rfl] at hc
      cases hc
      refine ⟨⟨by simpa using hcap, .inr ⟨b, off, E, _, (0, 0), hb1, setRow_heap w b vs _ E (0, 0) hheap, ?_, ?_, fun _ => rfl⟩⟩, ?_⟩
      · simp; omega
      · have := lies_set hlies hel henc (by omega) (by omega)
        simpa using this
      · intro y' hy
        rw [hown] at hy
        cases hy
        refine ⟨fun _ => hh.wrt k _ hj b (hown _), ?_⟩
        intro k' r' b' hne hk' hy' _
        rw [updH_one, if_neg hne] at hk'
        exact hh.dj k k' true _ r' b' (Ne.symm hne) hj hk' (.inl rfl) _ (hown _) hy'
  · simp [RM.run] at q

end

end Go.Proofs.YtnahfbjdicjdpaaGreat.Sym

namespace Go.Proofs.YtnahfbjdicjdpaaGreat.Sym
open Go
set_option linter.unusedVariables false
set_option linter.unusedSimpArgs false

section
variable {P : Program} {wr : Nat → Prop} {env env' : Env} {H H' : Hp} {a : Act} {w w' : World} {T : Nat → SV} {δ : Delta}

theorem fold_set (off : Nat) : ∀ (us : List Value) (k : Nat) (cs : Array Value), off + k + us.length ≤ cs.size →
    ((us.zipIdx k).foldl (fun cs (c, j) => cs.setIfInBounds (off + j) c) cs).toList = cs.toList.take (off + k) ++ us ++ cs.toList.drop (off + k + us.length)
  | [], k, cs, _ => by simp
  | u :: r, k, cs, h => by
    simp only [List.length_cons] at h
    simp only [List.zipIdx_cons, List.foldl_cons]
    rw [fold_set off r (k + 1) _ (by simp; omega)]
    apply List.ext_getElem?
    intro q
    rw [show off + k + (u :: r).length = off + k + (u :: r).length from rfl, get_splice (l := cs.toList) (us := u :: r) (p := off + k) (by simp; omega)]
    have := get_splice (l := (cs.setIfInBounds (off + k) u).toList) (us := r) (p := off + (k + 1)) (by simp; omega) q
    rw [this]
    simp only [Array.toList_setIfInBounds, List.getElem?_set, List.length_cons, Array.length_toList]
    by_cases h1 : q < off + k
    · rw [if_pos (by omega), if_pos h1, if_neg (by omega)]
    · rw [if_neg h1]
      by_cases h2 : q = off + k
      · subst h2
        rw [if_pos (by omega), if_pos rfl, if_pos (by omega), if_pos (by omega)]
        simp
      · by_cases h3 : q < off + k + (r.length + 1)
        · rw [if_neg (by omega), if_pos (by omega), if_pos h3]
          rw [show q - (off + k) = (q - (off + (k + 1))) + 1 by omega, List.getElem?_cons_succ]
        · rw [if_neg (by omega), if_neg (by omega), if_neg h3, if_neg (by omega)]

def partsRel (env : Env) (H : Hp) : List (Nat × SV) → List (Nat × Value) → Prop
  | [], [] => True
  | (i, s) :: r, (j, v) :: t => i = j ∧ conc env H s v ∧ partsRel env H r t
  | _, _ => False

theorem opParts_inv {α : Type} (hs : ∀ d, conc env H (T d) (a.tmps.getD d undef)) : ∀ {xs : List (Nat × Operand)} {k : List (Nat × SV) → RM α} {r : α}, (opParts xs k).run T H = some r →
    ∃ ps, (k ps).run T H = some r ∧ partsRel env H ps (xs.map fun (i, x) => (i, a.eval x))
  | [], k, r, h => ⟨[], h, trivial⟩
  | (i, x) :: xs, k, r, h => by
    simp only [opParts] at h
    obtain ⟨s, q, hc⟩ := opv_inv hs h
    obtain ⟨ps, q, hps⟩ := opParts_inv hs q
    exact ⟨(i, s) :: ps, q, rfl, hc, hps⟩

theorem fill_ok {fields place : Nat → Option (Nat × Nat)} (hpl : ∀ i o n, fields i = some (o, n) → place i = some (o, n)) :
    ∀ {ps : List (Nat × SV)} {vs : List (Nat × Value)} {cells cs : List SV} {cv : Array Value}, partsRel env H ps vs → concCs env H cells cv.toList → fillS fields cells ps = some cs →
      ∃ vals, Instr.fill place cv vs = some vals ∧ concCs env H cs vals.toList
  | [], [], cells, cs, cv, _, hc, h => by
    simp only [fillS, Option.some.injEq] at h
    subst h
    exact ⟨cv, rfl, hc⟩
  | (i, s) :: r, (j, v) :: t, cells, cs, cv, hp, hc, h => by
    obtain ⟨rfl, hsv, hp⟩ := hp
    unfold fillS at h
    split at h
    case h_2 => cases h
    rename_i o n hf
    split at h
    case h_2 => cases h
    rename_i hb
    simp only [Bool.and_eq_true] at hb
    have h1 : s.cells.length = n := Nat.eq_of_beq_eq_true hb.1.1
    have h2 : o + n ≤ cells.length := Nat.le_of_ble_eq_true hb.1.2
    have hcells := conc_cells hsv hb.2
    have hl := concCs_length hcells
    have hl2 := concCs_length hc
    simp only [Array.length_toList] at hl hl2
    have hfold := fold_set o v.cells.toList 0 cv (by simp; omega)
    simp only [Nat.add_zero] at hfold
    have hnew : concCs env H (splice cells o s.cells) ((v.cells.toList.zipIdx 0).foldl (fun cs (c, j) => cs.setIfInBounds (o + j) c) cv).toList := by
      rw [hfold]
      simp only [splice]
      rw [show v.cells.toList.length = s.cells.length by simp; omega]
      exact concCs_append (concCs_append (concCs_take hc) hcells) (concCs_drop hc)
    obtain ⟨vals, hv, hcv⟩ := fill_ok hpl hp hnew h
    refine ⟨vals, ?_, hcv⟩
    unfold Instr.fill
    rw [hpl _ _ _ hf]
    simp only
    rw [if_neg (by simp; omega)]
    rw [← hv]
    congr 1
    rw [← Array.foldl_toList]
    simp

theorem build_ok (hh : HRel wr env H w) (hs : ∀ d, conc env H (T d) (a.tmps.getD d undef)) {tt : Types} (ht : TabOk P tt) {S : Tab} {d : Nat} {ps : Array (Nat × Operand)} {t : Nat} {ty : Nat} {pos : String} {af : Array Edge} {g : Option (Nat × Bool)}
    (h : (evOp tt S ⟨some d, .build t ps, ty, pos, af, g⟩).run T H = some δ) : Good P wr env H a w ⟨some d, .build t ps, ty, pos, af, g⟩ δ := by
  simp only [evOp] at h
  obtain ⟨i, hi, q⟩ := tiOf_inv h
  clear h
  obtain ⟨sp, h, hsp⟩ := opParts_inv hs q
  clear q
  split at h
  case h_2 => simp [RM.run] at h
  rename_i cs hag hf
  simp only [ret1, RM.run, Option.some.injEq] at h
  subst h
  obtain ⟨n, u, hin, hu, hsz, _, _, z, hz, hzf, _⟩ := typeOk_some (ht _ _ hi)
  obtain ⟨u', hu', hda⟩ := typeOk_agg (ht _ _ hi)
  rw [hu] at hu'
  cases hu'
  rw [hag] at hda
  -- a struct: an array has no entry in the table
  have hst : ∃ fs, u = .struct fs ∧ (fs.toList.map fun f => (f.offset, P.cellsOf f.type)) = i.fields ∧ ∀ f ∈ fs.toList, 0 < P.cellsOf f.type := by
    have h := ht _ _ hi
    unfold typeOk at h
    rw [hin, hu] at h
    simp only [Bool.and_eq_true] at h
    obtain ⟨_, h⟩ := h
    split at h
    case h_1 =>
      rename_i fs
      simp only [Bool.and_eq_true, beq_iff_eq] at h
      obtain ⟨⟨⟨⟨⟨_, h1⟩, h2⟩, _⟩, _⟩, _⟩ := h
      refine ⟨fs, rfl, h1, fun f hf => ?_⟩
      have := List.all_eq_true.1 h2 f hf
      simp only [Bool.and_eq_true, decide_eq_true_eq] at this
      exact this.1
    all_goals simp [hag] at h
  obtain ⟨fs, rfl, hfs, hpos⟩ := hst
  have hplaces : ∀ w, (fs.mapM fun f => (do pure (f.offset, ← sizeOf f.type) : Sem (Nat × Nat))).run P w = .ok (fs.map fun f => (f.offset, P.cellsOf f.type)) w := by
    intro w
    rw [Array.mapM_eq_mapM_toList]
    have : ∀ l : List Field, (∀ f ∈ l, 0 < P.cellsOf f.type) → (l.mapM fun f => (do pure (f.offset, ← sizeOf f.type) : Sem (Nat × Nat))).run P w = .ok (l.map fun f => (f.offset, P.cellsOf f.type)) w := by
      intro l
      induction l with
      | nil => intro _; rfl
      | cons f r ih =>
        intro hl
        have h1 : (sizeOf f.type).run P w = .ok (P.cellsOf f.type) w := sizeOf_run rfl (hl f (by simp))
        simp only [List.mapM_cons, Sem.run_bind, h1, Result.andThen_ok, Sem.run_pure, ih fun g hg => hl g (by simp [hg]), List.map_cons]
    simp only [Sem.run_map, this _ hpos, Result.andThen_ok]
    congr 1
    apply Array.ext'
    simp
  obtain ⟨vals, hv, hcv⟩ := fill_ok (place := ((fs.map fun f => (f.offset, P.cellsOf f.type))[·]?)) (fun k o m hk => by
    rw [← hfs] at hk
    simpa using hk) hsp (zero_conc hzf) hf
  refine good_pure (v := .agg vals) hh ?_ ⟨vals, rfl, hcv⟩
  have hpt : (ps.map fun (i, x) => (i, a.eval x)).toList = ps.toList.map fun (i, x) => (i, a.eval x) := by simp
  simp only [execOp, Instr.build, zeroValue, typeInfo, Sem.run_bind, run_program, Result.andThen_ok, hin, hz, Sem.run_pure, run_underlying hu, hplaces, hpt, hv]

theorem rep_ok {zs : List SV} {us : List Value} (hc : concCs env H zs us) : ∀ n, concCs env H (rep n zs) ((List.range (n * us.length)).map fun q => us.toArray[q % us.toArray.size]!)
  | 0 => by simp [rep, concCs]
  | n + 1 => by
    have ih := rep_ok hc n
    have : (n + 1) * us.length = us.length + n * us.length := by rw [Nat.add_mul, Nat.one_mul, Nat.add_comm]
    rw [this, List.range_add, List.map_append, List.map_map]
    simp only [rep]
    refine concCs_append ?_ ?_
    · have : (List.range us.length).map (fun q => us.toArray[q % us.toArray.size]!) = us := by
        apply List.ext_getElem
        · simp
        · intro q h1 h2
          simp at h1
          simp [Nat.mod_eq_of_lt h1, h1]
      rw [this]
      exact hc
    · have : ((fun q => us.toArray[q % us.toArray.size]!) ∘ fun x => us.length + x) = fun q => us.toArray[q % us.toArray.size]! := by
        funext q
        simp
      rw [this]
      exact ih

theorem decAll_length {U : Ty} : ∀ {cs : List (List SV)} {xs : List U.El}, decAll U cs = some xs → xs.length = cs.length
  | [], xs, h => by simp only [decAll, Option.some.injEq] at h; subst h; rfl
  | c :: r, xs, h => by
    unfold decAll at h
    split at h
    · rename_i x y h1 h2
      cases h
      simp [decAll_length h2]
    · cases h

theorem chunks_length {n : Nat} : ∀ {m : Nat} {cs : List SV}, (chunks n m cs).length = m
  | 0, _ => rfl
  | m + 1, cs => by simp [chunks, chunks_length (n := n) (m := m)]

/-- Cells that are read as elements lie as the elements do. -/
theorem lies_chunks {U : Ty} : ∀ {m : Nat} {cs : List SV} {xs : List U.El} {us : List Value}, decAll U (chunks U.sz m cs) = some xs → concCs env H cs us →
    ∀ e, e < xs.length → ∀ o, o < U.sz → us[e * U.sz + o]? = some (svl ((U.enc (U.ix xs e)).getD o .any))
  | 0, cs, xs, us, h, _ => by
    simp only [chunks, decAll, Option.some.injEq] at h
    subst h
    intro e he
    simp at he
  | m + 1, cs, xs, us, h, hc => by
    unfold chunks decAll at h
    split at h
    case h_2 => cases h
    rename_i x ys h1 h2
    cases h
    intro e he o ho
    have henc := dec_enc h1
    cases e with
    | zero =>
      have hpl : ∀ c ∈ cs.take U.sz, plain c = true := fun c hc => enc_plain U x c (by rw [henc]; exact hc)
      have hv := plain_vals hpl (concCs_take (n := U.sz) hc)
      have hl := enc_length U x
      have hx : U.ix (x :: ys) 0 = x := rfl
      rw [hx, henc]
      simp only [Nat.zero_mul, Nat.zero_add]
      have h3 : us[o]? = (us.take U.sz)[o]? := by rw [List.getElem?_take, if_pos ho]
      have h4 : o < (cs.take U.sz).length := by rw [← henc, hl]; exact ho
      have h5 : (cs.take U.sz)[o]? = some (cs.take U.sz)[o] := List.getElem?_eq_getElem h4
      rw [h3, hv, List.getElem?_map, List.getD_eq_getElem?_getD, h5]
      rfl
    | succ e =>
      have hx : U.ix (x :: ys) (e + 1) = U.ix ys e := by simp [Ty.ix, List.getD]
      rw [hx]
      have := lies_chunks (m := m) h2 (concCs_drop (n := U.sz) hc) e (by simpa using he) o ho
      rw [← this, List.getElem?_drop]
      congr 1
      rw [Nat.add_mul]
      omega

theorem zero_size {zs : List SV} {us : List Value} (h : zeroFits zs us = true) : us.length = zs.length := (concCs_length (zero_conc (env := fun _ => (none, 0)) (H := fun _ => none) h)).symm

theorem buildSlice_ok (hh : HRel wr env H w) (hnew : ∀ k, w.heap.size ≤ k → wr k) (hs : ∀ d, conc env H (T d) (a.tmps.getD d undef)) {tt : Types} (ht : TabOk P tt) {S : Tab} {d m : Nat} {ps : Array (Nat × Operand)} {t : Nat} {ty : Nat} {pos : String} {af : Array Edge} {g : Option (Nat × Bool)}
    (h : (evOp tt S ⟨some d, .buildSlice t m ps, ty, pos, af, g⟩).run T H = some δ) : Good P wr env H a w ⟨some d, .buildSlice t m ps, ty, pos, af, g⟩ δ := by
  simp only [evOp] at h
  obtain ⟨i, hi, q⟩ := tiOf_inv h
  clear h
  obtain ⟨e, he, h⟩ := tiOf_inv q
  clear q
  obtain ⟨sp, q, hsp⟩ := opParts_inv hs h
  clear h
  split at q
  case h_2 => simp [RM.run] at q
  rename_i U cs hU hf hle
  split at q
  case h_2 => simp [RM.run] at q
  rename_i xs hxs
  obtain ⟨hn, q⟩ := fresh_inv q
  simp only [RM.run, Option.some.injEq] at q
  subst q
  obtain ⟨hu, n, hin, hsz⟩ := typeOk_slice (ht _ _ hi) hU
  obtain ⟨n', u', hin', hu', hsz', _, hzl, z, hz, hzf, _⟩ := typeOk_some (ht _ _ he)
  rw [hin] at hin'
  cases hin'
  have hes : e.size = U.sz := by omega
  have hzs := zero_size hzf
  simp only [Array.length_toList] at hzs
  have hle := Nat.le_of_ble_eq_true hle
  have hrep := rep_ok (zero_conc (env := env) (H := H) hzf) m
  have hcells : concCs env H (rep m e.zero) (((Array.range (m * n.size)).map fun q => z.cells[q % z.cells.size]!)).toList := by
    have : z.cells.toList.length = n.size := by simp; omega
    rw [this] at hrep
    simpa using hrep
  obtain ⟨vals, hv, hcv⟩ := fill_ok (place := fun k => some (k * n.size, n.size)) (fun k o q hk => by rw [← hk, hsz', ]) hsp hcells hf
  have hxl := decAll_length hxs
  rw [chunks_length] at hxl
  have hli : Lies U xs vals 0 := by
    intro k hk o ho
    rw [hes] at hxs
    have := lies_chunks hxs hcv k hk o ho
    rw [Nat.zero_add]
    simpa using this
  have hcl := concCs_length hcv
  have hvs : m * U.sz ≤ vals.size := by
    have : ∀ {ps : List (Nat × SV)} {fields : Nat → Option (Nat × Nat)} {cells cs : List SV}, fillS fields cells ps = some cs → cs.length = cells.length := by
      intro ps
      induction ps with
      | nil => intro f c c' h; simp only [fillS, Option.some.injEq] at h; rw [h]
      | cons p r ih =>
        obtain ⟨k, s⟩ := p
        intro f c c' h
        unfold fillS at h
        split at h
        case h_2 => cases h
        split at h
        case h_2 => cases h
        rename_i hb
        simp only [Bool.and_eq_true] at hb
        have h1 := Nat.eq_of_beq_eq_true hb.1.1
        have h2 := Nat.le_of_ble_eq_true hb.1.2
        rw [ih h, splice_length (by omega)]
    have h1 := this hf
    have h2 := concCs_length hcells
    simp at h2 hcl
    rw [h2] at h1
    rw [← hcl, h1, hsz]
    exact Nat.le_refl _
  obtain ⟨env', r1, r2, r3, r4⟩ := vec_good (w' := { w with heap := w.heap.push (.cells vals i.elem (0, 0)) }) hh hnew hn (U := U) (xs := xs) (vs := vals) (E := i.elem) (c := m) (by omega) hvs hli rfl rfl rfl rfl
  refine .inl ⟨.slice (some ⟨w.heap.size, 0, none⟩) m m, _, ?_, env', r1, r2, r3, by rw [hxl] at r4; exact r4⟩
  have hpt : (ps.map fun (i, x) => (i, a.eval x)).toList = ps.toList.map fun (i, x) => (i, a.eval x) := by simp
  have hne : ¬ 2 ^ 24 < m * n.size := by rw [hsz']; omega
  by_cases h0 : m * n.size = 0
  · have hA : ∀ f : Nat → Value, (Array.range (m * n.size)).map f = #[] := fun f => by rw [h0]; simp
    rw [hA] at hv
    simp only [execOp, Instr.buildSlice, Sem.run_bind, run_underlying hu, Result.andThen_ok, run_sizeOf hin, hpt, hA]
    simp [hne, h0, hv, newRow]
  · simp only [execOp, Instr.buildSlice, Sem.run_bind, run_underlying hu, Result.andThen_ok, run_sizeOf hin, hpt]
    simp [hne, h0, zeroValue, typeInfo, hin, hz, hv, newRow]

end

end Go.Proofs.YtnahfbjdicjdpaaGreat.Sym

namespace Go.Proofs.YtnahfbjdicjdpaaGreat.Sym
open Go
set_option linter.unusedVariables false
set_option linter.unusedSimpArgs false

section
variable {P : Program} {wr : Nat → Prop} {env env' : Env} {H H' : Hp} {a : Act} {w w' : World} {T : Nat → SV} {δ : Delta}

theorem roomy_inv {α : Type} {e : TI} {k : RM α} {r : α} (h : (roomy e k).run T H = some r) : 0 < e.bytes ∧ k.run T H = some r := by
  unfold roomy at h
  split at h
  · rename_i hb
    exact ⟨Nat.le_of_ble_eq_true hb, h⟩
  · simp [RM.run] at h

theorem makeSlice_ok (hh : HRel wr env H w) (hnew : ∀ k, w.heap.size ≤ k → wr k) (hs : ∀ d, conc env H (T d) (a.tmps.getD d undef)) {tt : Types} (ht : TabOk P tt) {S : Tab} {d : Nat} {l c : Operand} {t : Nat} {ty : Nat} {pos : String} {af : Array Edge} {g : Option (Nat × Bool)}
    (h : (evOp tt S ⟨some d, .makeSlice t l c, ty, pos, af, g⟩).run T H = some δ) (hp : ∀ p, δ.ok = some p → p) : Good P wr env H a w ⟨some d, .makeSlice t l c, ty, pos, af, g⟩ δ := by
  simp only [evOp] at h
  obtain ⟨i, hi, q⟩ := tiOf_inv h
  clear h
  obtain ⟨e, he, h⟩ := tiOf_inv q
  clear q
  obtain ⟨s1, q, c1⟩ := opv_inv hs h
  clear h
  split at q
  case h_2 => simp [RM.run] at q
  rename_i x n
  obtain ⟨s2, h, c2⟩ := opv_inv hs q
  clear q
  split at h
  case h_2 => simp [RM.run] at h
  rename_i y m
  split at h
  case h_2 => simp [RM.run] at h
  rename_i U hU
  split at h
  case h_2 => simp [RM.run] at h
  rename_i z0 hz0
  obtain ⟨hbp, h⟩ := roomy_inv h
  obtain ⟨hn, h⟩ := fresh_inv h
  simp only [RM.run, Option.some.injEq] at h
  subst h
  obtain ⟨h0, rfl, hroom⟩ := hp _ rfl
  have e1 := conc_int c1
  have e2 := conc_int c2
  obtain ⟨hu, ni, hin, hsz⟩ := typeOk_slice (ht _ _ hi) hU
  obtain ⟨n', u', hin', hu', hsz', hby, hzl, z, hz, hzf, _⟩ := typeOk_some (ht _ _ he)
  rw [hin] at hin'
  cases hin'
  have hzc := zero_conc (env := env) (H := H) hzf
  have hzs := zero_size hzf
  simp only [Array.length_toList] at hzs
  have henc := dec_enc hz0
  have hv := plain_vals (fun c hc => enc_plain U z0 c (by rw [henc]; exact hc)) hzc
  unfold room at hroom
  have hb1 : 0 < ni.bytes ∨ ni.bytes = 0 := by omega
  have hnt : (n.toNat : Int) = n := by omega
  have hb : (ni.bytes : Int) * n ≤ 281474976710656 := by
    rw [← hnt, hby, ← Int.natCast_mul, Nat.mul_comm]
    omega
  obtain ⟨env', r1, r2, r3, r4⟩ := vec_good (w' := w.alloc (.cells (madeCells z.cells (n.toNat * ni.size)) i.elem)) hh hnew hn (U := U) (xs := List.replicate n.toNat z0) (vs := madeCells z.cells (n.toNat * ni.size)) (E := i.elem) (c := n.toNat)
    (by simp) (by rw [size_madeCells, hsz]; exact Nat.le_refl _) (by
      intro k hk o ho
      simp only [List.length_replicate] at hk
      have hlt : k * U.sz + o < n.toNat * U.sz := by
        have : (k + 1) * U.sz ≤ n.toNat * U.sz := Nat.mul_le_mul_right _ hk
        rw [Nat.add_mul, Nat.one_mul] at this
        omega
      have hix : U.ix (List.replicate n.toNat z0) k = z0 := by simp [Ty.ix, List.getD, hk]
      have hm : (k * U.sz + o) % z.cells.size = o := by
        rw [hzs, hzl, ← hsz', hsz, Nat.add_comm, Nat.add_mul_mod_self_right, Nat.mod_eq_of_lt ho]
      have hl := enc_length U z0
      have ho2 : o < z.cells.size := by rw [hzs, hzl, ← hsz', hsz]; exact ho
      rw [hix, Nat.zero_add]
      simp only [madeCells, Array.getElem?_map, hsz]
      rw [Array.getElem?_eq_getElem (by simpa using hlt)]
      simp only [Array.getElem_range, Option.map_some, hm]
      congr 1
      have h5 : z.cells.toList[o]? = some z.cells[o] := by simp [ho2]
      rw [hv, List.getElem?_map, ← henc] at h5
      have h6 : o < (U.enc z0).length := by omega
      rw [List.getElem?_eq_getElem h6] at h5
      simp only [Option.map_some, Option.some.injEq] at h5
      rw [getElem!_pos z.cells o ho2, ← h5]
      simp [List.getD, h6]) rfl rfl rfl rfl
  refine .inl ⟨.slice (some ⟨w.heap.size, 0, none⟩) n.toNat n.toNat, _, ?_, env', r1, r2, r3, by simpa using r4⟩
  have h63 : n ≤ 9223372036854775807 := by
    have : n.toNat * 1 ≤ n.toNat * e.bytes := Nat.mul_le_mul_left _ hbp
    omega
  simp [execOp, e1, e2, run_make w t i.elem ni z hu hin hz .i64 .i64 n n h0 (by omega) hb h63]

def flat (U : Ty) (xs : List U.El) : List Value := xs.flatMap fun x => (U.enc x).map svl

theorem flat_length (U : Ty) : ∀ xs : List U.El, (flat U xs).length = xs.length * U.sz
  | [] => by simp [flat]
  | x :: r => by
    have : flat U (x :: r) = (U.enc x).map svl ++ flat U r := rfl
    rw [this, List.length_append, List.length_map, enc_length, flat_length U r, List.length_cons, Nat.add_mul, Nat.one_mul, Nat.add_comm]

theorem flat_at (U : Ty) : ∀ (xs : List U.El) (e o : Nat), e < xs.length → o < U.sz → (flat U xs)[e * U.sz + o]? = some (svl ((U.enc (U.ix xs e)).getD o .any))
  | [], e, o, h, _ => by simp at h
  | x :: r, e, o, h, ho => by
    have hf : flat U (x :: r) = (U.enc x).map svl ++ flat U r := rfl
    have hl := enc_length U x
    cases e with
    | zero =>
      have hix : U.ix (x :: r) 0 = x := rfl
      rw [hf, hix, Nat.zero_mul, Nat.zero_add, List.getElem?_append_left (by simp; omega), List.getElem?_map, List.getElem?_eq_getElem (by omega)]
      simp [List.getD, show o < (U.enc x).length by omega]
    | succ e =>
      have hix : U.ix (x :: r) (e + 1) = U.ix r e := by simp [Ty.ix, List.getD]
      rw [hf, hix, List.getElem?_append_right (by simp [Nat.add_mul]; omega)]
      rw [← flat_at U r e o (by simpa using h) ho]
      congr 1
      simp [Nat.add_mul]
      omega

theorem lies_flat {U : Ty} {xs : List U.El} {vs : Array Value} {off : Nat} : Lies U xs vs off ↔ ∀ q v, (flat U xs)[q]? = some v → vs[off + q]? = some v := by
  constructor
  · intro h q v hq
    have hlt : q < (flat U xs).length := (List.getElem?_eq_some_iff.1 hq).1
    rw [flat_length] at hlt
    have hs := sz_pos U
    have h1 : q / U.sz < xs.length := by rw [Nat.div_lt_iff_lt_mul hs]; exact hlt
    have h2 : q % U.sz < U.sz := Nat.mod_lt _ hs
    have h3 : q / U.sz * U.sz + q % U.sz = q := by rw [Nat.mul_comm]; exact Nat.div_add_mod q U.sz
    have h4 := flat_at U xs _ _ h1 h2
    have h5 := h _ h1 _ h2
    rw [h3] at h4
    rw [Nat.add_assoc, h3] at h5
    rw [h4] at hq
    rw [h5, hq]
  · intro h e he o ho
    rw [Nat.add_assoc]
    exact h _ _ (flat_at U xs e o he ho)

theorem flat_append (U : Ty) (xs ys : List U.El) : flat U (xs ++ ys) = flat U xs ++ flat U ys := by simp [flat]

theorem castTo_inv {U V : Ty} {xs : List V.El} {ys : List U.El} (h : castTo U V xs = some ys) : ∃ e : V = U, e ▸ xs = ys := by
  cases U <;> cases V <;> first
    | (simp only [castTo, Option.some.injEq] at h; exact ⟨rfl, h⟩)
    | (simp only [castTo, reduceCtorEq] at h)

/-- What a source of elements is: a slice whose cells are the elements'. -/
def SrcOk (w : World) (U : Ty) (ys : List U.El) (u : Value) : Prop :=
  ∃ y c, u = .slice y ys.length c ∧ (0 < ys.length → ∃ b off, y = some ⟨b, off, none⟩ ∧ ∀ q v, (flat U ys)[q]? = some v → w.cell? ⟨b, off + q, none⟩ = some v)

theorem elems_inv {α : Type} (hh : HRel wr env H w) {U : Ty} {v : SV} {u : Value} {k : List U.El → RM α} {r : α} (h : (elems U v k).run T H = some r) (hc : conc env H v u) :
    ∃ ys, (k ys).run T H = some r ∧ SrcOk w U ys u := by
  unfold elems at h
  split at h
  · rename_i j
    simp only [RM.run] at h
    split at h
    case h_2 => simp [RM.run] at h
    rename_i rw V xs hj
    split at h
    case h_2 => simp [RM.run] at h
    rename_i ys hy
    obtain ⟨e, hy⟩ := castTo_inv hy
    subst e
    subst hy
    simp only [conc, conc2, concC, hj] at hc
    refine ⟨_, h, _, _, hc, fun h0 => ?_⟩
    obtain ⟨hl, hv⟩ := hh.blk j rw _ hj
    rcases hv with hv | ⟨b, off, E, vs, fz, hb, hheap, hsize, hlies, _⟩
    · simp only at h0; omega
    · exact ⟨b, off, hb, fun q v hq => by rw [cell_of hheap]; exact lies_flat.1 hlies q v hq⟩
  · rename_i j lo n
    simp only [RM.run] at h
    split at h
    case h_2 => simp [RM.run] at h
    rename_i rw V xs hj
    split at h
    case h_2 => simp [RM.run] at h
    rename_i ys hy
    obtain ⟨e, hy⟩ := castTo_inv hy
    subst e
    subst hy
    simp only [conc, conc2, concC, hj] at hc
    obtain ⟨hlo, y, hc, hy⟩ := hc
    have hlen : ((xs.drop lo).take n).length = n := by simp; omega
    refine ⟨_, h, y, _, by rw [hlen]; exact hc, fun h0 => ?_⟩
    simp only [hlen] at h0
    obtain ⟨hl, hv⟩ := hh.blk j rw _ hj
    rcases hv with hv | ⟨b, off, E, vs, fz, hb, hheap, hsize, hlies, _⟩
    · omega
    · rcases hy with hy | hy
      · omega
      · rw [hb] at hy
        simp only [Option.map_some, add_addr] at hy
        refine ⟨b, off + lo * V.sz, hy, ?_⟩
        have : Lies V ((xs.drop lo).take n) vs (off + lo * V.sz) := by
          intro e he o ho
          rw [hlen] at he
          have h1 := hlies (lo + e) (by omega) o ho
          have hix : V.ix ((xs.drop lo).take n) e = V.ix xs (lo + e) := by
            simp [Ty.ix, List.getD, List.getElem?_take, he]
          rw [hix, ← h1]
          congr 1
          rw [Nat.add_mul]
          omega
        exact fun q v hq => by rw [cell_of hheap]; exact lies_flat.1 this q v hq
  · obtain ⟨y, hc⟩ := hc
    exact ⟨[], h, y, 0, hc, fun h0 => by simp at h0⟩
  · simp [RM.run] at h

theorem flat_one (U : Ty) (ys : List U.El) : ∀ v ∈ flat U ys, v.oneCell' = true := by
  intro v hv
  simp only [flat, List.mem_flatMap, List.mem_map] at hv
  obtain ⟨x, _, c, hc, rfl⟩ := hv
  have := enc_plain U x c hc
  cases c <;> first | rfl | (cases this)

theorem run_append_zero {t ty e : Nat} {n : TypeInfo} (hu : P.underlying t = some (.slice e)) (hn : P.info? e = some n) (base : Option Addr) (l c : Nat) (y : Option Addr) (c' : Nat) (hl : l ≤ c) :
    (Builtin.append_ #[t, t] ty #[.slice base l c, .slice y 0 c']).run P w = .ok (.slice base l c) w := by
  have h0 : ∀ w, (Builtin.firstCells n.size 0 (.slice y 0 c')).run P w = .ok #[] w := by
    intro w
    cases y with
    | none => simp [Builtin.firstCells]
    | some b => simp [Builtin.firstCells, loadCells, loadCellsFrom]
  cases base with
  | none => simp [Builtin.append_, run_underlying hu, run_sizeOf hn, Builtin.lenOf, hl, h0]
  | some b => simp [Builtin.append_, run_underlying hu, run_sizeOf hn, Builtin.lenOf, hl, h0, storeCells]

theorem run_append_room2 {t ty e : Nat} {i : TypeInfo} (ht : P.underlying t = some (.slice e)) (hi : P.info? e = some i) {g off sLen sCap : Nat} {cur : Array Value} {E : Nat} (hg : w.heap[g]? = some (.cells cur E (0, 0)))
    {b : Addr} {m c : Nat} {news : List Value} (hl : news.length = m * i.size) (hnews : ∀ j u, news[j]? = some u → w.cell? (b.add j) = some u) (h1 : ∀ u ∈ news, u.oneCell' = true)
    (hroom : sLen + m ≤ sCap) (hfit : off + sLen * i.size + news.length ≤ cur.size) :
    (Builtin.append_ #[t, t] ty #[.slice (some ⟨g, off, none⟩) sLen sCap, .slice (some b) m c]).run P w =
      .ok (.slice (some ⟨g, off, none⟩) (sLen + m) sCap) (w.setRow g (cur.toList.take (off + sLen * i.size) ++ news ++ cur.toList.drop (off + sLen * i.size + news.length)).toArray) := by
  have hf := run_firstCells_some (P := P) w i.size m b m c news hl hnews
  have hst := run_storeCells_at P g (off + sLen * i.size) E news 0 cur w hg (by simpa using hfit) h1
  simp only [Nat.add_zero] at hst
  simp [Builtin.append_, run_underlying ht, run_sizeOf hi, Builtin.lenOf, hroom, hf, add_addr, hst]

theorem grownCap_need (need old : Nat) (e : Nat) : need ≤ grownCap w need old e := grownCap_ge w need old e

/-- A list goes over from one name to another. -/
theorem HRel.over (hh : HRel wr env H w) {j n : Nat} {U : Ty} {xs zs : List U.El} (hj : H j = some (true, .vec U xs)) (hn : H n = none) {x : Option Addr × Nat}
    (hw : ∀ y, y < w.heap.size → own env j (.vec U xs) ≠ some y → w'.heap[y]? = w.heap[y]?) (hnew : ∀ k, w.heap.size ≤ k → wr k)
    (hb : ∀ H', blkRel (envSet env n x) H' n true (.vec U zs) w') (ho : ∀ y, own (envSet env n x) n (.vec U zs) = some y → own env j (.vec U xs) = some y ∨ w.heap.size ≤ y) :
    Ext env H (envSet env n x) (updH H [(j, true, .dead), (n, true, .vec U zs)]) ∧ HRel wr (envSet env n x) (updH H [(j, true, .dead), (n, true, .vec U zs)]) w' := by
  have hjn : j ≠ n := fun e => by subst e; rw [hn] at hj; cases hj
  have ow : ∀ k b, k ≠ n → own (envSet env n x) k b = own env k b := fun k b e => by cases b <;> simp [own, envSet, e]
  have ex : Ext env H (envSet env n x) (updH H [(j, true, .dead), (n, true, .vec U zs)]) := ⟨fun k r c hk => by
    have hne : k ≠ n := fun e => by subst e; rw [hn] at hk; cases hk
    refine ⟨by simp [envSet, hne], ?_⟩
    rw [updH_two]
    by_cases hkj : k = j
    · rw [if_pos hkj]; exact ⟨_, _, rfl, by cases c <;> trivial⟩
    · rw [if_neg hkj, if_neg hne]; exact ⟨r, c, hk, stays_refl c⟩⟩
  refine ⟨ex, hh.step (fun k => k = j ∨ k = n) ex ?_ ?_⟩
  · intro k r c hk hc
    have h1 : k ≠ j := fun e => hk (.inl e)
    have h2 : k ≠ n := fun e => hk (.inr e)
    rw [updH_two, if_neg h1, if_neg h2] at hc
    refine ⟨hc, by simp [envSet, h2], fun y hy => hw y (own_lt hh hc hy) (fun e => ?_)⟩
    exact hh.dj j k true _ r c (Ne.symm h1) hj hc (.inl rfl) y e hy
  · intro k r c hk hc
    by_cases h1 : k = j
    · subst h1
      rw [updH_two, if_pos rfl] at hc
      cases hc
      exact ⟨trivial, fun y hy => by simp [own] at hy⟩
    · have h2 : k = n := hk.resolve_left h1
      subst h2
      rw [updH_two, if_neg h1, if_pos rfl] at hc
      cases hc
      refine ⟨hb _, fun y hy => ⟨fun _ => ?_, ?_⟩⟩
      · rcases ho y hy with h | h
        · exact hh.wrt j _ hj y h
        · exact hnew y h
      · intro k' r' b' hne hk' hy' _
        by_cases h3 : k' = j
        · subst h3
          rw [updH_two, if_pos rfl] at hk'
          cases hk'
          simp [own] at hy'
        · rw [updH_two, if_neg h3, if_neg hne] at hk'
          rw [ow _ _ hne] at hy'
          rcases ho y hy with h | h
          · exact hh.dj j k' true _ r' b' (Ne.symm h3) hj hk' (.inl rfl) y h hy'
          · have := own_lt hh hk' hy'
            omega

theorem append_good (hh : HRel wr env H w) (hnew : ∀ k, w.heap.size ≤ k → wr k) {t ty e : Nat} {ni : TypeInfo} {z : Value} {U : Ty} (hu : P.underlying t = some (.slice e)) (hin : P.info? e = some ni) (hsz : ni.size = U.sz) (hz : ni.zero = some z)
    (hzs : z.cells.size = U.sz) {j n : Nat} {xs ys : List U.El} (hj : H j = some (true, .vec U xs)) (hn : H n = none) {u : Value} (hs : SrcOk w U ys u) (hb0 : 0 < ni.bytes) (hr : (xs.length + ys.length) * ni.bytes ≤ room) :
    ∃ v w', (Builtin.append_ #[t, t] ty #[.slice (env j).1 xs.length (env j).2, u]).run P w = .ok v w' ∧ ∃ env', Ext env H env' (updH H [(j, true, .dead), (n, true, .vec U (xs ++ ys))]) ∧
      HRel wr env' (updH H [(j, true, .dead), (n, true, .vec U (xs ++ ys))]) w' ∧ Fr wr w w' ∧ conc env' (updH H [(j, true, .dead), (n, true, .vec U (xs ++ ys))]) (.vec n) v := by
  have hjn : j ≠ n := fun e => by subst e; rw [hn] at hj; cases hj
  have hcv : ∀ (env' : Env), conc env' (updH H [(j, true, .dead), (n, true, .vec U (xs ++ ys))]) (.vec n) (.slice (env' n).1 (xs ++ ys).length (env' n).2) := by
    intro env'
    simp only [conc, conc2, concC, updH_two, if_neg (Ne.symm hjn), if_true]
  obtain ⟨hl, hv⟩ := hh.blk j true _ hj
  obtain ⟨y, c, rfl, hsrc⟩ := hs
  unfold room at hr
  have hneed : xs.length + ys.length ≤ (xs.length + ys.length) * ni.bytes := Nat.le_mul_of_pos_right _ hb0
  by_cases h0 : ys.length = 0
  · have hy : ys = [] := List.length_eq_zero_iff.1 h0
    subst hy
    refine ⟨_, w, by rw [show ([] : List U.El).length = 0 from rfl]; exact run_append_zero hu hin _ _ _ _ _ hl, envSet env n (env j), ?_⟩
    have := hh.over (w' := w) (zs := xs ++ []) hj hn (x := env j) (fun _ _ _ => rfl) hnew (fun H' => by
      refine ⟨by simpa [envSet] using hl, ?_⟩
      simpa [envSet] using hv) (fun y hy => .inl (by simpa [own, envSet] using hy))
    refine ⟨this.1, this.2, .refl _ _, ?_⟩
    have := hcv (envSet env n (env j))
    simpa [envSet] using this
  · obtain ⟨b', off', rfl, hcells⟩ := hsrc (by omega)
    have hflat : (flat U ys).length = ys.length * ni.size := by rw [flat_length, hsz]
    have hnews : ∀ q v, (flat U ys)[q]? = some v → w.cell? ((⟨b', off', none⟩ : Addr).add q) = some v := fun q v h => by rw [add_addr]; exact hcells q v h
    by_cases hroom : xs.length + ys.length ≤ (env j).2
    · rcases hv with hv | ⟨b, off, E, vs, fz, hb, hheap, hsize, hlies, hfz⟩
      · omega
      have hfz := hfz rfl
      subst hfz
      have hm : (xs.length + ys.length) * U.sz ≤ (env j).2 * U.sz := Nat.mul_le_mul_right _ hroom
      rw [Nat.add_mul] at hm
      have hrun := run_append_room2 (P := P) (w := w) (ty := ty) hu hin (g := b) (off := off) (sLen := xs.length) (sCap := (env j).2) hheap (c := c) hflat hnews (flat_one U ys) hroom (by rw [hflat, hsz]; omega)
      rw [hb]
      have hown : own env j (.vec U xs) = some b := by simp [own, hb]; omega
      refine ⟨_, _, hrun, envSet env n (env j), ?_⟩
      have hnewl : Lies U (xs ++ ys) (vs.toList.take (off + xs.length * ni.size) ++ flat U ys ++ vs.toList.drop (off + xs.length * ni.size + (flat U ys).length)).toArray off := by
        rw [lies_flat]
        intro q v hq
        rw [flat_append] at hq
        have hfx := flat_length U xs
        have hfy := flat_length U ys
        have hlt : q < (flat U xs ++ flat U ys).length := (List.getElem?_eq_some_iff.1 hq).1
        simp only [List.length_append] at hlt
        rw [List.getElem?_toArray, get_splice (by rw [hfy, hsz]; simp; omega), hsz, hfy]
        by_cases h1 : q < xs.length * U.sz
        · rw [if_pos (by omega), Array.getElem?_toList]
          rw [List.getElem?_append_left (by omega)] at hq
          exact lies_flat.1 hlies q v hq
        · rw [if_neg (by omega), if_pos (by omega)]
          rw [List.getElem?_append_right (by omega)] at hq
          rw [← hq]
          congr 1
          omega
      have := hh.over (w' := w.setRow b (vs.toList.take (off + xs.length * ni.size) ++ flat U ys ++ vs.toList.drop (off + xs.length * ni.size + (flat U ys).length)).toArray) (zs := xs ++ ys) hj hn (x := env j) (fun y _ hy => setRow_other w b y _ (fun e => hy (e ▸ hown))) hnew (fun H' => by
        refine ⟨by simp [envSet]; omega, .inr ⟨b, off, E, _, (0, 0), by simp [envSet, hb], setRow_heap w b vs _ E (0, 0) hheap, ?_, hnewl, fun _ => rfl⟩⟩
        simp [envSet, hflat, hsz]
        omega) (fun y hy => .inl (by
          have h1 : own (envSet env n (env j)) n (.vec U (xs ++ ys)) = own env j (.vec U xs) := by simp [own, envSet]
          rw [← h1]; exact hy))
      refine ⟨this.1, this.2, fr_setRow (hh.wrt j _ hj b hown), ?_⟩
      have := hcv (envSet env n (env j))
      simpa [envSet, hb] using this
    · have hg : (env j).2 < xs.length + ys.length := by omega
      have hfit := growslice_fits (need := xs.length + ys.length) (old := (env j).2) (bytes := ni.bytes) hg (by omega)
      have h63 : ((xs.length + ys.length : Nat) : Int) ≤ 9223372036854775807 := by omega
      -- the old cells
      have hrun : ∃ olds : List Value, olds = flat U xs ∧ (Builtin.append_ #[t, t] ty #[.slice (env j).1 xs.length (env j).2, .slice (some ⟨b', off', none⟩) ys.length c]).run P w =
          .ok (.slice (some ⟨w.heap.size, 0, none⟩) (xs.length + ys.length) (grownCap w (xs.length + ys.length) (env j).2 e))
            (w.drew.alloc (.cells (olds.toArray ++ (flat U ys).toArray ++ Builtin.zeroCells z.cells (grownCap w (xs.length + ys.length) (env j).2 e - (xs.length + ys.length))) e)) := by
        refine ⟨_, rfl, ?_⟩
        rcases hv with hv | ⟨b, off, E, vs, fz, hb, hheap, hsize, hlies, hfz⟩
        · have hx : xs = [] := List.length_eq_zero_iff.1 (by omega)
          subst hx
          cases hbase : (env j).1 with
          | some q =>
            have := run_append_grow (P := P) w t ty e ni z hu hin hz q 0 (env j).2 [] (by simp) (by simp) ⟨b', off', none⟩ ys.length c (flat U ys) hflat hnews (by simpa using hg) (by simpa using h63) (by simpa using hfit)
            simpa [flat] using this
          | none =>
            have := run_append_nil (P := P) w t ty e ni z hu hin hz ⟨b', off', none⟩ ys.length c (flat U ys) hflat hnews (by omega) (by simpa using h63) (by simp at hr; omega)
            rw [hv]
            simpa [flat] using this
        · rw [hb]
          exact run_append_grow (P := P) w t ty e ni z hu hin hz ⟨b, off, none⟩ xs.length (env j).2 (flat U xs) (by rw [flat_length, hsz]) (fun q v h => by rw [add_addr, cell_of hheap]; exact lies_flat.1 hlies q v h)
            ⟨b', off', none⟩ ys.length c (flat U ys) hflat hnews hg h63 hfit
      obtain ⟨olds, rfl, hrun⟩ := hrun
      have hcap := grownCap_need (w := w) (xs.length + ys.length) (env j).2 e
      generalize grownCap w (xs.length + ys.length) (env j).2 e = gc at hrun hcap
      obtain ⟨f1, f2⟩ := fr_alloc (wr := wr) (w := w) (w' := w.drew.alloc (.cells ((flat U xs).toArray ++ (flat U ys).toArray ++ Builtin.zeroCells z.cells (gc - (xs.length + ys.length))) e)) (o := .cells ((flat U xs).toArray ++ (flat U ys).toArray ++ Builtin.zeroCells z.cells (gc - (xs.length + ys.length))) e) rfl rfl rfl rfl
      refine ⟨_, _, hrun, envSet env n (some ⟨w.heap.size, 0, none⟩, gc), ?_⟩
      have := hh.over (w' := w.drew.alloc (.cells ((flat U xs).toArray ++ (flat U ys).toArray ++ Builtin.zeroCells z.cells (gc - (xs.length + ys.length))) e)) (zs := xs ++ ys) hj hn
        (x := (some ⟨w.heap.size, 0, none⟩, gc)) (fun y hy _ => f2 y hy) hnew (fun H' => by
          refine ⟨by simpa [envSet] using hcap, .inr ⟨w.heap.size, 0, e, (flat U xs).toArray ++ (flat U ys).toArray ++ Builtin.zeroCells z.cells (gc - (xs.length + ys.length)), (0, 0), by simp [envSet], Array.getElem?_push_size, ?_, ?_, fun _ => rfl⟩⟩
          · have : gc * U.sz = (xs.length + ys.length) * U.sz + (gc - (xs.length + ys.length)) * U.sz := by
              rw [← Nat.add_mul]; congr 1; omega
            simp only [envSet, if_true]
            rw [this, Nat.add_mul]
            simp [flat_length, size_zeroCells, hzs]
          · rw [lies_flat]
            intro q v hq
            rw [flat_append] at hq
            have hlt : q < (flat U xs ++ flat U ys).length := (List.getElem?_eq_some_iff.1 hq).1
            rw [Nat.zero_add, Array.getElem?_append_left (by simpa using hlt)]
            simpa using hq) (fun y hy => .inr (by
              simp only [own, envSet, if_true] at hy
              split at hy
              · cases hy
              · simp at hy; omega))
      refine ⟨this.1, this.2, f1, ?_⟩
      have := hcv (envSet env n (some ⟨w.heap.size, 0, none⟩, gc))
      simpa [envSet] using this

theorem append_nil_good (hh : HRel wr env H w) (hnew : ∀ k, w.heap.size ≤ k → wr k) {t ty e : Nat} {ni : TypeInfo} {z : Value} {U : Ty} (hu : P.underlying t = some (.slice e)) (hin : P.info? e = some ni) (hsz : ni.size = U.sz) (hz : ni.zero = some z)
    (hzs : z.cells.size = U.sz) {n : Nat} {ys : List U.El} (hn : H n = none) {x : Option Addr} {u : Value} (hs : SrcOk w U ys u) (hb0 : 0 < ni.bytes) (hr : ys.length * ni.bytes ≤ room) :
    ∃ v w', (Builtin.append_ #[t, t] ty #[.slice x 0 0, u]).run P w = .ok v w' ∧ ∃ env', Ext env H env' (updH H [(n, true, .vec U ys)]) ∧
      HRel wr env' (updH H [(n, true, .vec U ys)]) w' ∧ Fr wr w w' ∧ conc env' (updH H [(n, true, .vec U ys)]) (.vec n) v := by
  obtain ⟨y, c, rfl, hsrc⟩ := hs
  unfold room at hr
  have hneed : ys.length ≤ ys.length * ni.bytes := Nat.le_mul_of_pos_right _ hb0
  have hcv : ∀ (env' : Env), conc env' (updH H [(n, true, .vec U ys)]) (.vec n) (.slice (env' n).1 ys.length (env' n).2) := by
    intro env'
    simp only [conc, conc2, concC, updH_one, if_true]
  by_cases h0 : ys.length = 0
  · have hy : ys = [] := List.length_eq_zero_iff.1 h0
    subst hy
    refine ⟨_, w, run_append_zero hu hin _ _ _ _ _ (Nat.le_refl 0), envSet env n (x, 0), ?_⟩
    have := hh.add (w' := w) hn (rw := true) (b := .vec U []) (x := (x, 0)) (fun _ _ => rfl) hnew (fun H' _ => ⟨by simp, .inl (by simp [envSet])⟩) (fun y hy => by simp [own, envSet] at hy)
    refine ⟨this.1, this.2, .refl _ _, ?_⟩
    have := hcv (envSet env n (x, 0))
    simpa [envSet] using this
  · obtain ⟨b', off', rfl, hcells⟩ := hsrc (by omega)
    have hflat : (flat U ys).length = ys.length * ni.size := by rw [flat_length, hsz]
    have hnews : ∀ q v, (flat U ys)[q]? = some v → w.cell? ((⟨b', off', none⟩ : Addr).add q) = some v := fun q v h => by rw [add_addr]; exact hcells q v h
    have hfit := growslice_fits (need := ys.length) (old := 0) (bytes := ni.bytes) (by omega) (by omega)
    have h63 : (ys.length : Int) ≤ 9223372036854775807 := by omega
    have hrun : (Builtin.append_ #[t, t] ty #[.slice x 0 0, .slice (some ⟨b', off', none⟩) ys.length c]).run P w =
          .ok (.slice (some ⟨w.heap.size, 0, none⟩) ys.length (grownCap w ys.length 0 e))
            (w.drew.alloc (.cells ((flat U ys).toArray ++ Builtin.zeroCells z.cells (grownCap w ys.length 0 e - ys.length)) e)) := by
      cases x with
      | some q =>
        have := run_append_grow (P := P) w t ty e ni z hu hin hz q 0 0 [] (by simp) (by simp) ⟨b', off', none⟩ ys.length c (flat U ys) hflat hnews (by omega) (by simpa using h63) (by simpa using hfit)
        simpa using this
      | none =>
        exact run_append_nil (P := P) w t ty e ni z hu hin hz ⟨b', off', none⟩ ys.length c (flat U ys) hflat hnews (by omega) h63 (by omega)
    have hcap := grownCap_need (w := w) ys.length 0 e
    generalize grownCap w ys.length 0 e = gc at hrun hcap
    obtain ⟨env', r1, r2, r3, r4⟩ := vec_good (w' := w.drew.alloc (.cells ((flat U ys).toArray ++ Builtin.zeroCells z.cells (gc - ys.length)) e)) hh hnew hn (U := U) (xs := ys) (vs := (flat U ys).toArray ++ Builtin.zeroCells z.cells (gc - ys.length)) (E := e) (c := gc) hcap (by
      have : gc * U.sz = ys.length * U.sz + (gc - ys.length) * U.sz := by rw [← Nat.add_mul]; congr 1; omega
      rw [this]
      simp [flat_length, size_zeroCells, hzs]) (by
      rw [lies_flat]
      intro q v hq
      have hlt : q < (flat U ys).length := (List.getElem?_eq_some_iff.1 hq).1
      rw [Nat.zero_add, Array.getElem?_append_left (by simpa using hlt)]
      simpa using hq) rfl rfl rfl rfl
    exact ⟨_, _, hrun, env', r1, r2, r3, r4⟩

theorem flat_take (U : Ty) : ∀ (xs : List U.El) (o : Nat), flat U (xs.take o) = (flat U xs).take (o * U.sz)
  | [], o => by simp [flat]
  | x :: r, 0 => by simp [flat]
  | x :: r, o + 1 => by
    have h1 : flat U (x :: r) = (U.enc x).map svl ++ flat U r := rfl
    have h2 : flat U ((x :: r).take (o + 1)) = (U.enc x).map svl ++ flat U (r.take o) := rfl
    have hl : ((U.enc x).map svl).length = U.sz := by rw [List.length_map, enc_length]
    have e : (o + 1) * U.sz = ((U.enc x).map svl).length + o * U.sz := by rw [hl, Nat.add_mul, Nat.one_mul, Nat.add_comm]
    rw [h1, h2, flat_take U r o, e, List.take_length_add_append]
theorem flat_drop (U : Ty) : ∀ (xs : List U.El) (o : Nat), flat U (xs.drop o) = (flat U xs).drop (o * U.sz)
  | [], o => by simp [flat]
  | x :: r, 0 => by simp
  | x :: r, o + 1 => by
    have h1 : flat U (x :: r) = (U.enc x).map svl ++ flat U r := rfl
    have hl : ((U.enc x).map svl).length = U.sz := by rw [List.length_map, enc_length]
    have e : (o + 1) * U.sz = ((U.enc x).map svl).length + o * U.sz := by rw [hl, Nat.add_mul, Nat.one_mul, Nat.add_comm]
    rw [h1, List.drop_succ_cons, flat_drop U r o, e, List.drop_length_add_append]
theorem length_spl {α : Type} {xs ys : List α} {o : Nat} (h : o + ys.length ≤ xs.length) : (spl xs o ys).length = xs.length := by
  simp [spl]; omega
theorem spl_nil {α : Type} (xs : List α) (o : Nat) : spl xs o [] = xs := by simp [spl]

/-- A part of a list that may be written is written over. -/
theorem splice_good (hh : HRel wr env H w) {j o : Nat} {U : Ty} {xs ys : List U.El} (hj : H j = some (true, .vec U xs)) (hle : o + ys.length ≤ xs.length) (hpos : 0 < ys.length) :
    ∃ b off E vs, (env j).1 = some ⟨b, off, none⟩ ∧ w.heap[b]? = some (.cells vs E (0, 0)) ∧ off + (env j).2 * U.sz ≤ vs.size ∧ xs.length ≤ (env j).2 ∧
      ∀ w', w' = w.setRow b (vs.toList.take (off + o * U.sz) ++ flat U ys ++ vs.toList.drop (off + o * U.sz + (flat U ys).length)).toArray →
        Ext env H env (updH H [(j, true, .vec U (spl xs o ys))]) ∧ HRel wr env (updH H [(j, true, .vec U (spl xs o ys))]) w' ∧ Fr wr w w' := by
  obtain ⟨hcap, hrest⟩ := hh.blk j true _ hj
  rcases hrest with hz | ⟨b, off, E, vs, fz, hb1, hheap, hsize, hlies, hfz⟩
  · omega
  have hfz := hfz rfl
  subst hfz
  refine ⟨b, off, E, vs, hb1, hheap, hsize, hcap, ?_⟩
  rintro w' rfl
  have hown : ∀ zs : List U.El, own env j (.vec U zs) = some b := fun zs => by simp [own, hb1]; omega
  have hlen := length_spl hle
  have hfy := flat_length U ys
  have hfx := flat_length U xs
  have hm : (o + ys.length) * U.sz ≤ xs.length * U.sz := Nat.mul_le_mul_right _ hle
  have hc2 : xs.length * U.sz ≤ (env j).2 * U.sz := Nat.mul_le_mul_right _ hcap
  have ha : (o + ys.length) * U.sz = o * U.sz + ys.length * U.sz := Nat.add_mul _ _ _
  have ex : Ext env H env (updH H [(j, true, .vec U (spl xs o ys))]) := ⟨fun k r c hk => ⟨rfl, by
    rw [updH_one]
    by_cases hkj : k = j
    · subst hkj; rw [hj] at hk; cases hk; rw [if_pos rfl]; exact ⟨_, _, rfl, rfl, hlen.symm⟩
    · rw [if_neg hkj]; exact ⟨r, c, hk, stays_refl c⟩⟩⟩
  refine ⟨ex, ?_, fr_setRow (hh.wrt j _ hj b (hown _))⟩
  refine hh.step (fun k => k = j) ex ?_ ?_
  · intro k r c hk hc
    rw [updH_one, if_neg hk] at hc
    refine ⟨hc, rfl, fun y' hy => setRow_other w b y' _ (fun e => ?_)⟩
    subst e
    exact hh.dj j k true _ r c (Ne.symm hk) hj hc (.inl rfl) _ (hown _) hy
  · intro k r c hk hc
    subst hk
    rw [updH_one, if_pos rfl] at hc
    cases hc
    refine ⟨⟨by rw [hlen]; exact hcap, .inr ⟨b, off, E, _, (0, 0), hb1, setRow_heap w b vs _ E (0, 0) hheap, ?_, ?_, fun _ => rfl⟩⟩, ?_⟩
    · simp [hfy]; omega
    · rw [lies_flat]
      intro q v hq
      have hF : ∀ q v, (flat U xs)[q]? = some v → vs[off + q]? = some v := lies_flat.1 hlies
      have hG : flat U (spl xs o ys) = (flat U xs).take (o * U.sz) ++ flat U ys ++ (flat U xs).drop ((o + ys.length) * U.sz) := by
        unfold spl
        rw [flat_append, flat_append, flat_take, flat_drop]
      have hqlt : q < (flat U (spl xs o ys)).length := (List.getElem?_eq_some_iff.1 hq).1
      rw [flat_length, hlen] at hqlt
      have hd : (o + ys.length) * U.sz = o * U.sz + (flat U ys).length := by rw [hfy, ha]
      rw [hG, hd, get_splice (by rw [hfy]; omega)] at hq
      rw [List.getElem?_toArray, get_splice (by rw [hfy]; simp; omega)]
      split at hq
      · rw [if_pos (by omega), Array.getElem?_toList]
        exact hF q v hq
      · rename_i h1
        rw [if_neg (by omega)]
        split at hq
        · rw [if_pos (by omega), ← hq]
          congr 1
          omega
        · rw [if_neg (by omega), Array.getElem?_toList]
          exact hF q v hq
    · intro y' hy
      rw [hown] at hy
      cases hy
      refine ⟨fun _ => hh.wrt k _ hj b (hown _), ?_⟩
      intro k' r' b' hne hk' hy' _
      rw [updH_one, if_neg hne] at hk'
      exact hh.dj k k' true _ r' b' (Ne.symm hne) hj hk' (.inl rfl) _ (hown _) hy'

theorem updH_same {j : Nat} {e : Ent} (hj : H j = some e) : updH H [(j, e)] = H := by
  funext k
  rw [updH_one]
  split
  · rename_i h; rw [h, hj]
  · rfl

theorem append_part_good (hh : HRel wr env H w) {t ty e : Nat} {ni : TypeInfo} {U : Ty} (hu : P.underlying t = some (.slice e)) (hin : P.info? e = some ni) (hsz : ni.size = U.sz)
    {j lo n : Nat} {xs ys : List U.El} (hj : H j = some (true, .vec U xs)) {v1 u : Value} (hv : concC env H (.sl j lo n) v1) (hs : SrcOk w U ys u) (hle : lo + n + ys.length ≤ xs.length) :
    ∃ v w', (Builtin.append_ #[t, t] ty #[v1, u]).run P w = .ok v w' ∧ Ext env H env (updH H [(j, true, .vec U (spl xs (lo + n) ys))]) ∧
      HRel wr env (updH H [(j, true, .vec U (spl xs (lo + n) ys))]) w' ∧ Fr wr w w' ∧ conc env (updH H [(j, true, .vec U (spl xs (lo + n) ys))]) (.sl j lo (n + ys.length)) v := by
  simp only [concC, hj] at hv
  obtain ⟨h1, x, rfl, h2⟩ := hv
  obtain ⟨y, c, rfl, hsrc⟩ := hs
  have hcap := (hh.blk j true _ hj).1
  have hlen := length_spl hle
  by_cases h0 : ys.length = 0
  · have hy : ys = [] := List.length_eq_zero_iff.1 h0
    subst hy
    rw [spl_nil, updH_same hj]
    refine ⟨_, w, run_append_zero hu hin _ _ _ _ _ (by omega), .refl _ _, hh, .refl _ _, ?_⟩
    simp only [conc, conc2, concC, hj]
    exact ⟨by simpa using h1, _, rfl, h2⟩
  · obtain ⟨b', off', rfl, hcells⟩ := hsrc (by omega)
    have hflat : (flat U ys).length = ys.length * ni.size := by rw [flat_length, hsz]
    have hnews : ∀ q v, (flat U ys)[q]? = some v → w.cell? ((⟨b', off', none⟩ : Addr).add q) = some v := fun q v h => by rw [add_addr]; exact hcells q v h
    obtain ⟨b, off, E, vs, hb, hheap, hsize, _, hgood⟩ := splice_good hh hj hle (by omega)
    rcases h2 with h2 | h2
    · omega
    rw [hb] at h2
    simp only [Option.map_some, add_addr] at h2
    subst h2
    have hm : (lo + n + ys.length) * U.sz ≤ (env j).2 * U.sz := Nat.mul_le_mul_right _ (by omega)
    have ha : (lo + n + ys.length) * U.sz = lo * U.sz + n * U.sz + ys.length * U.sz := by rw [Nat.add_mul, Nat.add_mul]
    have hrun := run_append_room2 (P := P) (w := w) (ty := ty) hu hin (g := b) (off := off + lo * U.sz) (sLen := n) (sCap := (env j).2 - lo) hheap (c := c) hflat hnews (flat_one U ys) (by omega) (by rw [hflat, hsz]; omega)
    have heq : off + lo * U.sz + n * ni.size = off + (lo + n) * U.sz := by rw [hsz, Nat.add_mul]; omega
    rw [heq] at hrun
    obtain ⟨g1, g2, g3⟩ := hgood _ rfl
    refine ⟨_, _, hrun, g1, g2, g3, ?_⟩
    simp only [conc, conc2, concC, updH_one, if_true]
    exact ⟨by rw [hlen]; omega, _, rfl, .inr (by rw [hb]; simp [add_addr])⟩

theorem flat_replicate {U : Ty} {z0 : U.El} {zc : Array Value} (h : zc.toList = (U.enc z0).map svl) : ∀ n, (Builtin.zeroCells zc n).toList = flat U (List.replicate n z0) := by
  intro n
  have hs : zc.size = U.sz := by
    have := congrArg List.length h
    simpa [enc_length] using this
  apply List.ext_getElem?
  intro q
  have pos := sz_pos U
  by_cases hq : q < n * U.sz
  · have h1 : q / U.sz < n := by rw [Nat.div_lt_iff_lt_mul pos]; exact hq
    have h2 : q % U.sz < U.sz := Nat.mod_lt _ pos
    have h3 : q / U.sz * U.sz + q % U.sz = q := by rw [Nat.mul_comm]; exact Nat.div_add_mod q U.sz
    have h4 := flat_at U (List.replicate n z0) (q / U.sz) (q % U.sz) (by simpa using h1) h2
    rw [h3] at h4
    rw [h4]
    have hix : U.ix (List.replicate n z0) (q / U.sz) = z0 := by simp [Ty.ix, List.getD, h1]
    rw [hix]
    have h5 : q % U.sz < zc.size := by rw [hs]; exact h2
    have h6 : zc.toList[q % U.sz]? = some zc[q % U.sz] := by simp [h5]
    rw [h, List.getElem?_map] at h6
    have h7 : q % U.sz < (U.enc z0).length := by rw [enc_length]; exact h2
    rw [List.getElem?_eq_getElem h7] at h6
    simp only [Option.map_some, Option.some.injEq] at h6
    unfold Builtin.zeroCells
    rw [Array.getElem?_toList, Array.getElem?_map, hs, Array.getElem?_eq_getElem (by simpa using hq)]
    simp only [Array.getElem_range, Option.map_some]
    rw [getElem!_pos zc (q % U.sz) h5, ← h6]
    simp [List.getD, h7]
  · rw [List.getElem?_eq_none, List.getElem?_eq_none]
    · rw [flat_length]; simpa using hq
    · unfold Builtin.zeroCells
      simp [hs]; omega

theorem concL_cons {s : SV} {r : List SV} {vs : List Value} (h : concL env H (s :: r) vs) : ∃ v t, vs = v :: t ∧ conc env H s v ∧ concL env H r t := by
  cases vs with
  | nil => exact h.elim
  | cons v t => exact ⟨v, t, rfl, h.1, h.2⟩
theorem concL_nil {vs : List Value} (h : concL env H [] vs) : vs = [] := by
  cases vs with
  | nil => rfl
  | cons _ _ => exact h.elim

theorem clr_ok (hh : HRel wr env H w) {tt : Types} (ht : TabOk P tt) {ts : List Nat} {ss : List SV} {vs : List Value} (hc : concL env H ss vs)
    (h : (clr tt ts ss).run T H = some δ) (ty : Nat) (cs : Array Bool) :
    ∃ v w', (builtin .clear ts.toArray ty cs vs.toArray).run P w = .ok (.value v) w' ∧ ∃ env', Ext env H env' (updH H δ.hs) ∧ HRel wr env' (updH H δ.hs) w' ∧ Fr wr w w' ∧ conc env' (updH H δ.hs) δ.v v := by
  unfold clr at h
  split at h
  case h_2 => simp [RM.run] at h
  rename_i t0 tr j lo n
  obtain ⟨v1, t, rfl, hv1, hr⟩ := concL_cons hc
  cases concL_nil hr
  obtain ⟨i, hi, q⟩ := tiOf_inv h
  clear h
  obtain ⟨e, he, h⟩ := tiOf_inv q
  clear q
  split at h
  case h_2 => simp [RM.run] at h
  rename_i U hU
  split at h
  case h_2 => simp [RM.run] at h
  rename_i z0 hz0
  simp only [RM.run] at h
  split at h
  case h_2 => simp [RM.run] at h
  rename_i V xs0 hj
  split at h
  case h_2 => simp [RM.run] at h
  rename_i xs hx
  obtain ⟨ev, hx⟩ := castTo_inv hx
  subst ev
  subst hx
  simp only [RM.run, Option.some.injEq] at h
  subst h
  obtain ⟨hu, ni, hin, hsz⟩ := typeOk_slice (ht _ _ hi) hU
  obtain ⟨n', u', hin', hu', hsz', hby, hzl, z, hz, hzf, _⟩ := typeOk_some (ht _ _ he)
  rw [hin] at hin'
  cases hin'
  have hzc := zero_conc (env := env) (H := H) hzf
  have henc := dec_enc hz0
  have hv := plain_vals (fun c hc => enc_plain V z0 c (by rw [henc]; exact hc)) hzc
  rw [← henc] at hv
  have hvc : concC env H (.sl j lo n) v1 := hv1
  simp only [concC, hj] at hvc
  obtain ⟨h1, x, rfl, h2⟩ := hvc
  by_cases h0 : n = 0
  · subst h0
    simp only [List.replicate_zero]
    rw [spl_nil, updH_same hj]
    refine ⟨.tuple #[], w, ?_, env, .refl _ _, hh, .refl _ _, ⟨#[], rfl, trivial⟩⟩
    cases x <;> simp [builtin, Builtin.clear_, run_underlying hu]
  · have hle : lo + (List.replicate n z0).length ≤ xs0.length := by simpa using h1
    obtain ⟨b, off, E, vs, hb, hheap, hsize, hcap, hgood⟩ := splice_good hh hj hle (by simp; omega)
    rcases h2 with h2 | h2
    · omega
    rw [hb] at h2
    simp only [Option.map_some, add_addr] at h2
    subst h2
    obtain ⟨g1, g2, g3⟩ := hgood _ rfl
    refine ⟨.tuple #[], _, ?_, env, g1, g2, g3, ⟨#[], rfl, trivial⟩⟩
    have hfl := flat_replicate hv n
    have hfy := flat_length V (List.replicate n z0)
    simp only [List.length_replicate] at hfy
    have hm : (lo + n) * V.sz ≤ (env j).2 * V.sz := Nat.mul_le_mul_right _ (by omega)
    rw [Nat.add_mul] at hm
    have hst := run_storeCells_at P b (off + lo * V.sz) E (Builtin.zeroCells z.cells n).toList 0 vs w hheap (by rw [hfl, hfy]; omega) (by rw [hfl]; exact flat_one V _)
    rw [hfl] at hst
    simp only [Nat.add_zero] at hst
    have hzv : (zeroValue i.elem).run P w = .ok z w := by simp [zeroValue, typeInfo, hin, hz]
    have hn0 : ∃ m, n = m + 1 := ⟨n - 1, by omega⟩
    obtain ⟨m, rfl⟩ := hn0
    simp [builtin, Builtin.clear_, run_underlying hu, hzv, hfl, hst]

theorem maxs_ok {k : IntKind} : ∀ {r : List SV} {vs : List Value} {x n : Int}, concL env H r vs → maxs k x r = some n → (vs.foldlM Builtin.max2 (.int k x)).run P w = .ok (.int k n) w
  | [], vs, x, n, h, hm => by
    rw [concL_nil h]
    simp only [maxs, Option.some.injEq] at hm
    subst hm
    rfl
  | s :: r, vs, x, n, h, hm => by
    obtain ⟨v, t, rfl, hv, ht⟩ := concL_cons h
    cases s <;> simp only [maxs, reduceCtorEq] at hm
    split at hm
    case h_2 => cases hm
    have := conc_int hv
    subst this
    simp only [List.foldlM_cons, Sem.run_bind, Builtin.max2, Sem.run_pure, Result.andThen_ok]
    exact maxs_ok ht hm

theorem mins_ok {k : IntKind} : ∀ {r : List SV} {vs : List Value} {x n : Int}, concL env H r vs → mins k x r = some n → (vs.foldlM Builtin.min2 (.int k x)).run P w = .ok (.int k n) w
  | [], vs, x, n, h, hm => by
    rw [concL_nil h]
    simp only [mins, Option.some.injEq] at hm
    subst hm
    rfl
  | s :: r, vs, x, n, h, hm => by
    obtain ⟨v, t, rfl, hv, ht⟩ := concL_cons h
    cases s <;> simp only [mins, reduceCtorEq] at hm
    split at hm
    case h_2 => cases hm
    have := conc_int hv
    subst this
    simp only [List.foldlM_cons, Sem.run_bind, Builtin.min2, Sem.run_pure, Result.andThen_ok]
    exact mins_ok ht hm

theorem lenOf_inv {α : Type} {v : SV} {u : Value} {k : Nat → RM α} {r : α} (h : (lenOf v k).run T H = some r) (hc : conc env H v u) : ∃ n x c, (k n).run T H = some r ∧ u = .slice x n c := by
  unfold lenOf at h
  split at h
  · rename_i j
    simp only [RM.run] at h
    split at h
    case h_2 => simp [RM.run] at h
    rename_i rw V xs hj
    simp only [conc, conc2, concC, hj] at hc
    exact ⟨_, _, _, h, hc⟩
  · rename_i j lo n
    obtain ⟨h, ha⟩ := alive_inv h
    rcases ha with ⟨r', cs, ha⟩ | ⟨r', V, xs, ha⟩
    · simp only [conc, conc2, concC, ha] at hc
    · simp only [conc, conc2, concC, ha] at hc
      obtain ⟨_, x, hc, _⟩ := hc
      exact ⟨_, _, _, h, hc⟩
  · obtain ⟨x, hc⟩ := hc
    exact ⟨_, _, _, h, hc⟩
  · simp [RM.run] at h

theorem run_builtin_value {s : Sem Value} {v : Value} (h : s.run P w = .ok v w') : (do pure (.value (← s)) : Sem Next).run P w = .ok (.value v) w' := by simp [h]

theorem blt_ok (hh : HRel wr env H w) (hnew : ∀ k, w.heap.size ≤ k → wr k) {tt : Types} (ht : TabOk P tt) {d : Nat} {b : Builtin} {ts : List Nat} {ss : List SV} {vs : List Value} (hc : concL env H ss vs)
    (h : (blt tt d b ts ss).run T H = some δ) (hp : ∀ p, δ.ok = some p → p) (ty : Nat) (cs : Array Bool) :
    ∃ v w', (builtin b ts.toArray ty cs vs.toArray).run P w = .ok (.value v) w' ∧ ∃ env', Ext env H env' (updH H δ.hs) ∧ HRel wr env' (updH H δ.hs) w' ∧ Fr wr w w' ∧ conc env' (updH H δ.hs) δ.v v := by
  have pure' : ∀ {s : SV} {v : Value} {p : Option Prop}, conc env H s v → Ext env H env (updH H (Delta.mk p s []).hs) ∧ HRel wr env (updH H (Delta.mk p s []).hs) w ∧ Fr wr w w ∧ conc env (updH H (Delta.mk p s []).hs) (Delta.mk p s []).v v := by
    intro s v p hc
    rw [updH_nil]
    exact ⟨.refl _ _, hh, .refl _ _, hc⟩
  unfold blt at h
  split at h
  · rename_i s
    obtain ⟨v, t, rfl, hv, hr⟩ := concL_cons hc
    rw [concL_nil hr]
    cases ts with
    | nil => simp [RM.run] at h
    | cons t0 tr =>
    obtain ⟨i, hi, q⟩ := tiOf_inv h
    clear h
    split at q
    case h_2 => simp [RM.run] at q
    rename_i U hU
    obtain ⟨hu, _⟩ := typeOk_slice (ht _ _ hi) hU
    obtain ⟨n, x, c, q, rfl⟩ := lenOf_inv q hv
    simp only [ret1, RM.run, Option.some.injEq] at q
    subst q
    refine ⟨.int .i64 n, w, ?_, env, pure' rfl⟩
    simp [builtin, Builtin.len_, run_underlying hu, goInt]
  · rename_i k x r
    obtain ⟨v, t, rfl, hv, hr⟩ := concL_cons hc
    have := conc_int hv
    subst this
    split at h
    case h_2 => simp [RM.run] at h
    rename_i n hm
    simp only [ret1, RM.run, Option.some.injEq] at h
    subst h
    refine ⟨.int k n, w, ?_, env, pure' rfl⟩
    simp only [builtin, Builtin.max_]
    exact run_builtin_value (maxs_ok hr hm)
  · rename_i k x r
    obtain ⟨v, t, rfl, hv, hr⟩ := concL_cons hc
    have := conc_int hv
    subst this
    split at h
    case h_2 => simp [RM.run] at h
    rename_i n hm
    simp only [ret1, RM.run, Option.some.injEq] at h
    subst h
    refine ⟨.int k n, w, ?_, env, pure' rfl⟩
    simp only [builtin, Builtin.min_]
    exact run_builtin_value (mins_ok hr hm)
  · rename_i s1 s2
    obtain ⟨v1, t, rfl, hv1, hr⟩ := concL_cons hc
    obtain ⟨v2, t2, rfl, hv2, hr⟩ := concL_cons hr
    rw [concL_nil hr]
    obtain ⟨i, hi, q⟩ := tiOf_inv h
    clear h
    obtain ⟨e, he, h⟩ := tiOf_inv q
    clear q
    split at h
    case h_2 => simp [RM.run] at h
    rename_i U hU
    split at hU
    case h_2 => cases hU
    rename_i t0 t1
    split at hU
    case h_2 => cases hU
    rename_i htt
    have htt := Nat.eq_of_beq_eq_true htt
    subst htt
    simp only [List.headD_cons] at hi
    obtain ⟨hu, n', hin', hsz'⟩ := typeOk_slice (ht _ _ hi) hU
    obtain ⟨ni, u', hin, hu', hszi, hby, hzl, z, hz, hzf, _⟩ := typeOk_some (ht _ _ he)
    rw [hin'] at hin
    cases hin
    have hzs := zero_size hzf
    simp only [Array.length_toList] at hzs
    have hzs' : z.cells.size = U.sz := by omega
    obtain ⟨hb0, h⟩ := roomy_inv h
    rw [← hby] at hb0
    obtain ⟨ys, h, hsrc⟩ := elems_inv hh h hv2
    split at h
    · obtain ⟨x, hv1⟩ := hv1
      subst hv1
      obtain ⟨hn, h⟩ := fresh_inv h
      simp only [RM.run, Option.some.injEq] at h
      subst h
      have hr := hp _ rfl
      rw [← hby] at hr
      obtain ⟨v, w', hrun, env', r1, r2, r3, r4⟩ := append_nil_good hh hnew (ty := ty) hu hin' hsz' hz hzs' hn (x := x) hsrc hb0 hr
      exact ⟨v, w', by simp only [builtin]; exact run_builtin_value hrun, env', r1, r2, r3, r4⟩
    · rename_i j
      simp only [RM.run] at h
      split at h
      case h_2 => simp [RM.run] at h
      rename_i V xs hj
      split at h
      case h_2 => simp [RM.run] at h
      rename_i xs' hx
      obtain ⟨ev, hx⟩ := castTo_inv hx
      subst ev
      subst hx
      obtain ⟨hn, h⟩ := fresh_inv h
      simp only [RM.run, Option.some.injEq] at h
      subst h
      have hr := hp _ rfl
      rw [← hby] at hr
      simp only [conc, conc2, concC, hj] at hv1
      subst hv1
      obtain ⟨v, w', hrun, env', r1, r2, r3, r4⟩ := append_good hh hnew (ty := ty) hu hin' hsz' hz hzs' hj hn hsrc hb0 hr
      exact ⟨v, w', by simp only [builtin]; exact run_builtin_value hrun, env', r1, r2, r3, r4⟩
    · rename_i j lo n
      simp only [RM.run] at h
      split at h
      case h_2 => simp [RM.run] at h
      rename_i V xs hj
      split at h
      case h_2 => simp [RM.run] at h
      rename_i xs' hx
      obtain ⟨ev, hx⟩ := castTo_inv hx
      subst ev
      subst hx
      simp only [RM.run, Option.some.injEq] at h
      subst h
      have hle := hp _ rfl
      obtain ⟨v, w', hrun, r1, r2, r3, r4⟩ := append_part_good hh (ty := ty) hu hin' hsz' hj hv1 hsrc hle
      exact ⟨v, w', by simp only [builtin]; exact run_builtin_value hrun, env, r1, r2, r3, r4⟩
    · simp [RM.run] at h
  · simp [RM.run] at h

end

end Go.Proofs.YtnahfbjdicjdpaaGreat.Sym

namespace Go.Proofs.YtnahfbjdicjdpaaGreat.Sym
open Go
set_option linter.unusedVariables false
set_option linter.unusedSimpArgs false

def envOf (E : List (Option Addr × Nat)) : Env := fun k => E.getD k (none, 0)
def ofL (L : List Ent) : Hp := fun k => L[k]?

section
variable {P : Program} {wr : Nat → Prop} {env env' : Env} {H H' : Hp} {a : Act} {w w' : World} {T : Nat → SV} {δ : Delta}

theorem blkRel_ext (x : Ext env H env' H') {j : Nat} {rw : Bool} {b : Blk} (he : env' j = env j) (h : blkRel env H j rw b w) : blkRel env' H' j rw b w := by
  cases b with
  | box cs =>
    obtain ⟨b, E, vs, fz, hb, hheap, hc, hf⟩ := h
    exact ⟨b, E, vs, fz, by rw [he]; exact hb, hheap, concCs_ext x hc, hf⟩
  | vec U xs =>
    simp only [blkRel, he]
    exact h
  | dead => trivial

/-- Of one name that is lent. -/
def LentOne (env : Env) (H : Hp) (s : Src) (e : Ent) (x : Option Addr × Nat) : Prop :=
  match s with
  | .nil => ∃ U, e = (false, .vec U []) ∧ x.2 = 0
  | .whole j => x = env j ∧ ((∃ rw U xs, H j = some (rw, .vec U xs) ∧ e.2 = .vec U xs ∧ (e.1 = true → rw = true)) ∨ ∃ rw cs cs', H j = some (rw, .box cs) ∧ e = (rw, .box cs'))
  | .part j lo n => ∃ rw U xs, H j = some (rw, .vec U xs) ∧ e = (false, .vec U ((xs.drop lo).take n)) ∧ lo + n ≤ xs.length ∧ x.2 = (env j).2 - lo ∧ ((env j).2 = lo ∨ x.1 = (env j).1.map (·.add (lo * U.sz)))

structure Lent (env : Env) (H : Hp) (w : World) (β : List Src) (L : List Ent) (E : List (Option Addr × Nat)) : Prop where
  l1 : L.length = β.length
  l2 : E.length = β.length
  one : ∀ (k : Nat) s e x, β[k]? = some s → L[k]? = some e → E[k]? = some x → LentOne env H s e x
  blk : ∀ (k : Nat) r b, L[k]? = some (r, b) → blkRel (envOf E) (ofL L) k r b w

theorem Lent.nil : Lent env H w [] [] [] := ⟨rfl, rfl, fun k s e x h => by simp at h, fun k r b h => by simp at h⟩

theorem ext_append (E E2 : List (Option Addr × Nat)) (L L2 : List Ent) (h : E.length = L.length) : Ext (envOf E) (ofL L) (envOf (E ++ E2)) (ofL (L ++ L2)) := ⟨fun j r b hj => by
  have hlt : j < L.length := (List.getElem?_eq_some_iff.1 hj).1
  refine ⟨?_, r, b, ?_, stays_refl b⟩
  · simp [envOf, List.getD, List.getElem?_append_left (show j < E.length by omega)]
  · simp only [ofL] at hj ⊢
    rw [List.getElem?_append_left hlt]
    exact hj⟩

theorem Lent.push {β : List Src} {L : List Ent} {E : List (Option Addr × Nat)} (h : Lent env H w β L E) {s : Src} {r : Bool} {b : Blk} {x : Option Addr × Nat} (h1 : LentOne env H s (r, b) x)
    (h2 : blkRel (envOf (E ++ [x])) (ofL (L ++ [(r, b)])) L.length r b w) : Lent env H w (β ++ [s]) (L ++ [(r, b)]) (E ++ [x]) := by
  have e1 := h.l1
  have e2 := h.l2
  have ex := ext_append E [x] L [(r, b)] (by omega)
  refine ⟨by simp [e1], by simp [e2], ?_, ?_⟩
  · intro k s' e' x' hs he hx
    rcases Nat.lt_trichotomy k β.length with hk | hk | hk
    · rw [List.getElem?_append_left hk] at hs
      rw [List.getElem?_append_left (by omega)] at he hx
      exact h.one k s' e' x' hs he hx
    · subst hk
      rw [List.getElem?_append_right (Nat.le_refl _)] at hs
      rw [List.getElem?_append_right (by omega)] at he hx
      simp only [Nat.sub_self, List.getElem?_cons_zero, Option.some.injEq, e1, e2] at hs he hx
      subst hs; subst he; subst hx
      exact h1
    · rw [List.getElem?_eq_none (by simp; omega)] at hs
      cases hs
  · intro k r' b' hk
    rcases Nat.lt_trichotomy k L.length with hlt | hlt | hlt
    · rw [List.getElem?_append_left hlt] at hk
      exact blkRel_ext ex (by simp [envOf, List.getD, List.getElem?_append_left (show k < E.length by omega)]) (h.blk k r' b' hk)
    · subst hlt
      rw [List.getElem?_append_right (Nat.le_refl _)] at hk
      simp only [Nat.sub_self, List.getElem?_cons_zero, Option.some.injEq, Prod.mk.injEq] at hk
      obtain ⟨rfl, rfl⟩ := hk
      exact h2
    · rw [List.getElem?_eq_none (by simp; omega)] at hk
      cases hk

/-- The lists have grown. -/
def Grow (β : List Src) (L : List Ent) (E : List (Option Addr × Nat)) (β' : List Src) (L' : List Ent) (E' : List (Option Addr × Nat)) : Prop :=
  ∃ b l e, β' = β ++ b ∧ L' = L ++ l ∧ E' = E ++ e

theorem Grow.refl (β : List Src) (L : List Ent) (E : List (Option Addr × Nat)) : Grow β L E β L E := ⟨[], [], [], by simp, by simp, by simp⟩
theorem Grow.trans {β β' β'' : List Src} {L L' L'' : List Ent} {E E' E'' : List (Option Addr × Nat)} (h : Grow β L E β' L' E') (k : Grow β' L' E' β'' L'' E'') : Grow β L E β'' L'' E'' := by
  obtain ⟨b, l, e, rfl, rfl, rfl⟩ := h
  obtain ⟨b', l', e', rfl, rfl, rfl⟩ := k
  exact ⟨b ++ b', l ++ l', e ++ e', by simp, by simp, by simp⟩
theorem Grow.ext {β β' : List Src} {L L' : List Ent} {E E' : List (Option Addr × Nat)} (h : Grow β L E β' L' E') (hl : E.length = L.length) : Ext (envOf E) (ofL L) (envOf E') (ofL L') := by
  obtain ⟨b, l, e, rfl, rfl, rfl⟩ := h
  exact ext_append _ _ _ _ hl

theorem envOf_last (E : List (Option Addr × Nat)) (x : Option Addr × Nat) : envOf (E ++ [x]) E.length = x := by simp [envOf, List.getD]
theorem ofL_last (L : List Ent) (e : Ent) : ofL (L ++ [e]) L.length = some e := by simp [ofL]

theorem lend0_inv {α : Type} (hh : HRel wr env H w) {wt : Bool} {ct : Option Ty} {c : SV} {β : List Src} {L : List Ent} {E : List (Option Addr × Nat)} {k : SV → List Src → List Ent → RM α} {r : α}
    (h : (lend0 wt ct c β L k).run T H = some r) (hl : Lent env H w β L E) {v : Value} (hc : concC env H c v) :
    ∃ s β' L' E', (k s β' L').run T H = some r ∧ Lent env H w β' L' E' ∧ Grow β L E β' L' E' ∧ concC (envOf E') (ofL L') s v := by
  have hlen : L.length = E.length := by rw [hl.l1, hl.l2]
  unfold lend0 at h
  split at h
  · exact ⟨_, _, _, E, h, hl, .refl _ _ _, hc⟩
  · exact ⟨_, _, _, E, h, hl, .refl _ _ _, hc⟩
  · exact ⟨_, _, _, E, h, hl, .refl _ _ _, hc⟩
  · exact ⟨_, _, _, E, h, hl, .refl _ _ _, hc⟩
  · rename_i j
    simp only [RM.run] at h
    split at h
    case h_2 => simp [RM.run] at h
    rename_i rw U xs hj
    have key : ∀ rw', (rw' = true → rw = true) → Lent env H w (β ++ [.whole j]) (L ++ [(rw', .vec U xs)]) (E ++ [env j]) ∧ concC (envOf (E ++ [env j])) (ofL (L ++ [(rw', .vec U xs)])) (.vec L.length) v := by
      intro rw' hrw
      refine ⟨hl.push ⟨rfl, .inl ⟨rw, U, xs, hj, rfl, hrw⟩⟩ ?_, ?_⟩
      · have := hh.blk j rw _ hj
        simp only [blkRel] at this ⊢
        rw [hlen, envOf_last]
        obtain ⟨h1, h2⟩ := this
        refine ⟨h1, h2.imp id ?_⟩
        rintro ⟨b, off, E', vs, fz, a1, a2, a3, a4, a5⟩
        exact ⟨b, off, E', vs, fz, a1, a2, a3, a4, fun q => a5 (hrw q)⟩
      · simp only [concC, hj] at hc ⊢
        rw [ofL_last]
        simp only
        rw [hlen, envOf_last]
        exact hc
    split at h
    · obtain ⟨k1, k2⟩ := key true (fun _ => rfl)
      exact ⟨_, _, _, _, h, k1, ⟨_, _, _, rfl, rfl, rfl⟩, k2⟩
    · simp [RM.run] at h
    · obtain ⟨k1, k2⟩ := key false (fun q => by cases q)
      exact ⟨_, _, _, _, h, k1, ⟨_, _, _, rfl, rfl, rfl⟩, k2⟩
  · rename_i j lo n
    simp only [RM.run] at h
    split at h
    case h_2 => simp [RM.run] at h
    rename_i rw U xs hj
    split at h
    · simp [RM.run] at h
    · simp only [concC, hj] at hc
      obtain ⟨hlo, y, rfl, hy⟩ := hc
      have hlen2 : ((xs.drop lo).take n).length = n := by simp; omega
      refine ⟨_, _, _, E ++ [(y, (env j).2 - lo)], h, hl.push ⟨rw, U, xs, hj, rfl, hlo, rfl, hy⟩ ?_, ⟨_, _, _, rfl, rfl, rfl⟩, ?_⟩
      · simp only [blkRel]
        rw [hlen, envOf_last, hlen2]
        obtain ⟨h1, h2⟩ := hh.blk j rw _ hj
        refine ⟨by simp only; omega, ?_⟩
        rcases h2 with h2 | ⟨b, off, E', vs, fz, a1, a2, a3, a4, a5⟩
        · left; simp only; omega
        · rcases hy with hy | hy
          · left; simp only; omega
          · right
            rw [a1] at hy
            simp only [Option.map_some, add_addr] at hy
            refine ⟨b, off + lo * U.sz, E', vs, fz, hy, a2, ?_, ?_, fun q => by cases q⟩
            · have : (env j).2 * U.sz = lo * U.sz + ((env j).2 - lo) * U.sz := by rw [← Nat.add_mul]; congr 1; omega
              simp only
              omega
            · intro e he o ho
              rw [hlen2] at he
              have h1 := a4 (lo + e) (by omega) o ho
              have hix : U.ix ((xs.drop lo).take n) e = U.ix xs (lo + e) := by simp [Ty.ix, List.getD, List.getElem?_take, he]
              rw [hix, ← h1]
              congr 1
              rw [Nat.add_mul]
              omega
      · simp only [concC]
        rw [ofL_last]
        simp only
        rw [hlen, envOf_last, hlen2]
  · split at h
    case h_2 => simp [RM.run] at h
    rename_i U
    obtain ⟨y, rfl⟩ := hc
    refine ⟨_, _, _, E ++ [(y, 0)], h, hl.push ⟨U, rfl, rfl⟩ ?_, ⟨_, _, _, rfl, rfl, rfl⟩, ?_⟩
    · simp only [blkRel]
      rw [hlen, envOf_last]
      exact ⟨Nat.le_refl _, .inl rfl⟩
    · simp only [concC]
      rw [ofL_last]
      simp only
      rw [hlen, envOf_last]
      rfl
  · simp [RM.run] at h

theorem lend0s_inv {α : Type} (hh : HRel wr env H w) : ∀ {cs : List SV} {β : List Src} {L : List Ent} {E : List (Option Addr × Nat)} {k : List SV → List Src → List Ent → RM α} {r : α} {vs : List Value},
    (lend0s cs β L k).run T H = some r → Lent env H w β L E → concCs env H cs vs →
    ∃ ss β' L' E', (k ss β' L').run T H = some r ∧ Lent env H w β' L' E' ∧ Grow β L E β' L' E' ∧ concCs (envOf E') (ofL L') ss vs
  | [], β, L, E, k, r, [], h, hl, _ => ⟨[], β, L, E, h, hl, .refl _ _ _, trivial⟩
  | c :: cs, β, L, E, k, r, v :: vs, h, hl, hc => by
    simp only [lend0s] at h
    obtain ⟨s, β1, L1, E1, h, hl1, g1, c1⟩ := lend0_inv hh h hl hc.1
    obtain ⟨ss, β2, L2, E2, h, hl2, g2, c2⟩ := lend0s_inv hh h hl1 hc.2
    exact ⟨s :: ss, β2, L2, E2, h, hl2, g1.trans g2, concC_ext (g2.ext (by rw [hl1.l1, hl1.l2])) c1, c2⟩

theorem posOf_inv {j : Nat} : ∀ {β : List Src} {k i : Nat}, posOf j β k = some i → ∃ m, i = k + m ∧ β[m]? = some (.whole j)
  | [], k, i, h => by simp [posOf] at h
  | .whole x :: r, k, i, h => by
    simp only [posOf] at h
    split at h
    · rename_i hb
      have := Nat.eq_of_beq_eq_true hb
      subst this
      cases h
      exact ⟨0, rfl, rfl⟩
    · obtain ⟨m, h1, h2⟩ := posOf_inv h
      exact ⟨m + 1, by omega, by simpa using h2⟩
  | .nil :: r, k, i, h => by
    simp only [posOf] at h
    obtain ⟨m, h1, h2⟩ := posOf_inv h
    exact ⟨m + 1, by omega, by simpa using h2⟩
  | .part _ _ _ :: r, k, i, h => by
    simp only [posOf] at h
    obtain ⟨m, h1, h2⟩ := posOf_inv h
    exact ⟨m + 1, by omega, by simpa using h2⟩

/-- A lent block under its canonical name: as its own. -/
def SameBlk (env : Env) (H : Hp) (j : Nat) (envc : Env) (Hc : Hp) (i : Nat) : Prop :=
  envc i = env j ∧ ((∃ rw U xs rw', H j = some (rw, .vec U xs) ∧ Hc i = some (rw', .vec U xs)) ∨ ∃ rw cs rw' cs', H j = some (rw, .box cs) ∧ Hc i = some (rw', .box cs'))

theorem lendB_inv {α : Type} (hh : HRel wr env H w) {j : Nat} {β : List Src} {L : List Ent} {E : List (Option Addr × Nat)} {k : Nat → List Src → List Ent → RM α} {r : α}
    (h : (lendB j β L k).run T H = some r) (hl : Lent env H w β L E) :
    ∃ i β' L' E', (k i β' L').run T H = some r ∧ Lent env H w β' L' E' ∧ Grow β L E β' L' E' ∧ SameBlk env H j (envOf E') (ofL L') i := by
  have hlen : L.length = E.length := by rw [hl.l1, hl.l2]
  unfold lendB at h
  split at h
  · rename_i i hi
    obtain ⟨m, rfl, hm⟩ := posOf_inv hi
    rw [Nat.zero_add] at h
    have hlt : m < β.length := (List.getElem?_eq_some_iff.1 hm).1
    obtain ⟨e, he⟩ : ∃ e, L[m]? = some e := ⟨L[m]'(by rw [hl.l1]; exact hlt), List.getElem?_eq_getElem _⟩
    obtain ⟨x, hx⟩ : ∃ x, E[m]? = some x := ⟨E[m]'(by rw [hl.l2]; exact hlt), List.getElem?_eq_getElem _⟩
    have ho := hl.one m _ e x hm he hx
    refine ⟨_, β, L, E, h, hl, .refl _ _ _, ?_, ?_⟩
    · simp only [envOf, List.getD, hx, Option.getD_some]
      exact ho.1
    · obtain ⟨_, ho⟩ := ho
      obtain ⟨e1, e2⟩ := e
      rcases ho with ⟨rw, U, xs, h1, h2, _⟩ | ⟨rw, cs, cs', h1, h2⟩
      · simp only at h2
        exact .inl ⟨rw, U, xs, e1, h1, by simp [ofL, he, h2]⟩
      · cases h2
        exact .inr ⟨e1, cs, e1, cs', h1, by simp [ofL, he]⟩
  · simp only [RM.run] at h
    split at h
    · rename_i rw cs hj
      obtain ⟨b, E0, vs, fz, hb, hheap, hcs, hf⟩ := hh.blk j rw _ hj
      obtain ⟨ss, β1, L1, E1, h, hl1, g1, c1⟩ := lend0s_inv hh h hl hcs
      have hlen1 : L1.length = E1.length := by rw [hl1.l1, hl1.l2]
      refine ⟨_, _, _, E1 ++ [env j], h, hl1.push ⟨rfl, .inr ⟨rw, cs, ss, hj, rfl⟩⟩ ?_, g1.trans ⟨_, _, _, rfl, rfl, rfl⟩, ?_, ?_⟩
      · refine ⟨b, E0, vs, fz, by rw [hlen1, envOf_last]; exact hb, hheap, concCs_ext (ext_append _ _ _ _ hlen1.symm) c1, hf⟩
      · rw [hlen1, envOf_last]
      · exact .inr ⟨rw, cs, rw, ss, hj, by rw [ofL_last]⟩
    · rename_i rw U xs hj
      refine ⟨_, _, _, E ++ [env j], h, hl.push ⟨rfl, .inl ⟨rw, U, xs, hj, rfl, id⟩⟩ ?_, ⟨_, _, _, rfl, rfl, rfl⟩, ?_, ?_⟩
      · have := hh.blk j rw _ hj
        simp only [blkRel] at this ⊢
        rw [hlen, envOf_last]
        exact this
      · rw [hlen, envOf_last]
      · exact .inl ⟨rw, U, xs, rw, hj, by rw [ofL_last]⟩
    · simp [RM.run] at h

theorem SameBlk.ext {j i : Nat} {envc envc' : Env} {Hc Hc' : Hp} (x : Ext envc Hc envc' Hc') (hs : ∀ k e, Hc k = some e → Hc' k = some e) (h : SameBlk env H j envc Hc i) : SameBlk env H j envc' Hc' i := by
  obtain ⟨h1, h2⟩ := h
  rcases h2 with ⟨rw, U, xs, rw', a, b⟩ | ⟨rw, cs, rw', cs', a, b⟩
  · exact ⟨((x.same i _ _ b).1).trans h1, .inl ⟨rw, U, xs, rw', a, hs _ _ b⟩⟩
  · exact ⟨((x.same i _ _ b).1).trans h1, .inr ⟨rw, cs, rw', cs', a, hs _ _ b⟩⟩

theorem conc_same_ptr {j i e o : Nat} {envc : Env} {Hc : Hp} (h : SameBlk env H j envc Hc i) {v : Value} (hc : concC env H (.ptr j e o) v) : concC envc Hc (.ptr i e o) v := by
  obtain ⟨h1, ⟨rw, U, xs, rw', a, b⟩ | ⟨rw, cs, rw', cs', a, b⟩⟩ := h
  · simp only [concC, a, b, h1] at hc ⊢
    exact hc
  · simp only [concC, a, b, h1] at hc ⊢
    exact hc

theorem conc_same_fn {j i f : Nat} {envc : Env} {Hc : Hp} (h : SameBlk env H j envc Hc i) {v : Value} (hc : concC env H (.fn f (some j)) v) : concC envc Hc (.fn f (some i)) v := by
  obtain ⟨h1, ⟨rw, U, xs, rw', a, b⟩ | ⟨rw, cs, rw', cs', a, b⟩⟩ := h
  · simp only [concC, a] at hc
  · simp only [concC, a, b, h1] at hc ⊢
    exact hc

theorem lend1_inv {α : Type} (hh : HRel wr env H w) {wt : Bool} {ct : Option Ty} {c : SV} {β : List Src} {L : List Ent} {E : List (Option Addr × Nat)} {k : SV → List Src → List Ent → RM α} {r : α}
    (h : (lend1 wt ct c β L k).run T H = some r) (hl : Lent env H w β L E) {v : Value} (hc : concC env H c v) :
    ∃ s β' L' E', (k s β' L').run T H = some r ∧ Lent env H w β' L' E' ∧ Grow β L E β' L' E' ∧ concC (envOf E') (ofL L') s v := by
  unfold lend1 at h
  split at h
  · obtain ⟨i, β', L', E', h, hl', g, hs⟩ := lendB_inv hh h hl
    exact ⟨_, _, _, E', h, hl', g, conc_same_ptr hs hc⟩
  · obtain ⟨i, β', L', E', h, hl', g, hs⟩ := lendB_inv hh h hl
    exact ⟨_, _, _, E', h, hl', g, conc_same_fn hs hc⟩
  · exact lend0_inv hh h hl hc

theorem lendCells_inv {α : Type} (hh : HRel wr env H w) {wt : Bool} : ∀ {cs : List SV} {cts : List (Option Ty)} {β : List Src} {L : List Ent} {E : List (Option Addr × Nat)} {k : List SV → List Src → List Ent → RM α} {r : α} {vs : List Value},
    (lendCells wt cts cs β L k).run T H = some r → Lent env H w β L E → concCs env H cs vs →
    ∃ ss β' L' E', (k ss β' L').run T H = some r ∧ Lent env H w β' L' E' ∧ Grow β L E β' L' E' ∧ concCs (envOf E') (ofL L') ss vs
  | [], cts, β, L, E, k, r, [], h, hl, _ => ⟨[], β, L, E, h, hl, .refl _ _ _, trivial⟩
  | c :: cs, cts, β, L, E, k, r, v :: vs, h, hl, hc => by
    simp only [lendCells] at h
    obtain ⟨s, β1, L1, E1, h, hl1, g1, c1⟩ := lend1_inv hh h hl hc.1
    obtain ⟨ss, β2, L2, E2, h, hl2, g2, c2⟩ := lendCells_inv hh h hl1 hc.2
    exact ⟨s :: ss, β2, L2, E2, h, hl2, g1.trans g2, concC_ext (g2.ext (by rw [hl1.l1, hl1.l2])) c1, c2⟩

theorem lendArg_inv {α : Type} (hh : HRel wr env H w) {wt : Bool} {cts : List (Option Ty)} {c : SV} {β : List Src} {L : List Ent} {E : List (Option Addr × Nat)} {k : SV → List Src → List Ent → RM α} {r : α}
    (h : (lendArg wt cts c β L k).run T H = some r) (hl : Lent env H w β L E) {v : Value} (hc : conc env H c v) :
    ∃ s β' L' E', (k s β' L').run T H = some r ∧ Lent env H w β' L' E' ∧ Grow β L E β' L' E' ∧ conc2 (envOf E') (ofL L') s v := by
  unfold lendArg at h
  split at h
  · obtain ⟨vs, rfl, hc⟩ := hc
    obtain ⟨ss, β1, L1, E1, h, hl1, g1, c1⟩ := lendCells_inv hh h hl hc
    exact ⟨_, _, _, E1, h, hl1, g1, vs, rfl, c1⟩
  · rename_i hna
    by_cases ht : ∃ cs, c = .tup cs
    · obtain ⟨cs, rfl⟩ := ht
      simp [lend1, lend0, RM.run] at h
    · have hc := concC_of hc (fun cs e => hna cs e) (fun cs e => ht ⟨cs, e⟩)
      obtain ⟨s, β1, L1, E1, h, hl1, g1, c1⟩ := lend1_inv hh h hl hc
      exact ⟨_, _, _, E1, h, hl1, g1, conc2_of_concC c1⟩

theorem lendArgs_inv {α : Type} (hh : HRel wr env H w) : ∀ {vs : List SV} {ws : List Bool} {tss : List (List (Option Ty))} {β : List Src} {L : List Ent} {E : List (Option Addr × Nat)} {k : List SV → List Src → List Ent → RM α} {r : α} {us : List Value},
    (lendArgs ws tss vs β L k).run T H = some r → Lent env H w β L E → concL env H vs us →
    ∃ ss β' L' E', (k ss β' L').run T H = some r ∧ Lent env H w β' L' E' ∧ Grow β L E β' L' E' ∧ conc2s (envOf E') (ofL L') ss us
  | [], ws, tss, β, L, E, k, r, us, h, hl, hc => by
    rw [concL_nil hc]
    exact ⟨[], β, L, E, h, hl, .refl _ _ _, trivial⟩
  | c :: cs, ws, tss, β, L, E, k, r, us, h, hl, hc => by
    obtain ⟨v, vs, rfl, hv, hc⟩ := concL_cons hc
    simp only [lendArgs] at h
    obtain ⟨s, β1, L1, E1, h, hl1, g1, c1⟩ := lendArg_inv hh h hl hv
    obtain ⟨ss, β2, L2, E2, h, hl2, g2, c2⟩ := lendArgs_inv hh h hl1 hc
    exact ⟨s :: ss, β2, L2, E2, h, hl2, g1.trans g2, conc2_ext (g2.ext (by rw [hl1.l1, hl1.l2])) c1, c2⟩

end

end Go.Proofs.YtnahfbjdicjdpaaGreat.Sym

namespace Go.Proofs.YtnahfbjdicjdpaaGreat.Sym
open Go
set_option linter.unusedVariables false
set_option linter.unusedSimpArgs false

/-- What a called function does, at given arguments and blocks. -/
structure FSem (P : Program) (f : Nat) (args : List SV) (L : List Ent) (r : SV) (L' : List Ent) : Prop where
  len : L.length ≤ L'.length
  keep : ∀ (k : Nat) b, L[k]? = some (false, b) → L'[k]? = some (false, b)
  wrt : ∀ (k : Nat) b, L[k]? = some (true, b) → ∃ b', L'[k]? = some (true, b') ∧ stays b b'
  new : ∀ (k : Nat) e, L.length ≤ k → L'[k]? = some e → e.1 = true
  run : ∀ (wr : Nat → Prop) (env : Env) (w : World) (us : List Value), HRel wr env (ofL L) w → (∀ k, w.heap.size ≤ k → wr k) → conc2s env (ofL L) args us →
    Calls P f us.toArray w fun e w' => ∃ v env', e = .returned v ∧ (∀ j, j < L.length → env' j = env j) ∧ HRel wr env' (ofL L') w' ∧ conc env' (ofL L') r v ∧ Fr wr w w'

structure FsOk (P : Program) (f : Nat) (fs : Fs) : Prop where
  enter : ∀ (w : World) (args : Array Value), (callFunc f args).run P w = .ok (.enter f args) w
  sem : ∀ args L p r L', fs.ev args L = some (p, r, L') → (∀ q, p = some q → q) → FSem P f args L r L'

def TabFs (P : Program) (S : Tab) : Prop := ∀ f fs, S f = some fs → FsOk P f fs

section
variable {P : Program} {wr : Nat → Prop} {env env' : Env} {H H' : Hp} {a : Act} {w w' : World} {T : Nat → SV} {δ : Delta}

theorem own_src {s : Src} {r : Bool} {b : Blk} {x : Option Addr × Nat} {envc : Env} {k y : Nat} (h : LentOne env H s (r, b) x) (he : envc k = x) (hy : own envc k b = some y) :
    ∃ j r' b', s.name = some j ∧ H j = some (r', b') ∧ own env j b' = some y ∧ (r = true → r' = true) := by
  cases s with
  | nil =>
    obtain ⟨U, hb, hx⟩ := h
    cases hb
    simp [own, he, hx] at hy
  | whole j =>
    obtain ⟨hx, h⟩ := h
    rcases h with ⟨rw, U, xs, h1, h2, h3⟩ | ⟨rw, cs, cs', h1, h2⟩
    · simp only at h2
      subst h2
      refine ⟨j, rw, _, rfl, h1, ?_, h3⟩
      simpa [own, he, hx] using hy
    · cases h2
      refine ⟨j, _, _, rfl, h1, ?_, id⟩
      simpa [own, he, hx] using hy
  | part j lo n =>
    obtain ⟨rw, U, xs, h1, h2, h3, h4, h5⟩ := h
    cases h2
    simp only [own, he] at hy
    split at hy
    · cases hy
    · rename_i hz
      refine ⟨j, rw, _, rfl, h1, ?_, fun q => by cases q⟩
      have hne : (env j).2 ≠ 0 := by omega
      simp only [own, hne, if_false]
      rcases h5 with h5 | h5
      · omega
      · rw [h5] at hy
        cases hb : (env j).1 with
        | none => simp [hb] at hy
        | some q =>
          simp only [hb, Option.map_some, Option.some.injEq] at hy ⊢
          rw [← hy]
          unfold Addr.add
          split <;> rfl

theorem lentOnce_spec {j : Nat} {rw : Bool} : ∀ {β : List Src} {L : List Ent}, lentOnce j rw β L = true → L.length = β.length → ∀ (k : Nat) s e, β[k]? = some s → L[k]? = some e → s.name = some j → rw = false ∧ e.1 = false
  | [], L, h, hl, k, s, e, hs, he, hn => by simp at hs
  | s0 :: β, [], h, hl, k, s, e, hs, he, hn => by simp at hl
  | s0 :: β, (r0, b0) :: L, h, hl, k, s, e, hs, he, hn => by
    have hl' : L.length = β.length := by simpa using hl
    cases k with
    | zero =>
      simp only [List.getElem?_cons_zero, Option.some.injEq] at hs he
      subst hs
      subst he
      simp only [lentOnce, hn] at h
      simp only [Nat.beq_refl] at h
      cases rw <;> cases r0 <;> simp_all
    | succ k =>
      simp only [List.getElem?_cons_succ] at hs he
      have h' : lentOnce j rw β L = true := by
        simp only [lentOnce] at h
        split at h
        · split at h
          · cases h
          · exact h
        · exact h
      exact lentOnce_spec h' hl' k s e hs he hn

theorem allOnce_spec : ∀ {β : List Src} {L : List Ent}, allOnce β L = true → L.length = β.length → ∀ (i k : Nat) s t e f j, i < k → β[i]? = some s → L[i]? = some e → β[k]? = some t → L[k]? = some f → s.name = some j → t.name = some j → e.1 = false ∧ f.1 = false
  | [], L, h, hl, i, k, s, t, e, f, j, hik, hs, he, ht, hf, h1, h2 => by simp at hs
  | s0 :: β, [], h, hl, i, k, s, t, e, f, j, hik, hs, he, ht, hf, h1, h2 => by simp at hl
  | s0 :: β, (r0, b0) :: L, h, hl, i, k, s, t, e, f, j, hik, hs, he, ht, hf, h1, h2 => by
    have hl' : L.length = β.length := by simpa using hl
    cases k with
    | zero => omega
    | succ k =>
      simp only [List.getElem?_cons_succ] at ht hf
      cases i with
      | zero =>
        simp only [List.getElem?_cons_zero, Option.some.injEq] at hs he
        subst hs
        subst he
        simp only [allOnce, h1, Bool.and_eq_true] at h
        exact lentOnce_spec h.1 hl' k t f ht hf h2
      | succ i =>
        simp only [List.getElem?_cons_succ] at hs he
        have h' : allOnce β L = true := by
          simp only [allOnce] at h
          split at h
          · simp only [Bool.and_eq_true] at h; exact h.2
          · exact h
        exact allOnce_spec h' hl' i k s t e f j (by omega) hs he ht hf h1 h2

/-- What the called function may write. -/
def wrC (w : World) (envc : Env) (L : List Ent) : Nat → Prop := fun k => w.heap.size ≤ k ∨ ∃ (i : Nat) (b : Blk), L[i]? = some (true, b) ∧ own envc i b = some k

theorem Lent.src {β : List Src} {L : List Ent} {E : List (Option Addr × Nat)} (hl : Lent env H w β L E) {k : Nat} {e : Ent} (he : L[k]? = some e) : ∃ s, β[k]? = some s ∧ LentOne env H s e (envOf E k) := by
  have hlt : k < L.length := (List.getElem?_eq_some_iff.1 he).1
  have h1 : k < β.length := by rw [← hl.l1]; exact hlt
  have h2 : k < E.length := by rw [hl.l2]; exact h1
  refine ⟨β[k], List.getElem?_eq_getElem h1, ?_⟩
  have := hl.one k β[k] e E[k] (List.getElem?_eq_getElem h1) he (List.getElem?_eq_getElem h2)
  simpa [envOf, List.getD, h2] using this

theorem Lent.hrel (hh : HRel wr env H w) {β : List Src} {L : List Ent} {E : List (Option Addr × Nat)} (hl : Lent env H w β L E) (ho : allOnce β L = true) : HRel (wrC w (envOf E) L) (envOf E) (ofL L) w := by
  refine ⟨fun j r b hj => hl.blk j r b hj, ?_, fun j b hj y hy => .inr ⟨j, b, hj, hy⟩⟩
  have key : ∀ (i j : Nat) ri bi rj bj, i < j → L[i]? = some (ri, bi) → L[j]? = some (rj, bj) → (ri = true ∨ rj = true) → ∀ x, own (envOf E) i bi = some x → own (envOf E) j bj = some x → False := by
    intro i j ri bi rj bj hij hi hj hrw x hx hy
    obtain ⟨si, hsi, oi⟩ := hl.src hi
    obtain ⟨sj, hsj, oj⟩ := hl.src hj
    obtain ⟨a, ra, ba, na, ha, ha2, ha3⟩ := own_src oi rfl hx
    obtain ⟨c, rc, bc, nc, hc, hc2, hc3⟩ := own_src oj rfl hy
    by_cases hac : a = c
    · subst hac
      obtain ⟨q1, q2⟩ := allOnce_spec ho hl.l1 i j si sj (ri, bi) (rj, bj) a hij hsi hi hsj hj na nc
      simp only at q1 q2
      subst q1; subst q2
      rcases hrw with h | h <;> cases h
    · exact hh.dj a c ra ba rc bc hac ha hc (hrw.imp ha3 hc3) x ha2 hc2
  intro i j ri bi rj bj hij hi hj hrw x hx hy
  rcases Nat.lt_or_gt_of_ne hij with h | h
  · exact key i j ri bi rj bj h hi hj hrw x hx hy
  · exact key j i rj bj ri bi h hj hi hrw.symm x hy hx

theorem freshes_inv {α : Type} {d : Nat} : ∀ {n : Nat} {k : RM α} {r : α}, (freshes d n k).run T H = some r → k.run T H = some r ∧ ∀ i, i < n → H (nm d + i) = none
  | 0, k, r, h => ⟨h, fun i hi => by omega⟩
  | n + 1, k, r, h => by
    simp only [freshes] at h
    obtain ⟨h, h2⟩ := freshes_inv h
    obtain ⟨h3, h⟩ := fresh_inv h
    refine ⟨h, fun i hi => ?_⟩
    by_cases e : i = n
    · subst e; exact h3
    · exact h2 i (by omega)

/-- An entry behind a call, for whom it stands. -/
def Stands (β : List Src) (d : Nat) (L L' : List Ent) (n : Nat) (e : Ent) : Prop :=
  (∃ (k : Nat) (b x : Blk) (r : Bool) (x' : Blk), β[k]? = some (.whole n) ∧ L[k]? = some (true, b) ∧ L'[k]? = some (r, x) ∧ backBlk β d x = some x' ∧ e = (true, x')) ∨
  (∃ (i : Nat) (x x' : Blk), n = nm d + i ∧ L'[L.length + i]? = some (true, x) ∧ backBlk β d x = some x' ∧ e = (true, x'))

theorem backH_mem {β0 : List Src} {d : Nat} : ∀ {β : List Src} {L L' : List Ent} {m : Nat} {hs : List (Nat × Ent)}, backH β0 d β L L' m = some hs → ∀ n e, (n, e) ∈ hs →
    (∃ (k : Nat) (b x : Blk) (r : Bool) (x' : Blk), β[k]? = some (.whole n) ∧ L[k]? = some (true, b) ∧ L'[k]? = some (r, x) ∧ backBlk β0 d x = some x' ∧ e = (true, x')) ∨
    (∃ (i : Nat) (x x' : Blk), n = nm d + (m + i) ∧ L'[L.length + i]? = some (true, x) ∧ backBlk β0 d x = some x' ∧ e = (true, x'))
  | [], [], [], m, hs, h, n, e, hm => by simp only [backH, Option.some.injEq] at h; subst h; simp at hm
  | [], [], (r, x) :: L', m, hs, h, n, e, hm => by
    cases r with
    | false => simp [backH] at h
    | true =>
      simp only [backH] at h
      split at h
      case h_2 => cases h
      rename_i x' q h1 h2
      cases h
      rcases List.mem_cons.1 hm with h3 | h3
      · cases h3
        exact .inr ⟨0, x, x', by simp, by simp, h1, rfl⟩
      · rcases backH_mem h2 n e h3 with ⟨k, b, y, r, y', h4, _⟩ | ⟨i, y, y', h4, h5, h6, h7⟩
        · simp at h4
        · exact .inr ⟨i + 1, y, y', by omega, by simpa using h5, h6, h7⟩
  | s :: β, [], L', m, hs, h, n, e, hm => by cases s <;> cases L' <;> simp [backH] at h
  | [], _ :: _, L', m, hs, h, n, e, hm => by cases L' <;> simp [backH] at h
  | s :: β, (r0, b0) :: L, [], m, hs, h, n, e, hm => by cases s <;> cases r0 <;> simp [backH] at h
  | s :: β, (r0, b0) :: L, (r1, x) :: L', m, hs, h, n, e, hm => by
    have lift : ∀ {hs : List (Nat × Ent)}, backH β0 d β L L' m = some hs → (n, e) ∈ hs →
        (∃ (k : Nat) (b y : Blk) (r : Bool) (x' : Blk), (s :: β)[k]? = some (.whole n) ∧ ((r0, b0) :: L)[k]? = some (true, b) ∧ ((r1, x) :: L')[k]? = some (r, y) ∧ backBlk β0 d y = some x' ∧ e = (true, x')) ∨
        (∃ (i : Nat) (y x' : Blk), n = nm d + (m + i) ∧ ((r1, x) :: L')[((r0, b0) :: L).length + i]? = some (true, y) ∧ backBlk β0 d y = some x' ∧ e = (true, x')) := by
      intro hs h2 hm
      rcases backH_mem h2 n e hm with ⟨k, b, y, r, y', h4, h5, h6, h7, h8⟩ | ⟨i, y, y', h4, h5, h6, h7⟩
      · exact .inl ⟨k + 1, b, y, r, y', by simpa using h4, by simpa using h5, by simpa using h6, h7, h8⟩
      · refine .inr ⟨i, y, y', h4, ?_, h6, h7⟩
        rw [List.length_cons, show L.length + 1 + i = L.length + i + 1 by omega, List.getElem?_cons_succ]
        exact h5
    cases s with
    | whole j =>
      cases r0 with
      | true =>
        simp only [backH] at h
        split at h
        case h_2 => cases h
        rename_i x' q h1 h2
        cases h
        rcases List.mem_cons.1 hm with h3 | h3
        · cases h3
          exact .inl ⟨0, b0, x, r1, x', rfl, rfl, rfl, h1, rfl⟩
        · exact lift h2 h3
      | false => exact lift (by simpa only [backH] using h) hm
    | nil => exact lift (by cases r0 <;> simpa only [backH] using h) hm
    | part a b c => exact lift (by cases r0 <;> simpa only [backH] using h) hm

theorem backH_has {β0 : List Src} {d : Nat} : ∀ {β : List Src} {L L' : List Ent} {m : Nat} {hs : List (Nat × Ent)}, backH β0 d β L L' m = some hs →
    (∀ (k : Nat) j b r x, β[k]? = some (.whole j) → L[k]? = some (true, b) → L'[k]? = some (r, x) → ∃ x', backBlk β0 d x = some x' ∧ (j, (true, x')) ∈ hs) ∧
    (∀ (i : Nat) r x, L'[L.length + i]? = some (r, x) → ∃ x', backBlk β0 d x = some x' ∧ (nm d + (m + i), (true, x')) ∈ hs)
  | [], [], [], m, hs, h => ⟨fun k j b r x h1 => by simp at h1, fun i r x h1 => by simp at h1⟩
  | [], [], (r, x) :: L', m, hs, h => by
    cases r with
    | false => simp [backH] at h
    | true =>
      simp only [backH] at h
      split at h
      case h_2 => cases h
      rename_i x' q h1 h2
      cases h
      refine ⟨fun k j b r x h1 => by simp at h1, fun i r y h3 => ?_⟩
      cases i with
      | zero =>
        simp only [List.length_nil, Nat.add_zero, List.getElem?_cons_zero, Option.some.injEq, Prod.mk.injEq] at h3
        obtain ⟨_, rfl⟩ := h3
        exact ⟨x', h1, by simp⟩
      | succ i =>
        obtain ⟨y', h4, h5⟩ := (backH_has h2).2 i r y (by simpa using h3)
        exact ⟨y', h4, List.mem_cons_of_mem _ (by rw [show m + (i + 1) = m + 1 + i by omega]; exact h5)⟩
  | s :: β, [], L', m, hs, h => by cases s <;> cases L' <;> simp [backH] at h
  | [], _ :: _, L', m, hs, h => by cases L' <;> simp [backH] at h
  | s :: β, (r0, b0) :: L, [], m, hs, h => by cases s <;> cases r0 <;> simp [backH] at h
  | s :: β, (r0, b0) :: L, (r1, x) :: L', m, hs, h => by
    have lift : ∀ {q : List (Nat × Ent)}, backH β0 d β L L' m = some q → (∀ z ∈ q, z ∈ hs) → (∀ j b r y, s = .whole j → (r0, b0) = (true, b) → (r1, x) = (r, y) → ∃ x', backBlk β0 d y = some x' ∧ (j, (true, x')) ∈ hs) →
        (∀ (k : Nat) j b r y, (s :: β)[k]? = some (.whole j) → ((r0, b0) :: L)[k]? = some (true, b) → ((r1, x) :: L')[k]? = some (r, y) → ∃ x', backBlk β0 d y = some x' ∧ (j, (true, x')) ∈ hs) ∧
        (∀ (i : Nat) r y, ((r1, x) :: L')[((r0, b0) :: L).length + i]? = some (r, y) → ∃ x', backBlk β0 d y = some x' ∧ (nm d + (m + i), (true, x')) ∈ hs) := by
      intro q hq hsub h0
      obtain ⟨i1, i2⟩ := backH_has hq
      refine ⟨fun k j b r y h1 h2 h3 => ?_, fun i r y h1 => ?_⟩
      · cases k with
        | zero =>
          simp only [List.getElem?_cons_zero, Option.some.injEq] at h1 h2 h3
          exact h0 j b r y h1 h2 h3
        | succ k =>
          simp only [List.getElem?_cons_succ] at h1 h2 h3
          obtain ⟨x', a, c⟩ := i1 k j b r y h1 h2 h3
          exact ⟨x', a, hsub _ c⟩
      · rw [List.length_cons, show L.length + 1 + i = L.length + i + 1 by omega, List.getElem?_cons_succ] at h1
        obtain ⟨x', a, c⟩ := i2 i r y h1
        exact ⟨x', a, hsub _ c⟩
    cases s with
    | whole j =>
      cases r0 with
      | true =>
        simp only [backH] at h
        split at h
        case h_2 => cases h
        rename_i x' q h1 h2
        cases h
        refine lift h2 (fun z hz => List.mem_cons_of_mem _ hz) ?_
        intro j' b r y e1 e2 e3
        cases e1; cases e2; cases e3
        exact ⟨x', h1, by simp⟩
      | false => exact lift (by simpa only [backH] using h) (fun z hz => hz) (fun j b r y _ e => by cases e)
    | nil => exact lift (by cases r0 <;> simpa only [backH] using h) (fun z hz => hz) (fun j b r y e => by cases e)
    | part a b c => exact lift (by cases r0 <;> simpa only [backH] using h) (fun z hz => hz) (fun j b r y e => by cases e)

theorem mem_look {α : Type} : ∀ {l : List (Nat × α)} {n : Nat} {e : α}, (n, e) ∈ l → ∃ e', look l n = some e' ∧ (n, e') ∈ l
  | (m, x) :: r, n, e, h => by
    unfold look
    cases q : Nat.beq m n with
    | true =>
      have := Nat.eq_of_beq_eq_true q
      subst this
      exact ⟨x, rfl, by simp⟩
    | false =>
      rcases List.mem_cons.1 h with h1 | h1
      · cases h1; simp at q
      · obtain ⟨e', h2, h3⟩ := mem_look h1
        exact ⟨e', h2, List.mem_cons_of_mem _ h3⟩

end

end Go.Proofs.YtnahfbjdicjdpaaGreat.Sym

namespace Go.Proofs.YtnahfbjdicjdpaaGreat.Sym
open Go
set_option linter.unusedVariables false
set_option linter.unusedSimpArgs false

/-- What is known behind a call. -/
structure Came (env : Env) (H : Hp) (β : List Src) (d : Nat) (L L' : List Ent) (E : List (Option Addr × Nat)) (hs : List (Nat × Ent)) (envc : Env) : Prop where
  l1 : L.length = β.length
  one : ∀ (k : Nat) e, L[k]? = some e → ∃ s, β[k]? = some s ∧ LentOne env H s e (envOf E k)
  once : allOnce β L = true
  len : L.length ≤ L'.length
  keep : ∀ (k : Nat) b, L[k]? = some (false, b) → L'[k]? = some (false, b)
  wrt : ∀ (k : Nat) b, L[k]? = some (true, b) → ∃ b', L'[k]? = some (true, b') ∧ stays b b'
  new : ∀ (k : Nat) e, L.length ≤ k → L'[k]? = some e → e.1 = true
  free : ∀ i, i < L'.length - L.length → H (nm d + i) = none
  back : backH β d β L L' 0 = some hs
  same : ∀ j, j < L.length → envc j = envOf E j
  cap : ∀ j rw U xs, H j = some (rw, .vec U xs) → xs.length ≤ (env j).2

def envB (env : Env) (d : Nat) (L L' : List Ent) (envc : Env) : Env := fun n => if nm d ≤ n ∧ n < nm d + (L'.length - L.length) then envc (L.length + (n - nm d)) else env n

section
variable {P : Program} {wr : Nat → Prop} {env env' : Env} {H H' : Hp} {a : Act} {w w' : World} {T : Nat → SV} {δ : Delta}
variable {β : List Src} {d : Nat} {L L' : List Ent} {E : List (Option Addr × Nat)} {hs : List (Nat × Ent)} {envc : Env}

theorem LentOne.has {s : Src} {e : Ent} {x : Option Addr × Nat} (h : LentOne env H s e x) {j : Nat} (hj : s.name = some j) : ∃ y, H j = some y := by
  cases s with
  | nil => cases hj
  | whole i =>
    cases hj
    obtain ⟨_, ⟨rw, U, xs, h1, _⟩ | ⟨rw, cs, cs', h1, _⟩⟩ := h
    · exact ⟨_, h1⟩
    · exact ⟨_, h1⟩
  | part i lo n =>
    cases hj
    obtain ⟨rw, U, xs, h1, _⟩ := h
    exact ⟨_, h1⟩

theorem LentOne.whole {s : Src} {b : Blk} {x : Option Addr × Nat} (h : LentOne env H s (true, b) x) : ∃ j, s = .whole j := by
  cases s with
  | nil => obtain ⟨U, h, _⟩ := h; cases h
  | whole i => exact ⟨i, rfl⟩
  | part i lo n => obtain ⟨rw, U, xs, _, h, _⟩ := h; cases h

theorem Came.old (c : Came env H β d L L' E hs envc) {j : Nat} {y : Ent} (hj : H j = some y) : envB env d L L' envc j = env j := by
  unfold envB
  split
  · rename_i h
    have := c.free (j - nm d) (by omega)
    rw [show nm d + (j - nm d) = j by omega, hj] at this
    cases this
  · rfl

theorem Came.named (c : Came env H β d L L' E hs envc) {k j : Nat} {s : Src} {e : Ent} (hs' : β[k]? = some s) (he : L[k]? = some e) (hn : s.name = some j) : ∃ y, H j = some y := by
  obtain ⟨s', h1, h2⟩ := c.one k e he
  rw [hs'] at h1
  cases h1
  exact h2.has hn

theorem Came.stands (c : Came env H β d L L' E hs envc) {n : Nat} {e : Ent} (h : (n, e) ∈ hs) : ∃ (k : Nat) (x x' : Blk), L'[k]? = some (true, x) ∧ envB env d L L' envc n = envc k ∧ backBlk β d x = some x' ∧ e = (true, x') ∧
    ((β[k]? = some (.whole n) ∧ ∃ b, L[k]? = some (true, b)) ∨ (n = nm d + (k - L.length) ∧ L.length ≤ k ∧ k < L'.length)) := by
  rcases backH_mem c.back n e h with ⟨k, b, x, r, x', h1, h2, h3, h4, h5⟩ | ⟨i, x, x', h1, h2, h3, h4⟩
  · obtain ⟨b', h6, _⟩ := c.wrt k b h2
    rw [h3] at h6
    cases h6
    obtain ⟨y, hy⟩ := c.named h1 h2 rfl
    obtain ⟨s, h7, h8⟩ := c.one k _ h2
    rw [h1] at h7
    cases h7
    refine ⟨k, x, x', h3, ?_, h4, h5, .inl ⟨h1, b, h2⟩⟩
    rw [c.old hy, c.same k (List.getElem?_eq_some_iff.1 h2).1]
    exact h8.1.symm
  · have hlt : L.length + i < L'.length := (List.getElem?_eq_some_iff.1 h2).1
    refine ⟨L.length + i, x, x', h2, ?_, h3, h4, .inr ⟨by omega, by omega, hlt⟩⟩
    unfold envB
    rw [if_pos (by omega)]
    congr 1
    omega

theorem Came.lookW (c : Came env H β d L L' E hs envc) {k j : Nat} {b x : Blk} {r : Bool} (h1 : β[k]? = some (.whole j)) (h2 : L[k]? = some (true, b)) (h3 : L'[k]? = some (r, x)) :
    ∃ x', backBlk β d x = some x' ∧ updH H hs j = some (true, x') := by
  obtain ⟨x1, h4, h5⟩ := (backH_has c.back).1 k j b r x h1 h2 h3
  obtain ⟨e', h6, h7⟩ := mem_look h5
  refine ⟨x1, h4, ?_⟩
  simp only [updH, h6]
  rcases backH_mem c.back j e' h7 with ⟨k2, b2, y, r2, x2, q1, q2, q3, q4, q5⟩ | ⟨i, y, x2, q1, q2, q3, q4⟩
  · by_cases hk : k2 = k
    · subst hk
      rw [h3] at q3
      cases q3
      rw [h4] at q4
      cases q4
      rw [q5]
    · rcases Nat.lt_or_gt_of_ne hk with hlt | hlt
      · have := (allOnce_spec c.once c.l1 k2 k _ _ _ _ j hlt q1 q2 h1 h2 rfl rfl).1
        simp at this
      · have := (allOnce_spec c.once c.l1 k k2 _ _ _ _ j hlt h1 h2 q1 q2 rfl rfl).1
        simp at this
  · obtain ⟨y', hy⟩ := c.named h1 h2 rfl
    have hlt : L.length + i < L'.length := (List.getElem?_eq_some_iff.1 q2).1
    have := c.free i (by omega)
    rw [show nm d + i = j by omega, hy] at this
    cases this

theorem Came.lookN (c : Came env H β d L L' E hs envc) {i : Nat} {x : Blk} {r : Bool} (h3 : L'[L.length + i]? = some (r, x)) : ∃ x', backBlk β d x = some x' ∧ updH H hs (nm d + i) = some (true, x') := by
  have hlt : L.length + i < L'.length := (List.getElem?_eq_some_iff.1 h3).1
  obtain ⟨x1, h4, h5⟩ := (backH_has c.back).2 i r x h3
  rw [Nat.zero_add] at h5
  obtain ⟨e', h6, h7⟩ := mem_look h5
  refine ⟨x1, h4, ?_⟩
  simp only [updH, h6]
  rcases backH_mem c.back _ e' h7 with ⟨k2, b2, y, r2, x2, q1, q2, q3, q4, q5⟩ | ⟨i2, y, x2, q1, q2, q3, q4⟩
  · obtain ⟨y', hy⟩ := c.named q1 q2 rfl
    have := c.free i (by omega)
    rw [hy] at this
    cases this
  · have : i2 = i := by omega
    subst this
    rw [h3] at q2
    cases q2
    rw [h4] at q3
    cases q3
    rw [q4]

theorem Came.lookR (c : Came env H β d L L' E hs envc) {k j : Nat} {b : Blk} {s : Src} (h1 : β[k]? = some s) (h2 : L[k]? = some (false, b)) (hn : s.name = some j) : updH H hs j = H j := by
  unfold updH
  split
  · rename_i e he
    obtain ⟨y', hy⟩ := c.named h1 h2 hn
    rcases backH_mem c.back j e (look_mem he) with ⟨k2, b2, y, r2, x2, q1, q2, q3, q4, q5⟩ | ⟨i, y, x2, q1, q2, q3, q4⟩
    · by_cases hk : k2 = k
      · subst hk
        rw [h2] at q2
        cases q2
      · rcases Nat.lt_or_gt_of_ne hk with hlt | hlt
        · have := (allOnce_spec c.once c.l1 k2 k _ _ _ _ j hlt q1 q2 h1 h2 rfl hn).1
          simp at this
        · have := (allOnce_spec c.once c.l1 k k2 _ _ _ _ j hlt h1 h2 q1 q2 hn rfl).2
          simp at this
    · have hlt : L.length + i < L'.length := (List.getElem?_eq_some_iff.1 q2).1
      have := c.free i (by omega)
      rw [show nm d + i = j by omega, hy] at this
      cases this
  · rfl

theorem Came.ext (c : Came env H β d L L' E hs envc) : Ext env H (envB env d L L' envc) (updH H hs) := ⟨fun j r b hj => by
  refine ⟨c.old hj, ?_⟩
  unfold updH
  split
  · rename_i e he
    rcases backH_mem c.back j e (look_mem he) with ⟨k, b0, x, r2, x2, q1, q2, q3, q4, q5⟩ | ⟨i, y, x2, q1, q2, q3, q4⟩
    · refine ⟨true, x2, by rw [q5], ?_⟩
      obtain ⟨b', h6, hst⟩ := c.wrt k b0 q2
      rw [q3] at h6
      cases h6
      obtain ⟨s, h7, h8⟩ := c.one k _ q2
      rw [q1] at h7
      cases h7
      obtain ⟨_, ⟨rw, U, xs, h9, h10, _⟩ | ⟨rw, cs, cs', h9, h10⟩⟩ := h8
      · rw [hj] at h9
        cases h9
        simp only at h10
        subst h10
        cases x with
        | box cs => simp [stays] at hst
        | vec V ys => simp only [backBlk, Option.some.injEq] at q4; subst q4; exact hst
        | dead => simp only [backBlk, Option.some.injEq] at q4; subst q4; exact hst
      · rw [hj] at h9
        cases h9
        cases h10
        cases x with
        | box cs =>
          simp only [backBlk, Option.map_eq_some_iff] at q4
          obtain ⟨q, _, q4⟩ := q4
          subst q4
          simp [stays]
        | vec V ys => simp [stays] at hst
        | dead => simp only [backBlk, Option.some.injEq] at q4; subst q4; exact hst
    · have hlt : L.length + i < L'.length := (List.getElem?_eq_some_iff.1 q2).1
      have := c.free i (by omega)
      rw [show nm d + i = j by omega, hj] at this
      cases this
  · exact ⟨r, b, hj, stays_refl b⟩⟩

/-- Where a canonical name leads. -/
theorem Came.name (c : Came env H β d L L' E hs envc) {k j : Nat} (hb : backN β d k = some j) {r : Bool} {x : Blk} (hx : L'[k]? = some (r, x)) :
    envB env d L L' envc j = envc k ∧ ((∃ x', backBlk β d x = some x' ∧ updH H hs j = some (true, x')) ∨ (∃ rw, updH H hs j = some (rw, x)) ∨ ∃ rw cs cs', x = .box cs' ∧ updH H hs j = some (rw, .box cs)) := by
  unfold backN at hb
  split at hb
  · rename_i hlt
    have hlt : k < β.length := Nat.le_of_ble_eq_true hlt
    split at hb
    · rename_i j' hj'
      cases hb
      obtain ⟨⟨r0, b0⟩, he⟩ : ∃ e, L[k]? = some e := ⟨L[k]'(by rw [c.l1]; exact hlt), List.getElem?_eq_getElem _⟩
      obtain ⟨s, h7, h8⟩ := c.one k _ he
      rw [hj'] at h7
      cases h7
      obtain ⟨y, hy⟩ := h8.has rfl
      refine ⟨by rw [c.old hy, c.same k (by rw [c.l1]; exact hlt)]; exact h8.1.symm, ?_⟩
      cases r0 with
      | true => exact .inl (c.lookW hj' he hx)
      | false =>
        right
        have h1 := c.lookR hj' he rfl
        rw [c.keep k b0 he] at hx
        cases hx
        obtain ⟨_, ⟨rw, U, xs, h9, h10, _⟩ | ⟨rw, cs, cs', h9, h10⟩⟩ := h8
        · left
          simp only at h10
          exact ⟨rw, by rw [h1, h9, h10]⟩
        · right
          cases h10
          exact ⟨_, cs, cs', rfl, by rw [h1, h9]⟩
    · cases hb
  · rename_i hlt
    have hlt : ¬ k < β.length := fun q => by
      have := Nat.ble_eq_true_of_le q
      unfold Nat.blt at hlt
      rw [this] at hlt
      cases hlt
    cases hb
    have hl := c.l1
    have hk : k < L'.length := (List.getElem?_eq_some_iff.1 hx).1
    refine ⟨?_, .inl ?_⟩
    · unfold envB
      rw [if_pos (by omega)]
      congr 1
      omega
    · have := c.lookN (i := k - β.length) (r := r) (x := x) (by rw [show L.length + (k - β.length) = k by omega]; exact hx)
      exact this

theorem Came.conc1 (c : Came env H β d L L' E hs envc) {s s' : SV} {v : Value} (hb : back1 β d s = some s') (h : concC envc (ofL L') s v) : concC (envB env d L L' envc) (updH H hs) s' v := by
  have ptr : ∀ n e o j, backN β d n = some j → concC envc (ofL L') (.ptr n e o) v → concC (envB env d L L' envc) (updH H hs) (.ptr j e o) v := by
    intro n e o j hj h
    simp only [concC, ofL] at h ⊢
    cases hx : L'[n]? with
    | none => simp [hx] at h
    | some y =>
      obtain ⟨r, x⟩ := y
      obtain ⟨h1, h2⟩ := c.name hj hx
      rw [hx] at h
      rw [h1]
      rcases h2 with ⟨x', h2, h3⟩ | ⟨rw, h3⟩ | ⟨rw, cs, cs', h2, h3⟩
      · rw [h3]
        cases x with
        | box cs =>
          simp only [backBlk, Option.map_eq_some_iff] at h2
          obtain ⟨q, _, h2⟩ := h2
          subst h2
          exact h
        | vec U xs => simp only [backBlk, Option.some.injEq] at h2; subst h2; exact h
        | dead => simp only [backBlk, Option.some.injEq] at h2; subst h2; exact h
      · rw [h3]
        cases x <;> exact h
      · rw [h3]
        subst h2
        exact h
  have vec : ∀ n j, backN β d n = some j → concC envc (ofL L') (.vec n) v → concC (envB env d L L' envc) (updH H hs) (.vec j) v := by
    intro n j hj h
    simp only [concC, ofL] at h ⊢
    cases hx : L'[n]? with
    | none => simp [hx] at h
    | some y =>
      obtain ⟨r, x⟩ := y
      obtain ⟨h1, h2⟩ := c.name hj hx
      rw [hx] at h
      rw [h1]
      rcases h2 with ⟨x', h2, h3⟩ | ⟨rw, h3⟩ | ⟨rw, cs, cs', h2, h3⟩
      · rw [h3]
        cases x with
        | box cs => simp at h
        | vec U xs => simp only [backBlk, Option.some.injEq] at h2; subst h2; exact h
        | dead => simp only [backBlk, Option.some.injEq] at h2; subst h2; exact h
      · rw [h3]
        cases x <;> exact h
      · subst h2
        simp at h
  cases s with
  | int k n => cases hb; exact h
  | bool b => cases hb; exact h
  | nilp => cases hb; exact h
  | nilsl => cases hb; exact h
  | ptr n e o =>
    simp only [back1, Option.map_eq_some_iff] at hb
    obtain ⟨j, hj, hb⟩ := hb
    subst hb
    exact ptr n e o j hj h
  | vec n =>
    simp only [back1] at hb
    split at hb
    · rename_i hlt
      have hlt' : n < β.length := Nat.le_of_ble_eq_true hlt
      obtain ⟨⟨r0, b0⟩, he⟩ : ∃ e, L[n]? = some e := ⟨L[n]'(by rw [c.l1]; exact hlt'), List.getElem?_eq_getElem _⟩
      obtain ⟨s, h7, h8⟩ := c.one n _ he
      have hsame := c.same n (by rw [c.l1]; exact hlt')
      rw [h7] at hb
      cases s with
      | whole j =>
        cases hb
        exact vec n j (by simp only [backN, hlt, h7]) h
      | part j lo m =>
        cases hb
        obtain ⟨rw, U, xs, h1, h2, h3, h4, h5⟩ := h8
        have hr := c.lookR h7 (by rw [he, h2]) rfl
        cases h2
        have hk := c.keep n _ he
        simp only [concC, ofL, hk, hr, h1, c.old h1] at h ⊢
        have hlen2 : ((xs.drop lo).take m).length = m := by simp; omega
        rw [hlen2, hsame, h4] at h
        exact ⟨h3, _, h, h5⟩
      | nil =>
        cases hb
        obtain ⟨U, h2, h3⟩ := h8
        cases h2
        have hk := c.keep n _ he
        simp only [concC, ofL, hk, hsame, h3] at h ⊢
        exact ⟨_, h⟩
    · rename_i hlt
      cases hb
      exact vec n _ (by simp only [backN, hlt]) h
  | sl n lo' m' =>
    have sl : ∀ j, backN β d n = some j → concC (envB env d L L' envc) (updH H hs) (.sl j lo' m') v := by
      intro j hj
      simp only [concC, ofL] at h ⊢
      cases hx : L'[n]? with
      | none => simp [hx] at h
      | some y =>
        obtain ⟨r, x⟩ := y
        obtain ⟨h1, h2⟩ := c.name hj hx
        rw [hx] at h
        rw [h1]
        rcases h2 with ⟨x', h2, h3⟩ | ⟨rw, h3⟩ | ⟨rw, cs, cs', h2, h3⟩
        · rw [h3]
          cases x with
          | box cs => simp at h
          | vec U xs => simp only [backBlk, Option.some.injEq] at h2; subst h2; exact h
          | dead => simp only [backBlk, Option.some.injEq] at h2; subst h2; exact h
        · rw [h3]
          cases x <;> exact h
        · subst h2
          simp at h
    simp only [back1] at hb
    split at hb
    · rename_i hlt
      have hlt' : n < β.length := Nat.le_of_ble_eq_true hlt
      obtain ⟨⟨r0, b0⟩, he⟩ : ∃ e, L[n]? = some e := ⟨L[n]'(by rw [c.l1]; exact hlt'), List.getElem?_eq_getElem _⟩
      obtain ⟨s, h7, h8⟩ := c.one n _ he
      have hsame := c.same n (by rw [c.l1]; exact hlt')
      rw [h7] at hb
      cases s with
      | whole j =>
        cases hb
        exact sl j (by simp only [backN, hlt, h7])
      | part j lo m =>
        cases hb
        obtain ⟨rw, U, xs, h1, h2, h3, h4, h5⟩ := h8
        have hr := c.lookR h7 (by rw [he, h2]) rfl
        have hcap := c.cap j rw U xs h1
        cases h2
        have hk := c.keep n _ he
        simp only [concC, ofL, hk, hr, h1, c.old h1, hsame, h4] at h ⊢
        obtain ⟨q1, x, q2, q3⟩ := h
        have hlen2 : ((xs.drop lo).take m).length = m := by simp; omega
        rw [hlen2] at q1
        refine ⟨by omega, x, by rw [q2]; congr 1; omega, ?_⟩
        rcases h5 with h5 | h5
        · left; omega
        · rcases q3 with q3 | q3
          · left; omega
          · right
            rw [q3, h5]
            cases (env j).1 with
            | none => rfl
            | some a => simp only [Option.map_some, Addr.add]; rw [Nat.add_mul]; split <;> split <;> simp_all [Nat.add_assoc] <;> omega
      | nil =>
        cases hb
        obtain ⟨U, h2, h3⟩ := h8
        cases h2
        have hk := c.keep n _ he
        simp only [concC, ofL, hk, hsame, h3, List.length_nil] at h ⊢
        obtain ⟨q1, x, q2, q3⟩ := h
        have : m' = 0 := by omega
        subst this
        exact ⟨x, by rw [q2]; congr 1; omega⟩
    · rename_i hlt
      cases hb
      exact sl _ (by simp only [backN, hlt])
  | fn f cap => cases hb
  | agg cs => cases hb
  | tup cs => cases hb
  | any => cases hb

theorem Came.concs (c : Came env H β d L L' E hs envc) : ∀ {ss ss' : List SV} {vs : List Value}, backs β d ss = some ss' → concCs envc (ofL L') ss vs → concCs (envB env d L L' envc) (updH H hs) ss' vs
  | [], ss', [], hb, h => by cases hb; trivial
  | s :: ss, ss', v :: vs, hb, h => by
    simp only [backs] at hb
    split at hb
    · cases hb
      exact ⟨c.conc1 (by assumption) h.1, c.concs (by assumption) h.2⟩
    · cases hb

theorem Came.conc2 (c : Came env H β d L L' E hs envc) {s s' : SV} {v : Value} (hb : back2 β d s = some s') (h : conc2 envc (ofL L') s v) : conc2 (envB env d L L' envc) (updH H hs) s' v := by
  unfold back2 at hb
  split at hb
  · simp only [Option.map_eq_some_iff] at hb
    obtain ⟨q, hq, hb⟩ := hb
    subst hb
    obtain ⟨vs, e, h⟩ := h
    exact ⟨vs, e, c.concs hq h⟩
  · rename_i hna
    have h : concC envc (ofL L') s v := by cases s <;> first | exact h | exact absurd rfl (hna _)
    exact conc2_of_concC (c.conc1 hb h)

theorem Came.conc2s (c : Came env H β d L L' E hs envc) : ∀ {ss ss' : List SV} {vs : List Value}, back2s β d ss = some ss' → conc2s envc (ofL L') ss vs → conc2s (envB env d L L' envc) (updH H hs) ss' vs
  | [], ss', [], hb, h => by cases hb; trivial
  | s :: ss, ss', v :: vs, hb, h => by
    simp only [back2s] at hb
    split at hb
    · cases hb
      exact ⟨c.conc2 (by assumption) h.1, c.conc2s (by assumption) h.2⟩
    · cases hb

theorem Came.conc3 (c : Came env H β d L L' E hs envc) {s s' : SV} {v : Value} (hb : back3 β d s = some s') (h : conc envc (ofL L') s v) : conc (envB env d L L' envc) (updH H hs) s' v := by
  unfold back3 at hb
  split at hb
  · simp only [Option.map_eq_some_iff] at hb
    obtain ⟨q, hq, hb⟩ := hb
    subst hb
    obtain ⟨vs, e, h⟩ := h
    exact ⟨vs, e, c.conc2s hq h⟩
  · rename_i hna
    have h : Sym.conc2 envc (ofL L') s v := by cases s <;> first | exact h | exact absurd rfl (hna _)
    exact conc_of_conc2 (c.conc2 hb h)

theorem Came.blk (c : Came env H β d L L' E hs envc) {k n : Nat} {r : Bool} {x x' : Blk} (he : envB env d L L' envc n = envc k) (hb : backBlk β d x = some x') (h : blkRel envc (ofL L') k r x w) :
    blkRel (envB env d L L' envc) (updH H hs) n r x' w := by
  cases x with
  | box cs =>
    simp only [backBlk, Option.map_eq_some_iff] at hb
    obtain ⟨q, hq, hb⟩ := hb
    subst hb
    obtain ⟨b, E, vs, fz, h1, h2, h3, h4⟩ := h
    exact ⟨b, E, vs, fz, by rw [he]; exact h1, h2, c.concs hq h3, h4⟩
  | vec U xs =>
    simp only [backBlk, Option.some.injEq] at hb
    subst hb
    simp only [blkRel, he]
    exact h
  | dead =>
    simp only [backBlk, Option.some.injEq] at hb
    subst hb
    trivial

theorem own_back {k n : Nat} {x x' : Blk} (he : env' n = envc k) (hb : backBlk β d x = some x') : own env' n x' = own envc k x := by
  cases x with
  | box cs =>
    simp only [backBlk, Option.map_eq_some_iff] at hb
    obtain ⟨q, hq, hb⟩ := hb
    subst hb
    simp [own, he]
  | vec U xs =>
    simp only [backBlk, Option.some.injEq] at hb
    subst hb
    simp [own, he]
  | dead =>
    simp only [backBlk, Option.some.injEq] at hb
    subst hb
    rfl

/-- What the called function may write is no block of an untouched name. -/
theorem Came.apart (c : Came env H β d L L' E hs envc) (hh : HRel wr env H w) {k : Nat} {r : Bool} {b : Blk} (hk : look hs k = none) (hb : H k = some (r, b)) {y : Nat} (hy : own env k b = some y) (hw : wrC w (envOf E) L y) : False := by
  have hlt := own_lt hh hb hy
  rcases hw with hw | ⟨i, b', h1, h2⟩
  · omega
  · obtain ⟨s, h3, h4⟩ := c.one i _ h1
    obtain ⟨j, r', b'', q1, q2, q3, q4⟩ := own_src h4 rfl h2
    by_cases hjk : j = k
    · subst hjk
      obtain ⟨j', rfl⟩ := h4.whole
      cases q1
      obtain ⟨x, hx, _⟩ := c.wrt i _ h1
      obtain ⟨x', _, hm⟩ := (backH_has c.back).1 i j b' _ _ h3 h1 hx
      obtain ⟨e', h6, _⟩ := mem_look hm
      rw [h6] at hk
      cases hk
    · exact hh.dj j k r' b'' r b hjk q2 hb (.inl (q4 rfl)) y q3 hy

theorem Came.mayWrite (c : Came env H β d L L' E hs envc) (hh : HRel wr env H w) (hnew : ∀ k, w.heap.size ≤ k → wr k) {y : Nat} (hw : wrC w (envOf E) L y) : wr y := by
  rcases hw with hw | ⟨i, b', h1, h2⟩
  · exact hnew y hw
  · obtain ⟨s, h3, h4⟩ := c.one i _ h1
    obtain ⟨j, r', b'', q1, q2, q3, q4⟩ := own_src h4 rfl h2
    have := q4 rfl
    subst this
    exact hh.wrt j b'' q2 y q3

theorem Came.hrel (c : Came env H β d L L' E hs envc) (hh : HRel wr env H w) (hnew : ∀ k, w.heap.size ≤ k → wr k) (hc : HRel (wrC w (envOf E) L) envc (ofL L') w') (hf : Fr (wrC w (envOf E) L) w w') :
    HRel wr (envB env d L L' envc) (updH H hs) w' := by
  refine hh.step (fun k => look hs k ≠ none) c.ext ?_ ?_
  · intro k r b hk hb
    have hk : look hs k = none := by simpa using hk
    simp only [updH, hk] at hb
    exact ⟨hb, c.old hb, fun y hy => hf.blk y (own_lt hh hb hy) fun hw => c.apart hh hk hb hy hw⟩
  · intro k r b hk hb
    have hb' : look hs k = some (r, b) := by
      simp only [updH] at hb
      split at hb
      · rename_i e he; rw [he, hb]
      · rename_i he; exact absurd he hk
    obtain ⟨i, x, x', q1, q2, q3, q4, q5⟩ := c.stands (look_mem hb')
    cases q4
    refine ⟨c.blk q2 q3 (hc.blk i true x q1), ?_⟩
    intro y hy
    rw [own_back q2 q3] at hy
    have hw := hc.wrt i x q1 y hy
    refine ⟨fun _ => c.mayWrite hh hnew hw, ?_⟩
    intro k2 r2 b2 hne hk2 hy2 _
    by_cases hl2 : look hs k2 = none
    · simp only [updH, hl2] at hk2
      have ho : own env k2 b2 = some y := by
        rw [← hy2]
        cases b2 <;> simp [own, c.old hk2]
      exact c.apart hh hl2 hk2 ho hw
    · have hk2' : look hs k2 = some (r2, b2) := by
        simp only [updH] at hk2
        split at hk2
        · rename_i e he; rw [he, hk2]
        · rename_i he; exact absurd he hl2
      obtain ⟨i2, z, z', p1, p2, p3, p4, p5⟩ := c.stands (look_mem hk2')
      cases p4
      rw [own_back p2 p3] at hy2
      have hii : i2 ≠ i := by
        rintro rfl
        rcases q5 with ⟨q5, b0, q6⟩ | ⟨q5, q6, q7⟩ <;> rcases p5 with ⟨p5, b1, p6⟩ | ⟨p5, p6, p7⟩
        · rw [q5] at p5; cases p5; exact hne rfl
        · have := (List.getElem?_eq_some_iff.1 q6).1; omega
        · have := (List.getElem?_eq_some_iff.1 p6).1; omega
        · omega
      exact hc.dj i2 i true z true x hii p1 q1 (.inl rfl) y hy2 hy

theorem callF_ok (hh : HRel wr env H w) (hnew : ∀ k, w.heap.size ≤ k → wr k) {f : Nat} {fs : Fs} {tss : List (List (Option Ty))} {args : List SV} {us : List Value} (hf : FsOk P f fs)
    (h : (callF fs tss d args).run T H = some δ) (hp : ∀ p, δ.ok = some p → p) (hc : concL env H args us) :
    Calls P f us.toArray w fun e w' => ∃ v, e = .returned v ∧ ∃ env', Ext env H env' (updH H δ.hs) ∧ HRel wr env' (updH H δ.hs) w' ∧ Fr wr w w' ∧ conc env' (updH H δ.hs) δ.v v := by
  unfold callF at h
  obtain ⟨ss, β, L, E, h, hl, _, cc⟩ := lendArgs_inv hh h .nil hc
  split at h
  case h_2 => simp [RM.run] at h
  rename_i p r L' hev
  split at h
  case h_2 => simp [RM.run] at h
  rename_i r' hs ho hr hb
  obtain ⟨h, free⟩ := freshes_inv h
  simp only [RM.run, Option.some.injEq] at h
  subst h
  have sem := hf.sem ss L p r L' hev hp
  refine (sem.run (wrC w (envOf E) L) (envOf E) w us (hl.hrel hh ho) (fun k hk => .inl hk) cc).mono ?_
  rintro e w' ⟨v, envc, rfl, hsame, hc', hv, hfr⟩
  have c : Came env H β d L L' E hs envc := ⟨hl.l1, fun k e he => hl.src he, ho, sem.len, sem.keep, sem.wrt, sem.new, free, hb, hsame, fun j rw U xs hj => (hh.blk j rw _ hj).1⟩
  exact ⟨v, rfl, _, c.ext, c.hrel hh hnew hc' hfr, hfr.weaken fun k hk hw => c.mayWrite hh hnew hw, c.conc3 hr hv⟩

end

end Go.Proofs.YtnahfbjdicjdpaaGreat.Sym

namespace Go.Proofs.YtnahfbjdicjdpaaGreat.Sym
open Go
set_option linter.unusedVariables false
set_option linter.unusedSimpArgs false

section
variable {P : Program} {wr : Nat → Prop} {env env' : Env} {H H' : Hp} {a : Act} {w w' : World} {T : Nat → SV} {δ : Delta}

theorem call_value (hh : HRel wr env H w) (hnew : ∀ k, w.heap.size ≤ k → wr k) {tt : Types} {S : Tab} (hS : TabFs P S) {d f : Nat} {ss : List SV} {us : List Value} {ts : List Nat} {c : Call} {x : Operand} {caps : List Value}
    (h : (call tt S d f ts ss).run T H = some δ) (hp : ∀ p, δ.ok = some p → p) (hc : concL env H ss us) (hx : c.callee = .value x) (hv : a.eval x = .func (.func f) #[] caps.toArray)
    (hus : us = (c.args.toList.map a.eval) ++ caps) {dst : Option Nat} {ty : Nat} {pos : String} {af : Array Edge} {g : Option (Nat × Bool)} : Good P wr env H a w ⟨dst, .call c, ty, pos, af, g⟩ δ := by
  unfold call at h
  split at h
  case h_2 => simp [RM.run] at h
  rename_i fs hfs
  have hok := hS f fs hfs
  refine .inr (.inr ⟨f, us.toArray, ?_, callF_ok hh hnew hok h hp hc⟩)
  have he : (#[] ++ c.args.map a.eval) ++ caps.toArray = us.toArray := by
    apply Array.toList_inj.1
    simp [hus]
  have := hok.enter w us.toArray
  rw [← he] at this ⊢
  obtain ⟨cl, args, ats⟩ := c
  simp only at hx
  subst hx
  simp [execOp, resolve, hv, Deferred.ofValue, invoke] at this ⊢
  exact this

theorem concL_snoc {s : SV} {v : Value} : ∀ {ss : List SV} {vs : List Value}, concL env H ss vs → conc env H s v → concL env H (ss ++ [s]) (vs ++ [v])
  | [], vs, h, hc => by rw [concL_nil h]; exact ⟨hc, trivial⟩
  | c :: cs, vs, h, hc => by
    obtain ⟨u, t, rfl, h1, h2⟩ := concL_cons h
    exact ⟨h1, concL_snoc h2 hc⟩

theorem call_ok (hh : HRel wr env H w) (hnew : ∀ k, w.heap.size ≤ k → wr k) (hs : ∀ d, conc env H (T d) (a.tmps.getD d undef)) {tt : Types} (ht : TabOk P tt) {S : Tab} (hS : TabFs P S) {d : Nat} {c : Call} {ty : Nat} {pos : String} {af : Array Edge} {g : Option (Nat × Bool)}
    (h : (evOp tt S ⟨some d, .call c, ty, pos, af, g⟩).run T H = some δ) (hp : ∀ p, δ.ok = some p → p) : Good P wr env H a w ⟨some d, .call c, ty, pos, af, g⟩ δ := by
  simp only [evOp] at h
  obtain ⟨ss, q, hc⟩ := opvs_inv hs h
  clear h
  split at q
  · rename_i f hx
    exact call_value hh hnew hS q hp hc hx (caps := []) rfl (by simp)
  · rename_i t hx
    simp only [RM.run] at q
    have hv := hs t
    split at q
    · rename_i f hT
      rw [hT] at hv
      exact call_value hh hnew hS q hp hc hx (caps := []) hv (by simp)
    · rename_i f j hT
      rw [hT] at hv
      have hv' : concC env H (.fn f (some j)) (a.tmps.getD t undef) := hv
      simp only [concC] at hv'
      simp only [RM.run] at q
      split at q
      case h_2 => simp [RM.run] at q
      rename_i rw cs hj
      rw [hj] at hv'
      obtain ⟨b, he, hv'⟩ := hv'
      have hcc := concL_snoc hc (s := .ptr j 0 0) (v := .pointer (some ⟨b, 0, none⟩)) (by
        show concC env H (.ptr j 0 0) _
        simp only [concC, hj]
        exact ⟨b, he, rfl⟩)
      exact call_value hh hnew hS q hp hcc hx (caps := [.pointer (some ⟨b, 0, none⟩)]) hv' rfl
    · simp [RM.run] at q
  · rename_i b hx
    obtain ⟨cl, args, ats⟩ := c
    simp only at hx
    subst hx
    have hex : ∃ cs, (execOp a.eval ⟨some d, .call ⟨.builtin b, args, ats⟩, ty, pos, af, g⟩).run P w = (builtin b ats.toList.toArray ty cs (args.toList.map a.eval).toArray).run P w :=
      ⟨_, by
        have e1 : ats.toList.toArray = ats := by simp
        have e2 : (args.toList.map a.eval).toArray = args.map a.eval := Array.toList_inj.1 (by rw [Array.toList_map])
        rw [e1, e2]
        simp [execOp, resolve, invoke]
        rfl⟩
    obtain ⟨cs, hex⟩ := hex
    obtain ⟨v, w', hr, hR⟩ := blt_ok hh hnew ht hc q hp ty cs
    exact .inl ⟨v, w', hex.trans hr, hR⟩
  · simp [RM.run] at q

theorem clear_ok (hh : HRel wr env H w) (hs : ∀ d, conc env H (T d) (a.tmps.getD d undef)) {tt : Types} (ht : TabOk P tt) {S : Tab} {c : Call} {ty : Nat} {pos : String} {af : Array Edge} {g : Option (Nat × Bool)}
    (h : (evOp tt S ⟨none, .call c, ty, pos, af, g⟩).run T H = some δ) : Good P wr env H a w ⟨none, .call c, ty, pos, af, g⟩ δ := by
  simp only [evOp] at h
  split at h
  case h_2 => simp [RM.run] at h
  rename_i hx
  obtain ⟨ss, q, hc⟩ := opvs_inv hs h
  obtain ⟨cl, args, ats⟩ := c
  simp only at hx
  subst hx
  have hex : ∃ cs, (execOp a.eval ⟨none, .call ⟨.builtin .clear, args, ats⟩, ty, pos, af, g⟩).run P w = (builtin .clear ats.toList.toArray ty cs (args.toList.map a.eval).toArray).run P w :=
    ⟨_, by
      have e1 : ats.toList.toArray = ats := by simp
      have e2 : (args.toList.map a.eval).toArray = args.map a.eval := Array.toList_inj.1 (by rw [Array.toList_map])
      rw [e1, e2]
      simp [execOp, resolve, invoke]
      rfl⟩
  obtain ⟨cs, hex⟩ := hex
  obtain ⟨v, w', hr, hR⟩ := clr_ok hh ht hc q ty cs
  exact .inl ⟨v, w', hex.trans hr, hR⟩

theorem evOp_ok (hh : HRel wr env H w) (hnew : ∀ k, w.heap.size ≤ k → wr k) (hs : ∀ d, conc env H (T d) (a.tmps.getD d undef)) {tt : Types} (ht : TabOk P tt) {S : Tab} (hS : TabFs P S) {o : Oper}
    (h : (evOp tt S o).run T H = some δ) (hp : ∀ p, δ.ok = some p → p) : Good P wr env H a w o δ := by
  obtain ⟨dst, op, ty, pos, af, g⟩ := o
  cases dst with
  | none =>
    cases op with
    | store t x y => exact store_ok hh hs ht h
    | call c => exact clear_ok hh hs ht h
    | _ => simp [evOp, RM.run] at h
  | some d =>
    cases op with
    | move x => exact (move_ok hh hs (by simpa [evOp] using h)).1
    | assign x => exact (move_ok hh hs (by simpa [evOp] using h)).2
    | pick c x y => exact pick_ok hh hs h
    | alloc t => exact alloc_ok hh hnew hs ht h
    | box t x => exact box_ok hh hnew hs h
    | build t ps => exact build_ok hh hs ht h
    | buildSlice t m ps => exact buildSlice_ok hh hnew hs ht h
    | load t x => exact load_ok hh hs ht h
    | nilCheck x => exact nilCheck_ok hh hs h
    | binOp op t x y u => exact bin_ok hh hs ht h hp
    | unOp op t x => exact un_ok hh hs h
    | convert t0 t x => exact convert_ok hh hs ht h
    | makeFunc fn first caps =>
      cases fn with
      | func f => exact makeFunc_ok hh hs h
      | _ => simp [evOp, RM.run] at h
    | makeSlice t l c => exact makeSlice_ok hh hnew hs ht h hp
    | slice t x lo hi mx => exact slice_ok hh hs ht h hp
    | fieldAddr t x f => exact fieldAddr_ok hh hs ht h
    | indexAddr t x y => exact indexAddr_ok hh hs ht h hp
    | extract x n => exact extract_ok hh hs h
    | call c => exact call_ok hh hnew hs ht hS h hp
    | _ => simp [evOp, RM.run] at h

end

end Go.Proofs.YtnahfbjdicjdpaaGreat.Sym

namespace Go.Proofs.YtnahfbjdicjdpaaGreat.Sym
open Go
set_option linter.unusedVariables false
set_option linter.unusedSimpArgs false

theorem force2_eq {β : Sort 1} (v : SV) (K : SV → β) : force2 v K = K v := by
  cases v <;> simp [force2, force1_eq, forceL_eq]
theorem force2s_eq {β : Sort 1} : ∀ (cs : List SV) (K : List SV → β), force2s cs K = K cs
  | [], K => rfl
  | c :: r, K => by rw [force2s, force2_eq, force2s_eq r]
theorem force3_eq {β : Sort 1} (v : SV) (K : SV → β) : force3 v K = K v := by
  cases v <;> simp [force3, force2_eq, force2s_eq]
theorem forceB_eq {β : Sort 1} (b : Blk) (K : Blk → β) : forceB b K = K b := by
  cases b <;> simp [forceB, forceL_eq]
theorem pushH_eq {β : Sort 1} : ∀ (hs H : List (Nat × Ent)) (K : List (Nat × Ent) → β), pushH hs H K = K (hs ++ H)
  | [], H, K => rfl
  | (n, rw, b) :: r, H, K => by rw [pushH, forceB_eq, pushH_eq r]; rfl

theorem look_append {α : Type} : ∀ (l m : List (Nat × α)) (d : Nat), look (l ++ m) d = match look l d with
    | some x => some x
    | none => look m d
  | [], m, d => by simp [look]
  | (n, x) :: r, m, d => by
    simp only [List.cons_append, look]
    cases Nat.beq n d with
    | true => rfl
    | false => exact look_append r m d

theorem slot_cons (d : Nat) (v : SV) (T : List (Nat × SV)) (H : List (Nat × Ent)) : St.slot ⟨(d, v) :: T, H⟩ = updT (St.slot ⟨T, H⟩) (some d) v := by
  funext x
  simp only [St.slot, look, updT]
  cases Nat.beq d x <;> rfl

theorem blk_append (T : List (Nat × SV)) (hs H : List (Nat × Ent)) : St.blk ⟨T, hs ++ H⟩ = updH (St.blk ⟨T, H⟩) hs := by
  funext x
  simp only [St.blk, look_append, updH]
  cases look hs x <;> rfl

theorem appK_spec {σ : St} {dst : Option Nat} {δ : Delta} {K : St → Prop} (h : appK σ dst δ K) : ∃ s, K s ∧ s.slot = updT σ.slot dst δ.v ∧ s.blk = updH σ.blk δ.hs := by
  obtain ⟨T, H⟩ := σ
  simp only [appK, force3_eq, pushH_eq] at h
  cases dst with
  | none => exact ⟨_, h, rfl, blk_append T δ.hs H⟩
  | some d => exact ⟨_, h, slot_cons d δ.v T _, blk_append _ δ.hs H⟩

theorem putK_spec {σ : St} {dst : Option Nat} {v : SV} {K : St → Prop} (h : putK σ dst v K) : ∃ s, K s ∧ s.slot = updT σ.slot dst v ∧ s.blk = σ.blk := by
  obtain ⟨T, H⟩ := σ
  simp only [putK] at h
  cases dst with
  | none => exact ⟨_, h, rfl, rfl⟩
  | some d => exact ⟨_, h, slot_cons d v T _, rfl⟩

theorem updT_self {T : Nat → SV} {t : Nat} {v : SV} (h : T t = v) : updT T (some t) v = T := by
  funext x
  simp only [updT]
  cases e : Nat.beq t x with
  | true => have := Nat.eq_of_beq_eq_true e; subst this; exact h.symm
  | false => rfl

/-- What one operation does at given slots and names: its slot's value, the names that it writes, its foot. -/
structure Eff where
  v : SV
  hs : List (Nat × Ent)
  f : Foot

def OneStep (tt : Types) (S : Tab) (all : List Oper) (o : Oper) (T : Nat → SV) (H : Hp) (e : Eff) : Prop :=
  (∃ gs δ, (gs = [] ∧ o.guard = none ∨ ∃ g want t, gs = [t] ∧ o.guard = some (g, want) ∧ dstOf all g = some t ∧ T t = .bool want) ∧
    (evOp tt S o).run T H = some δ ∧ (∀ p, δ.ok = some p → p) ∧ e = ⟨δ.v, δ.hs, ⟨gs ++ ((evOp tt S o).reads T H).1, ((evOp tt S o).reads T H).2, o.dst.toList, δ.hs.map (·.1)⟩⟩) ∨
  (∃ g want t, o.guard = some (g, want) ∧ dstOf all g = some t ∧ (T t = .bool (!want) ∨ T t = noSlot) ∧ e = ⟨noSlot, [], ⟨[t], [], o.dst.toList, []⟩⟩)

def Kept (m : Nat) (env0 env : Env) (H : Hp) : Prop := ∀ j, j < m → env j = env0 j ∧ ∃ e, H j = some e

/-- The symbolic state stands for the real one. -/
def At (n : Nat) (wr : Nat → Prop) (w0 : World) (m : Nat) (env0 : Env) (T : Nat → SV) (H : Hp) (a : Act) (w : World) : Prop := ∃ env, Rel n wr w0 env T H a w ∧ Kept m env0 env H

section
variable {P : Program} {n : Nat} {wr : Nat → Prop} {w0 : World} {m : Nat} {env0 : Env} {T : Nat → SV} {H : Hp} {a : Act} {w : World}

theorem Kept.ext {env env' : Env} {H' : Hp} (h : Kept m env0 env H) (x : Ext env H env' H') : Kept m env0 env' H' := fun j hj => by
  obtain ⟨h1, ⟨r, b⟩, h2⟩ := h j hj
  obtain ⟨h3, r', b', h4, _⟩ := x.same j r b h2
  exact ⟨h3.trans h1, _, h4⟩

theorem yielded_of {all : List Oper} {ops : Array Oper} (ho : ops.toList = all) {g t : Nat} (hg : dstOf all g = some t) {b : Bool} (hv : a.tmps.getD t undef = .bool b) : yielded ops a.tmps g = some b := by
  subst ho
  unfold dstOf at hg
  split at hg
  case h_2 => cases hg
  rename_i o hog
  have h1 : ops[g]? = some o := by simpa using hog
  unfold yielded
  have h2 : a.tmps[t]? = some (.bool b) := by
    rw [Array.getD_eq_getD_getElem?] at hv
    cases h : a.tmps[t]? with
    | none => rw [h] at hv; cases hv
    | some x => rw [h] at hv; exact congrArg some hv
  simp [h1, hg, h2]

theorem yielded_no {env : Env} {all : List Oper} {ops : Array Oper} (ho : ops.toList = all) {g t : Nat} (hg : dstOf all g = some t) (hv : conc env H noSlot (a.tmps.getD t undef)) : yielded ops a.tmps g = none := by
  subst ho
  unfold dstOf at hg
  split at hg
  case h_2 => cases hg
  rename_i o hog
  have h1 : ops[g]? = some o := by simpa using hog
  obtain ⟨vs, hvs, _⟩ := hv
  unfold yielded
  simp only [h1, Option.bind_some, hg]
  rw [Array.getD_eq_getD_getElem?] at hvs
  cases h : a.tmps[t]? with
  | none => rfl
  | some x =>
    rw [h] at hvs
    have hx : x = .tuple vs := hvs
    subst hx
    rfl

theorem step_ok {tt : Types} (ht : TabOk P tt) {S : Tab} (hS : TabFs P S) {ops : Array Oper} {all : List Oper} (ha : ops.toList = all) {o : Oper} (hd : ∀ d, o.dst = some d → d < n) {e : Eff}
    (h : At n wr w0 m env0 T H a w) (he : OneStep tt S all o T H e) {K : Act → World → Prop} {Q : Exit → Act → World → Prop}
    (hk : ∀ a' w', At n wr w0 m env0 (updT T o.dst e.v) (updH H e.hs) a' w' → K a' w') :
    if Region.wanted o (yielded ops a.tmps) then o.wp P a w K Q ∨ (o.asks P a w ∧ LetsOut Q) else K (a.put o.dst undef) w := by
  obtain ⟨env, hr, kept⟩ := h
  rcases he with ⟨gs, δ, hg, hrun, hp, rfl⟩ | ⟨g, want, t, hg, hdst, hT, rfl⟩
  · have hw : Region.wanted o (yielded ops a.tmps) = true := by
      rcases hg with ⟨_, hg⟩ | ⟨g, want, t, _, hg, hdst, hT⟩
      · simp [Region.wanted, hg]
      · have hv := hr.slots t
        rw [hT] at hv
        have := yielded_of ha hdst (conc_bool hv)
        simp [Region.wanted, hg, this]
    rw [if_pos hw]
    left
    have hgood := evOp_ok hr.heap (fun k hk => hr.new k (Nat.le_trans hr.fr.size hk)) hr.slots ht hS hrun hp
    refine Does.wp hgood ?_
    rintro v w' ⟨env', h1, h2, h3, h4⟩
    exact hk _ _ ⟨env', hr.put h1 h2 h3 hd h4, kept.ext h1⟩
  · have hw : ¬ Region.wanted o (yielded ops a.tmps) = true := by
      have hv := hr.slots t
      rcases hT with hT | hT
      · rw [hT] at hv
        have := yielded_of ha hdst (conc_bool hv)
        simp [Region.wanted, hg, this]
      · rw [hT] at hv
        have := yielded_no ha hdst hv
        simp [Region.wanted, hg, this]
    rw [if_neg hw]
    refine hk _ _ ⟨env, ?_, ?_⟩
    · refine hr.put ?_ ?_ (.refl _ _) hd ?_
      · simp only [updH_nil]; exact .refl _ _
      · simp only [updH_nil]; exact hr.heap
      · exact ⟨#[], rfl, trivial⟩
    · simp only [updH_nil]; exact kept

theorem under_inv {p : Option Prop} {q : Prop} (h : under p q) : (∀ r, p = some r → r) ∧ q := by
  cases p with
  | none => exact ⟨fun r e => (by cases e), h⟩
  | some p => exact ⟨fun r e => (by cases e; exact h.1), h.2⟩

theorem not_bool {b : Bool} : (SV.bool b) = .bool (!!b) := by simp

theorem nd_ok {tt : Types} (ht : TabOk P tt) {env : Env} {σ : St} (hh : HRel wr env σ.blk w) (hs : ∀ d, conc env σ.blk (σ.slot d) (a.tmps.getD d undef)) {o : Oper} {k : Nat} (h : ndOp tt σ o = some k) :
    ∃ b : Bool, (b = true → k = 0) ∧ (execOp a.eval o).run P w = .ok (.value (.bool b)) w := by
  unfold ndOp at h
  split at h
  case h_2 => cases h
  rename_i t x u ho
  split at h
  case h_2 => cases h
  rename_i j i hj hi
  split at h
  case h_2 => cases h
  rename_i U rw V xs hU hb
  cases h
  obtain ⟨hu, _⟩ := typeOk_slice (ht _ _ hi) hU
  have hv := hs x
  rw [hj] at hv
  have hv : a.tmps.getD x undef = .slice (env j).1 xs.length (env j).2 := by simpa [conc, conc2, concC, hb] using hv
  obtain ⟨h1, h2⟩ := hh.blk j rw _ hb
  refine ⟨(env j).1.isNone, ?_, ?_⟩
  · intro hn
    rcases h2 with h2 | ⟨b, off, E, vs, fz, h3, _⟩
    · omega
    · rw [h3] at hn
      cases hn
  · have e1 : a.eval (.tmp x) = .slice (env j).1 xs.length (env j).2 := hv
    have e2 : a.eval (.const (.slice none 0 0)) = .slice none 0 0 := rfl
    have h5 : (Op.equal t (.slice (env j).1 xs.length (env j).2) (.slice none 0 0)).run P w = .ok (env j).1.isNone w := by
      show (Op.equalIn (9999 + 1) t (.slice (env j).1 xs.length (env j).2) (.slice none 0 0)).run P w = _
      rw [Op.equalIn]
      cases hc : (env j).1 <;> simp [run_underlying hu]
    have h6 : (binOp .eql t (.slice (env j).1 xs.length (env j).2) (.slice none 0 0)).run P w = .ok (.bool (env j).1.isNone) w := by
      simp only [binOp, Sem.run_bind, h5, Result.andThen_ok, Sem.run_pure]
    have h7 : (eqGuard .eql t (.tmp x) (.const (.slice none 0 0)) (.slice (env j).1 xs.length (env j).2) (.slice none 0 0)).run P w = .ok () w := rfl
    simp [execOp, ho, e1, e2, h6, h7]

theorem goOps_ok {tt : Types} (ht : TabOk P tt) {S : Tab} (hS : TabFs P S) {ops : Array Oper} {all : List Oper} (ha : ops.toList = all) {Q : Exit → Act → World → Prop} {K : St → Prop}
    (hk : ∀ σ a w, K σ → At n wr w0 m env0 σ.slot σ.blk a w → Q .normal a w) :
    ∀ {l : List Oper} {σ : St} {a : Act} {w : World}, (∀ o ∈ l, ∀ d, o.dst = some d → d < n) → goOps tt S all l σ K → At n wr w0 m env0 σ.slot σ.blk a w → wpList P ops Q l a w
  | [], σ, a, w, hd, h, hat => hk σ a w h hat
  | o :: r, σ, a, w, hd, h, hat => by
    have goOn := fun {σ : St} {a : Act} {w : World} => goOps_ok (σ := σ) (a := a) (w := w) ht hS ha hk (fun o' ho' => hd o' (List.mem_cons_of_mem _ ho'))
    have hdo := hd o List.mem_cons_self
    have stp : ∀ {s : St} (gs : List Nat), (gs = [] ∧ o.guard = none ∨ ∃ g want t, gs = [t] ∧ o.guard = some (g, want) ∧ dstOf all g = some t ∧ s.slot t = .bool want) → At n wr w0 m env0 s.slot s.blk a w →
        stepOp tt S o s (fun s => goOps tt S all r s K) → wpList P ops Q (o :: r) a w := by
      intro s gs hg hat h
      unfold stepOp at h
      split at h
      case h_2 => exact h.elim
      rename_i δ hrun
      obtain ⟨hp, h⟩ := under_inv h
      obtain ⟨s', h, e1, e2⟩ := appK_spec h
      simp only [wpList]
      refine step_ok ht hS ha hdo hat (.inl ⟨gs, δ, hg, hrun, hp, rfl⟩) ?_
      intro a' w' hat'
      refine goOn h ?_
      rw [e1, e2]
      exact hat'
    have skp : ∀ {s : St} {g want t}, o.guard = some (g, want) → dstOf all g = some t → (s.slot t = .bool (!want) ∨ s.slot t = noSlot) → At n wr w0 m env0 s.slot s.blk a w →
        putK s o.dst noSlot (fun s => goOps tt S all r s K) → wpList P ops Q (o :: r) a w := by
      intro s g want t hg hdst hT hat h
      obtain ⟨s', h, e1, e2⟩ := putK_spec h
      simp only [wpList]
      refine step_ok ht hS ha hdo hat (.inr ⟨g, want, t, hg, hdst, hT, rfl⟩) ?_
      intro a' w' hat'
      refine goOn h ?_
      rw [e1, e2]
      simpa only [updH_nil] using hat'
    simp only [goOps] at h
    split at h
    · rename_i hg
      split at h
      · rename_i k d hk hd'
        obtain ⟨env, hr, kept⟩ := id hat
        obtain ⟨b, hb, hrun⟩ := nd_ok (P := P) ht hr.heap hr.slots hk
        obtain ⟨s', h, e1, e2⟩ := putK_spec (h b hb)
        have hw : Region.wanted o (yielded ops a.tmps) = true := by simp [Region.wanted, hg]
        simp only [wpList]
        rw [if_pos hw]
        left
        refine Does.wp (R := fun v w' => v = .bool b ∧ w' = w) (.inl ⟨_, _, hrun, rfl, rfl⟩) ?_
        rintro v w' ⟨rfl, rfl⟩
        refine goOn h ?_
        rw [e1, e2, ← hd']
        exact ⟨env, hr.put (.refl _ _) hr.heap (.refl _ _) hdo (v := .bool b) (u := .bool b) rfl, kept⟩
      · exact stp [] (.inl ⟨rfl, hg⟩) hat h
    · rename_i g want hg
      split at h
      case h_2 => exact h.elim
      rename_i t hdst
      split at h
      case h_3 => exact h.elim
      case h_2 hT => exact skp hg hdst (.inr hT) hat h
      rename_i c hT
      cases c with
      | true =>
        simp only [ifB] at h
        cases want with
        | true =>
          obtain ⟨s1, h, e1, e2⟩ := putK_spec h
          rw [updT_self hT] at e1
          exact stp [t] (.inr ⟨g, true, t, rfl, hg, hdst, by rw [e1, hT]⟩) (by rw [e1, e2]; exact hat) h
        | false =>
          obtain ⟨s1, h, e1, e2⟩ := putK_spec h
          rw [updT_self hT] at e1
          exact skp hg hdst (.inl (by rw [e1, hT]; rfl)) (by rw [e1, e2]; exact hat) h
      | false =>
        simp only [ifB] at h
        cases want with
        | true =>
          obtain ⟨s1, h, e1, e2⟩ := putK_spec h
          rw [updT_self hT] at e1
          exact skp hg hdst (.inl (by rw [e1, hT]; rfl)) (by rw [e1, e2]; exact hat) h
        | false =>
          obtain ⟨s1, h, e1, e2⟩ := putK_spec h
          rw [updT_self hT] at e1
          exact stp [t] (.inr ⟨g, false, t, rfl, hg, hdst, by rw [e1, hT]⟩) (by rw [e1, e2]; exact hat) h

end

end Go.Proofs.YtnahfbjdicjdpaaGreat.Sym

