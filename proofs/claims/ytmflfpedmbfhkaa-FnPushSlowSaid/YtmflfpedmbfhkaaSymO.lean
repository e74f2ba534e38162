/-
  Every operation does what the symbolic machine says of it.
  No condition.
-/
import Derived.Test.YtmflfpedmbfhkaaSymN
namespace Go.Proofs.Ytmflfpedmbfhkaa.Sym
open Go
set_option linter.unusedVariables false
set_option linter.unusedSimpArgs false

section
variable {P : Program} {wr : Nat → Prop} {env env' : Env} {H H' : Hp} {a : Act} {w w' : World} {T : Nat → SV} {δ : Delta}

theorem call_value (hh : HRel wr env H w) (hnew : ∀ k, w.heap.size ≤ k → wr k) {tt : Types} {S : Tab} (hS : TabFs P S) {d f : Nat} {ss : List SV} {us : List Value} {ts : List Nat} {c : Call} {x : Operand} {caps : List Value}
    (h : (call tt S d f ts ss).run T H = some δ) (hp : ∀ p, δ.ok = some p → p) (hc : concL env H ss us) (hx : c.callee = .value x) (hv : a.eval x = .func (.func f) #[] caps.toArray)
    (hus : us = (c.args.toList.map a.eval) ++ caps) {dst : Option Nat} {ty : Nat} {pos : String} {af : Array Edge} {g : Option (Nat × Bool)} : Good P wr env H a w ⟨dst, .call c, ty, pos, af, g⟩ δ := by
  unfold call at h
  split at h
  case h_2 => simp [RM.run] at h
  rename_i fs hfs
  have hok := hS f fs hfs
  refine .inr (.inr ⟨f, us.toArray, ?_, callF_ok hh hnew hok h hp hc⟩)
  have he : (#[] ++ c.args.map a.eval) ++ caps.toArray = us.toArray := by
    apply Array.toList_inj.1
    simp [hus]
  have := hok.enter w us.toArray
  rw [← he] at this ⊢
  obtain ⟨cl, args, ats⟩ := c
  simp only at hx
  subst hx
  simp [execOp, resolve, hv, Deferred.ofValue, invoke] at this ⊢
  exact this

theorem concL_snoc {s : SV} {v : Value} : ∀ {ss : List SV} {vs : List Value}, concL env H ss vs → conc env H s v → concL env H (ss ++ [s]) (vs ++ [v])
  | [], vs, h, hc => by rw [concL_nil h]; exact ⟨hc, trivial⟩
  | c :: cs, vs, h, hc => by
    obtain ⟨u, t, rfl, h1, h2⟩ := concL_cons h
    exact ⟨h1, concL_snoc h2 hc⟩

theorem call_ok (hh : HRel wr env H w) (hnew : ∀ k, w.heap.size ≤ k → wr k) (hs : ∀ d, conc env H (T d) (a.tmps.getD d undef)) {tt : Types} (ht : TabOk P tt) {S : Tab} (hS : TabFs P S) {d : Nat} {c : Call} {ty : Nat} {pos : String} {af : Array Edge} {g : Option (Nat × Bool)}
    (h : (evOp tt S ⟨some d, .call c, ty, pos, af, g⟩).run T H = some δ) (hp : ∀ p, δ.ok = some p → p) : Good P wr env H a w ⟨some d, .call c, ty, pos, af, g⟩ δ := by
  simp only [evOp] at h
  obtain ⟨ss, q, hc⟩ := opvs_inv hs h
  clear h
  split at q
  · rename_i f hx
    exact call_value hh hnew hS q hp hc hx (caps := []) rfl (by simp)
  · rename_i t hx
    simp only [RM.run] at q
    have hv := hs t
    split at q
    · rename_i f hT
      rw [hT] at hv
      exact call_value hh hnew hS q hp hc hx (caps := []) hv (by simp)
    · rename_i f j hT
      rw [hT] at hv
      have hv' : concC env H (.fn f (some j)) (a.tmps.getD t undef) := hv
      simp only [concC] at hv'
      simp only [RM.run] at q
      split at q
      case h_2 => simp [RM.run] at q
      rename_i rw cs hj
      rw [hj] at hv'
      obtain ⟨b, he, hv'⟩ := hv'
      have hcc := concL_snoc hc (s := .ptr j 0 0) (v := .pointer (some ⟨b, 0, none⟩)) (by
        show concC env H (.ptr j 0 0) _
        simp only [concC, hj]
        exact ⟨b, he, rfl⟩)
      exact call_value hh hnew hS q hp hcc hx (caps := [.pointer (some ⟨b, 0, none⟩)]) hv' rfl
    · simp [RM.run] at q
  · rename_i b hx
    obtain ⟨cl, args, ats⟩ := c
    simp only at hx
    subst hx
    have hex : ∃ cs, (execOp a.eval ⟨some d, .call ⟨.builtin b, args, ats⟩, ty, pos, af, g⟩).run P w = (builtin b ats.toList.toArray ty cs (args.toList.map a.eval).toArray).run P w :=
      ⟨_, by
        have e1 : ats.toList.toArray = ats := by simp
        have e2 : (args.toList.map a.eval).toArray = args.map a.eval := Array.toList_inj.1 (by rw [Array.toList_map])
        rw [e1, e2]
        simp [execOp, resolve, invoke]
        rfl⟩
    obtain ⟨cs, hex⟩ := hex
    obtain ⟨v, w', hr, hR⟩ := blt_ok hh hnew ht hc q hp ty cs
    exact .inl ⟨v, w', hex.trans hr, hR⟩
  · simp [RM.run] at q

theorem clear_ok (hh : HRel wr env H w) (hs : ∀ d, conc env H (T d) (a.tmps.getD d undef)) {tt : Types} (ht : TabOk P tt) {S : Tab} {c : Call} {ty : Nat} {pos : String} {af : Array Edge} {g : Option (Nat × Bool)}
    (h : (evOp tt S ⟨none, .call c, ty, pos, af, g⟩).run T H = some δ) : Good P wr env H a w ⟨none, .call c, ty, pos, af, g⟩ δ := by
  simp only [evOp] at h
  split at h
  case h_2 => simp [RM.run] at h
  rename_i hx
  obtain ⟨ss, q, hc⟩ := opvs_inv hs h
  obtain ⟨cl, args, ats⟩ := c
  simp only at hx
  subst hx
  have hex : ∃ cs, (execOp a.eval ⟨none, .call ⟨.builtin .clear, args, ats⟩, ty, pos, af, g⟩).run P w = (builtin .clear ats.toList.toArray ty cs (args.toList.map a.eval).toArray).run P w :=
    ⟨_, by
      have e1 : ats.toList.toArray = ats := by simp
      have e2 : (args.toList.map a.eval).toArray = args.map a.eval := Array.toList_inj.1 (by rw [Array.toList_map])
      rw [e1, e2]
      simp [execOp, resolve, invoke]
      rfl⟩
  obtain ⟨cs, hex⟩ := hex
  obtain ⟨v, w', hr, hR⟩ := clr_ok hh ht hc q ty cs
  exact .inl ⟨v, w', hex.trans hr, hR⟩

theorem evOp_ok (hh : HRel wr env H w) (hnew : ∀ k, w.heap.size ≤ k → wr k) (hs : ∀ d, conc env H (T d) (a.tmps.getD d undef)) {tt : Types} (ht : TabOk P tt) {S : Tab} (hS : TabFs P S) {o : Oper}
    (h : (evOp tt S o).run T H = some δ) (hp : ∀ p, δ.ok = some p → p) : Good P wr env H a w o δ := by
  obtain ⟨dst, op, ty, pos, af, g⟩ := o
  cases dst with
  | none =>
    cases op with
    | store t x y => exact store_ok hh hs ht h
    | call c => exact clear_ok hh hs ht h
    | _ => simp [evOp, RM.run] at h
  | some d =>
    cases op with
    | move x => exact (move_ok hh hs (by simpa [evOp] using h)).1
    | assign x => exact (move_ok hh hs (by simpa [evOp] using h)).2
    | pick c x y => exact pick_ok hh hs h
    | alloc t => exact alloc_ok hh hnew hs ht h
    | box t x => exact box_ok hh hnew hs h
    | build t ps => exact build_ok hh hs ht h
    | buildSlice t m ps => exact buildSlice_ok hh hnew hs ht h
    | load t x => exact load_ok hh hs ht h
    | nilCheck x => exact nilCheck_ok hh hs h
    | binOp op t x y u => exact bin_ok hh hs ht h hp
    | unOp op t x => exact un_ok hh hs h
    | convert t0 t x => exact convert_ok hh hs ht h
    | makeFunc fn first caps =>
      cases fn with
      | func f => exact makeFunc_ok hh hs h
      | _ => simp [evOp, RM.run] at h
    | makeSlice t l c => exact makeSlice_ok hh hnew hs ht h hp
    | slice t x lo hi mx => exact slice_ok hh hs ht h hp
    | fieldAddr t x f => exact fieldAddr_ok hh hs ht h
    | indexAddr t x y => exact indexAddr_ok hh hs ht h hp
    | extract x n => exact extract_ok hh hs h
    | call c => exact call_ok hh hnew hs ht hS h hp
    | _ => simp [evOp, RM.run] at h

end

end Go.Proofs.Ytmflfpedmbfhkaa.Sym
