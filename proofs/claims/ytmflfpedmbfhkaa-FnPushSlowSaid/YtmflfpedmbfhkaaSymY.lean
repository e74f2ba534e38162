/-
  A part of a list that a function hands back is taken for a list of its own.
  No condition.
-/
import Derived.Test.YtmflfpedmbfhkaaSymU
namespace Go.Proofs.Ytmflfpedmbfhkaa.Sym
open Go
set_option linter.unusedVariables false
set_option linter.unusedSimpArgs false

theorem ofL_over {U : Ty} {zs ts : List U.El} {R : List Ent} :
    updH (ofL ((true, .vec U zs) :: R)) [(0, true, .dead), (R.length + 1, true, .vec U ts)] = ofL ((true, .dead) :: (R ++ [(true, .vec U ts)])) := by
  funext k
  rw [updH_two]
  by_cases h0 : k = 0
  · subst h0; simp [ofL]
  · rw [if_neg h0]
    obtain ⟨m, rfl⟩ : ∃ m, k = m + 1 := ⟨k - 1, by omega⟩
    by_cases h1 : m = R.length
    · subst h1; simp [ofL]
    · rw [if_neg (by omega)]
      simp only [ofL, List.getElem?_cons_succ]
      by_cases h2 : m < R.length
      · rw [List.getElem?_append_left h2]
      · rw [List.getElem?_eq_none (by omega), List.getElem?_eq_none (by simp; omega)]

theorem fsem_retake {P : Program} {f : Nat} {args : List SV} {L R : List Ent} {U : Ty} {zs : List U.El} {n : Nat} (h : FSem P f args L (.sl 0 0 n) ((true, .vec U zs) :: R)) :
    FSem P f args L (.vec (R.length + 1)) ((true, .dead) :: (R ++ [(true, .vec U (zs.take n))])) := by
  refine ⟨?_, ?_, ?_, ?_, ?_⟩
  · have := h.len
    simp only [List.length_cons, List.length_append, List.length_nil] at this ⊢
    omega
  · intro k b hk
    have := h.keep k b hk
    cases k with
    | zero => simp at this
    | succ k =>
      simp only [List.getElem?_cons_succ] at this ⊢
      rw [List.getElem?_append_left (List.getElem?_eq_some_iff.1 this).1]
      exact this
  · intro k b hk
    obtain ⟨b', h1, h2⟩ := h.wrt k b hk
    cases k with
    | zero => exact ⟨.dead, rfl, by cases b <;> trivial⟩
    | succ k =>
      simp only [List.getElem?_cons_succ] at h1 ⊢
      refine ⟨b', ?_, h2⟩
      rw [List.getElem?_append_left (List.getElem?_eq_some_iff.1 h1).1]
      exact h1
  · intro k e hk he
    cases k with
    | zero => simp at he; subst he; rfl
    | succ k =>
      simp only [List.getElem?_cons_succ] at he
      by_cases hlt : k < R.length
      · rw [List.getElem?_append_left hlt] at he
        exact h.new (k + 1) e hk (by simpa using he)
      · rw [List.getElem?_append_right (by omega)] at he
        have := List.mem_of_getElem? he
        simp at this
        subst this
        rfl
  · intro wr env w us hh hnew hc
    refine (h.run wr env w us hh hnew hc).mono ?_
    rintro e w' ⟨v, env', rfl, hsame, hr, hv, hfr⟩
    have h0 : ofL ((true, Blk.vec U zs) :: R) 0 = some (true, .vec U zs) := rfl
    simp only [conc, conc2, concC, h0] at hv
    obtain ⟨hn, x, rfl, hx⟩ := hv
    obtain ⟨hcap, hrest⟩ := hr.blk 0 true _ h0
    have hno : ofL ((true, Blk.vec U zs) :: R) (R.length + 1) = none := by simp [ofL]
    have hlen : (zs.take n).length = n := by simp; omega
    have hov := hr.over (w' := w') (zs := zs.take n) h0 hno (x := (x, (env' 0).2)) (fun _ _ _ => rfl) (fun k hk => hnew k (Nat.le_trans hfr.size hk)) (fun H' => by
        refine ⟨by simp [envSet]; omega, ?_⟩
        rcases hrest with hz | ⟨b, off, E, vs, fz, hb1, hheap, hsize, hlies, hfz⟩
        · exact .inl (by simp [envSet, hz])
        · by_cases hz : (env' 0).2 = 0
          · exact .inl (by simp [envSet, hz])
          right
          rcases hx with hx | hx
          · exact absurd hx hz
          rw [hb1] at hx
          simp only [Option.map_some, Nat.zero_mul, add_addr, Nat.add_zero] at hx
          refine ⟨b, off, E, vs, fz, by simp [envSet, hx], hheap, by simpa [envSet] using hsize, ?_, hfz⟩
          intro e he o ho
          rw [hlen] at he
          have := hlies e (by omega) o ho
          have hix : U.ix (zs.take n) e = U.ix zs e := by simp [Ty.ix, List.getD, List.getElem?_take, he]
          rw [hix]
          exact this) (fun y hy => by
        left
        simp only [own, envSet, if_true] at hy ⊢
        split at hy
        · cases hy
        · rename_i hz
          rw [if_neg hz]
          rcases hx with hx | hx
          · exact absurd hx hz
          · rw [hx] at hy
            cases hb : (env' 0).1 with
            | none => rw [hb] at hy; simp at hy
            | some q => rw [hb] at hy; simp [Addr.add] at hy ⊢; exact hy)
    rw [ofL_over] at hov
    refine ⟨_, _, rfl, ?_, hov.2, ?_, hfr⟩
    · intro j hj
      have hl := h.len
      simp only [List.length_cons] at hl
      simp only [envSet]
      rw [if_neg (by omega)]
      exact hsame j hj
    · have : ofL ((true, Blk.dead) :: (R ++ [(true, Blk.vec U (zs.take n))])) (R.length + 1) = some (true, .vec U (zs.take n)) := by simp [ofL]
      simp only [conc, conc2, concC, this, hlen, envSet, if_true, Nat.sub_zero]

theorem fsOk_retake {P : Program} {f : Nat} {fs fs' : Fs} (h : FsOk P f fs) (hr : ∀ args L p r L', fs'.ev args L = some (p, r, L') → ∃ (U : Ty) (zs : List U.El) (R : List Ent) (n : Nat),
    fs.ev args L = some (p, .sl 0 0 n, (true, .vec U zs) :: R) ∧ r = .vec (R.length + 1) ∧ L' = (true, .dead) :: (R ++ [(true, .vec U (zs.take n))])) : FsOk P f fs' :=
  ⟨h.enter, fun args L p r L' he hp => by
    obtain ⟨U, zs, R, n, h1, rfl, rfl⟩ := hr args L p r L' he
    exact fsem_retake (h.sem args L p _ _ h1 hp)⟩

end Go.Proofs.Ytmflfpedmbfhkaa.Sym
