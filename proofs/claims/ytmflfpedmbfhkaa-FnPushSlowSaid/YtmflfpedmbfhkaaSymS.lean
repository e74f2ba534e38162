/-
  Code and functions.
  No condition.
-/
import Derived.Test.YtmflfpedmbfhkaaSymR
namespace Go.Proofs.Ytmflfpedmbfhkaa.Sym
open Go
set_option linter.unusedVariables false
set_option linter.unusedSimpArgs false

section
variable {P : Program} {n : Nat} {wr : Nat → Prop} {w0 : World} {m : Nat} {env0 env env' : Env} {a : Act} {w w' : World}

theorem number_look : ∀ {h : List Ent} {i k : Nat}, look (number h i) (i + k) = h[k]?
  | [], i, k => by simp [number, look]
  | e :: r, i, 0 => by simp [number, look]
  | e :: r, i, k + 1 => by
    simp only [number, look]
    have : Nat.beq i (i + (k + 1)) = false := by
      cases h : Nat.beq i (i + (k + 1)) with
      | false => rfl
      | true => have := Nat.eq_of_beq_eq_true h; omega
    rw [this]
    simp only
    rw [show i + (k + 1) = i + 1 + k by omega, number_look (h := r)]
    simp

theorem shape_blk (live : List (Nat × List (Option Ty))) (x : List SV × List Ent) : (ofShape live x).blk = ofL x.2 := by
  funext k
  simp only [ofShape, St.blk, ofL]
  have := number_look (h := x.2) (i := 0) (k := k)
  rwa [Nat.zero_add] at this

theorem zip_conc {envc : Env} {H : Hp} {tmps : Array Value} {d : Nat} : ∀ {ds : List Nat} {vs : List SV}, conc2s envc H vs (ds.map fun d => tmps.getD d undef) →
    conc envc H (match look (ds.zip vs) d with
      | some v => v
      | none => .any) (tmps.getD d undef)
  | [], vs, h => by simp [look, conc, conc2, concC]
  | d' :: ds, [], h => h.elim
  | d' :: ds, v :: vs, h => by
    simp only [List.zip_cons_cons, look]
    cases e : Nat.beq d' d with
    | true =>
      have := Nat.eq_of_beq_eq_true e
      subst this
      exact conc_of_conc2 h.1
    | false => exact zip_conc h.2

theorem slots_concL {T : Nat → SV} {H : Hp} (hs : ∀ d, conc env H (T d) (a.tmps.getD d undef)) : ∀ ds : List Nat, concL env H (ds.map T) (ds.map fun d => a.tmps.getD d undef)
  | [] => trivial
  | d :: r => ⟨hs d, slots_concL hs r⟩

theorem enter_ok {σ : St} {l : LS} {K : l.S → Prop} (h : enterLS σ m l K) (hat : At n wr w0 m env0 σ.slot σ.blk a w) :
    ∃ s, K s ∧ At n wr w0 m env0 (ofShape l.live (l.shape s)).slot (ofShape l.live (l.shape s)).blk a w := by
  unfold enterLS at h
  split at h
  case h_2 => exact h.elim
  rename_i v hp hc
  split at h
  case h_2 => exact h.elim
  rename_i s hg
  refine ⟨s, h, ?_⟩
  obtain ⟨env, hr, kept⟩ := hat
  have hl := slots_concL hr.slots (l.live.map (·.1))
  have e1 : (l.live.map (·.1)).map σ.slot = l.live.map fun x => σ.slot x.1 := by simp
  rw [e1] at hl
  obtain ⟨envc, h1, h2, h3, h4⟩ := canon_ok hr.heap (fun j hj => (kept j hj).2) hc hl
  rw [l.ok v hp s hg]
  have hb := shape_blk l.live (v, hp)
  refine ⟨envc, ⟨hr.defers, hr.size, ?_, by rw [hb]; exact h1, hr.fr, hr.new⟩, ?_⟩
  · intro d
    rw [hb]
    exact zip_conc h2
  · intro j hj
    rw [hb]
    exact ⟨((h3 j hj).1).trans (kept j hj).1, (h3 j hj).2⟩

def exOf : Ex → Exit
  | .normal => .normal
  | .exit i => .exit i
  | .ret => .ret

theorem evP_ok {tt : Types} (ht : TabOk P tt) {S : Tab} (hS : TabFs P S) (hm : P.follows .mixedOrders = true) {L : Loops} :
    ∀ {c : Code} {σ : St} {K : Ex → St → Prop} {Q : Exit → Act → World → Prop} {a : Act} {w : World}, dsts n c = true → evP tt S L m c σ K → At n wr w0 m env0 σ.slot σ.blk a w →
      (∀ e s a w, K e s → At n wr w0 m env0 s.slot s.blk a w → Q (exOf e) a w) → c.wp P Q a w
  | .skip, σ, K, Q, a, w, hd, h, hat, hk => wp_skip (hk .normal σ a w h hat)
  | .region id ops draw, σ, K, Q, a, w, hd, h, hat, hk => by
    have hd' : ∀ o ∈ ops.toList, ∀ d, o.dst = some d → d < n := by
      intro o ho d hod
      have := List.all_eq_true.1 hd o ho
      rw [hod] at this
      exact Nat.le_of_ble_eq_true this
    simp only [evP] at h
    cases draw with
    | true => exact draw_ok ht hS hm hd' (fun σ a w hK hat => hk .normal σ a w hK hat) h hat
    | false => exact wp_region_list (goOps_ok ht hS rfl (fun σ a w hK hat => hk .normal σ a w hK hat) hd' h hat)
  | .seq x y, σ, K, Q, a, w, hd, h, hat, hk => by
    simp only [dsts, Bool.and_eq_true] at hd
    simp only [evP] at h
    refine wp_seq (evP_ok ht hS hm hd.1 h hat ?_)
    intro e s a w hK hat'
    cases e with
    | normal => exact evP_ok ht hS hm hd.2 hK hat' hk
    | exit i => exact hk (.exit i) s a w hK hat'
    | ret => exact hk .ret s a w hK hat'
  | .cond c x y, σ, K, Q, a, w, hd, h, hat, hk => by
    simp only [dsts, Bool.and_eq_true] at hd
    simp only [evP] at h
    split at h
    case h_2 => exact h.elim
    rename_i t hc
    have hv : a.eval c = .bool t := by
      obtain ⟨env, hr, _⟩ := hat
      cases c with
      | tmp t' =>
        have := hr.slots t'
        simp only [condOf] at hc
        rw [hc] at this
        exact conc_bool this
      | const v =>
        simp only [condOf] at hc
        have := cst_ok env σ.blk v
        rw [hc] at this
        exact conc_bool this
      | func f => cases hc
      | global g => cases hc
    cases t with
    | true => exact wp_cond_true hv (evP_ok ht hS hm hd.1 h hat hk)
    | false => exact wp_cond_false hv (evP_ok ht hS hm hd.2 h hat hk)
  | .block id b, σ, K, Q, a, w, hd, h, hat, hk => by
    simp only [evP] at h
    refine wp_block (evP_ok ht hS hm hd h hat ?_)
    intro e s a w hK hat'
    cases e with
    | normal => exact hk .normal s a w hK hat'
    | exit i =>
      simp only at hK
      split at hK
      · rename_i hb
        have := Nat.eq_of_beq_eq_true hb
        subst this
        simp only [exOf, Exit.inBlock, if_true]
        exact hk .normal s a w hK hat'
      · rename_i hb
        have hne : i ≠ id := fun e => by subst e; simp at hb
        simp only [exOf, Exit.inBlock, hne, if_false]
        exact hk (.exit i) s a w hK hat'
    | ret => exact hk .ret s a w hK hat'
  | .loop b, σ, K, Q, a, w, hd, h, hat, hk => by
    simp only [evP] at h
    split at h
    case h_2 => exact h.elim
    rename_i l hl
    obtain ⟨s0, ⟨i0, h2⟩, at0⟩ := enter_ok h hat
    refine wp_loop_ghost (fun k a w => ∃ s, l.inv s0 s ∧ l.mu s = k ∧ At n wr w0 m env0 (ofShape l.live (l.shape s)).slot (ofShape l.live (l.shape s)).blk a w) (l.mu s0) ⟨s0, i0, rfl, at0⟩ ?_
    rintro k a w ⟨s, is, rfl, ats⟩
    refine evP_ok ht hS hm hd (h2 s is) ats ?_
    intro e s' a' w' hK hat'
    cases e with
    | normal =>
      obtain ⟨s1, ⟨i1, lt1⟩, at1⟩ := enter_ok hK hat'
      exact ⟨l.mu s1, lt1, s1, i1, rfl, at1⟩
    | exit i => exact hk (.exit i) s' a' w' hK hat'
    | ret => exact hk .ret s' a' w' hK hat'
  | .exit id, σ, K, Q, a, w, hd, h, hat, hk => wp_exit (hk (.exit id) σ a w h hat)
  | .ret, σ, K, Q, a, w, hd, h, hat, hk => wp_ret (hk .ret σ a w h hat)
  | .rangeFunc .., σ, K, Q, a, w, hd, h, hat, hk => by simp [evP] at h
  | .scope b, σ, K, Q, a, w, hd, h, hat, hk => by simp [evP] at h
  | .label l, σ, K, Q, a, w, hd, h, hat, hk => by simp [evP] at h
  | .goto l, σ, K, Q, a, w, hd, h, hat, hk => by simp [evP] at h
  | .refuse s, σ, K, Q, a, w, hd, h, hat, hk => by simp [evP] at h

/-! ### Results -/

def resF (tmps : Array Value) : ResultVar → Sem Value
  | .tmp t => pure (tmps.getD t undef)
  | .cell a t => do loadVar t (← asAddr (tmps.getD a undef))

theorem resOf_ok {tt : Types} (ht : TabOk P tt) {σ : St} (hr : ∀ d, conc env σ.blk (σ.slot d) (a.tmps.getD d undef)) (hh : HRel wr env σ.blk w) {r : ResultVar} {v : SV} {cs : List (Option Ty)} (h : resOf tt σ r = some (v, cs)) :
    ∃ u, (resF a.tmps r).run P w = .ok u w ∧ conc env σ.blk v u := by
  cases r with
  | tmp t =>
    simp only [resOf, Option.some.injEq, Prod.mk.injEq] at h
    obtain ⟨rfl, _⟩ := h
    exact ⟨_, rfl, hr t⟩
  | cell x t =>
    simp only [resOf] at h
    split at h
    case h_2 => cases h
    rename_i i j e o hi hx
    split at h
    case h_2 => cases h
    rename_i δ hδ
    simp only [Option.some.injEq, Prod.mk.injEq] at h
    obtain ⟨rfl, _⟩ := h
    have hv := hr x
    rw [hx] at hv
    obtain ⟨_, u, h2, h3⟩ := load_run (P := P) hh ht hi hv hδ
    refine ⟨u, ?_, h3⟩
    have hlive : Live σ.blk j := by
      cases hj : σ.blk j with
      | none => rw [hj] at hδ; simp [readBlk, RM.run] at hδ
      | some y =>
        obtain ⟨r, b⟩ := y
        cases b with
        | box cs => exact .inl ⟨r, cs, hj⟩
        | vec U xs => exact .inr ⟨r, U, xs, hj⟩
        | dead => rw [hj] at hδ; simp [readBlk, RM.run] at hδ
    obtain ⟨p, hp⟩ := ptr_live hlive hv
    rw [hp] at h2
    simp only [resF, hp]
    simpa [Instr.loadAt, Instr.sureAddr, asAddr] using h2

theorem results_eq (fn : Func) (tmps : Array Value) : results fn tmps = (do
    let vs ← fn.results.mapM (resF tmps)
    pure (if h : vs.size = 1 then vs[0] else .tuple vs)) := by
  unfold results
  congr 1

theorem resAll_ok {tt : Types} (ht : TabOk P tt) {σ : St} (hr : ∀ d, conc env σ.blk (σ.slot d) (a.tmps.getD d undef)) (hh : HRel wr env σ.blk w) : ∀ {rs : List ResultVar} {ts : List Nat} {vs : List SV} {cs : List (List (Option Ty))}, resAll tt σ rs ts = some (vs, cs) →
    ∃ us, (rs.mapM (resF a.tmps)).run P w = .ok us w ∧ concL env σ.blk vs us ∧ us.length = vs.length
  | [], ts, vs, cs, h => by
    simp only [resAll, Option.some.injEq, Prod.mk.injEq] at h
    obtain ⟨rfl, _⟩ := h
    exact ⟨[], rfl, trivial, rfl⟩
  | r :: rs, ts, vs, cs, h => by
    simp only [resAll] at h
    split at h
    case h_2 => cases h
    rename_i v c vs' cs' h1 h2
    simp only [Option.some.injEq, Prod.mk.injEq] at h
    obtain ⟨rfl, _⟩ := h
    obtain ⟨u, q1, q2⟩ := resOf_ok (P := P) ht hr hh h1
    obtain ⟨us, q3, q4, q5⟩ := resAll_ok ht hr hh h2
    refine ⟨u :: us, ?_, ⟨q2, q4⟩, by simp [q5]⟩
    simp [q1, q3]

theorem asPart_ok {h : List Ent} (hh : HRel wr env (ofL h) w) {c : SV} {v : Value} (hc : concC env (ofL h) c v) : concC env (ofL h) (asPart m h c) v := by
  unfold asPart
  split
  · rename_i i
    split
    · rename_i rw U xs hb hi
      simp only [concC, ofL, hi] at hc ⊢
      refine ⟨by omega, _, hc, ?_⟩
      rcases (hh.blk i rw _ hi).2 with h0 | ⟨b, off, E, vs, fz, h1, _⟩
      · exact .inl h0
      · right
        rw [h1]
        simp [add_addr]
    · exact hc
  · exact hc

theorem asParts_ok {h : List Ent} (hh : HRel wr env (ofL h) w) : ∀ {cs : List SV} {vs : List Value}, concCs env (ofL h) cs vs → concCs env (ofL h) (cs.map (asPart m h)) vs
  | [], [], _ => trivial
  | _ :: _, _ :: _, hc => ⟨asPart_ok hh hc.1, asParts_ok hh hc.2⟩

theorem parts2_ok {h : List Ent} (hh : HRel wr env (ofL h) w) {c : SV} {v : Value} (hc : conc2 env (ofL h) c v) : conc2 env (ofL h) (parts2 m h c) v := by
  unfold parts2
  split
  · obtain ⟨vs, e, hc⟩ := hc
    exact ⟨vs, e, asParts_ok hh hc⟩
  · rename_i hna
    have hc' : concC env (ofL h) c v := by cases c <;> first | exact hc | exact absurd rfl (hna _)
    exact conc2_of_concC (asPart_ok hh hc')

theorem parts2s_ok {h : List Ent} (hh : HRel wr env (ofL h) w) : ∀ {cs : List SV} {vs : List Value}, conc2s env (ofL h) cs vs → conc2s env (ofL h) (cs.map (parts2 m h)) vs
  | [], [], _ => trivial
  | _ :: _, _ :: _, hc => ⟨parts2_ok hh hc.1, parts2s_ok hh hc.2⟩

def partB (m : Nat) (h : List Ent) : Ent → Ent
  | (rw, .box cs) => (rw, .box (cs.map (asPart m h)))
  | e => e

theorem partsBlk_map {h : List Ent} : ∀ l : List Ent, partsBlk m h l = l.map (partB m h)
  | [] => rfl
  | (rw, .box cs) :: r => by simp [partsBlk, partB, partsBlk_map r]
  | (rw, .vec U xs) :: r => by simp [partsBlk, partB, partsBlk_map r]
  | (rw, .dead) :: r => by simp [partsBlk, partB, partsBlk_map r]

theorem recell {h : List Ent} (hm : m ≤ h.length) (hh : HRel wr env (ofL h) w) : Ext env (ofL h) env (ofL (h.take m ++ partsBlk m h (h.drop m))) ∧ HRel wr env (ofL (h.take m ++ partsBlk m h (h.drop m))) w := by
  have get : ∀ k : Nat, (h.take m ++ partsBlk m h (h.drop m))[k]? = if k < m then h[k]? else (h[k]?).map (partB m h) := by
    intro k
    rw [partsBlk_map]
    split
    · rename_i hk
      rw [List.getElem?_append_left (by simp; omega), List.getElem?_take, if_pos hk]
    · rename_i hk
      rw [List.getElem?_append_right (by simp; omega)]
      simp only [List.length_take, List.getElem?_map, List.getElem?_drop]
      congr 2
      omega
  have fwd : ∀ (k : Nat) r b, h[k]? = some (r, b) → ∃ b', (h.take m ++ partsBlk m h (h.drop m))[k]? = some (r, b') ∧ (b' = b ∨ ∃ cs, b = .box cs ∧ b' = .box (cs.map (asPart m h))) := by
    intro k r b hk
    rw [get]
    split
    · exact ⟨b, hk, .inl rfl⟩
    · rw [hk]
      cases b with
      | box cs => exact ⟨_, rfl, .inr ⟨cs, rfl, rfl⟩⟩
      | vec U xs => exact ⟨_, rfl, .inl rfl⟩
      | dead => exact ⟨_, rfl, .inl rfl⟩
  have bwd : ∀ (k : Nat) r b', (h.take m ++ partsBlk m h (h.drop m))[k]? = some (r, b') → ∃ b, h[k]? = some (r, b) ∧ (b' = b ∨ ∃ cs, b = .box cs ∧ b' = .box (cs.map (asPart m h))) := by
    intro k r b' hk
    cases hk0 : h[k]? with
    | none =>
      rw [get, hk0] at hk
      split at hk <;> cases hk
    | some e =>
      obtain ⟨r0, b⟩ := e
      obtain ⟨b2, h1, h2⟩ := fwd k r0 b hk0
      rw [h1] at hk
      cases hk
      exact ⟨b, rfl, h2⟩
  have ex : Ext env (ofL h) env (ofL (h.take m ++ partsBlk m h (h.drop m))) := ⟨fun j r b hj => by
    obtain ⟨b', h1, h2⟩ := fwd j r b hj
    refine ⟨rfl, r, b', h1, ?_⟩
    rcases h2 with rfl | ⟨cs, rfl, rfl⟩
    · exact stays_refl _
    · trivial⟩
  have ow : ∀ (k : Nat) b b', (b' = b ∨ ∃ cs, b = .box cs ∧ b' = .box (cs.map (asPart m h))) → own env k b' = own env k b := by
    intro k b b' h2
    rcases h2 with rfl | ⟨cs, rfl, rfl⟩ <;> rfl
  refine ⟨ex, ⟨?_, ?_, ?_⟩⟩
  · intro j r b' hj
    obtain ⟨b, h1, h2⟩ := bwd j r b' hj
    have hb := hh.blk j r b h1
    rcases h2 with rfl | ⟨cs, rfl, rfl⟩
    · exact blkRel_ext ex rfl hb
    · obtain ⟨b, E, vs, fz, q1, q2, q3, q4⟩ := hb
      exact ⟨b, E, vs, fz, q1, q2, concCs_ext ex (asParts_ok hh q3), q4⟩
  · intro i j ri bi rj bj hij hi hj hrw x hx hy
    obtain ⟨b1, p1, p2⟩ := bwd i ri bi hi
    obtain ⟨b2, q1, q2⟩ := bwd j rj bj hj
    rw [ow i b1 bi p2] at hx
    rw [ow j b2 bj q2] at hy
    exact hh.dj i j ri b1 rj b2 hij p1 q1 hrw x hx hy
  · intro j b hj x hx
    obtain ⟨b1, p1, p2⟩ := bwd j true b hj
    rw [ow j b1 b p2] at hx
    exact hh.wrt j b1 p1 x hx

theorem finish_ok {tt : Types} (ht : TabOk P tt) {fn : Func} {σ : St} {Q : SV → List Ent → Prop} (h : finish tt fn m σ Q) (hat : At n wr w0 m env0 σ.slot σ.blk a w) :
    ∃ r h', Q r h' ∧ ∃ v env', (results fn a.tmps).run P w = .ok v w ∧ (∀ j, j < m → env' j = env0 j) ∧ HRel wr env' (ofL h') w ∧ conc env' (ofL h') r v := by
  unfold finish at h
  split at h
  case h_2 => exact h.elim
  rename_i vs cs hres
  split at h
  case h_2 => exact h.elim
  rename_i vs' hl hcan
  obtain ⟨env, hr, kept⟩ := hat
  obtain ⟨us, h1, h2, h3⟩ := resAll_ok (P := P) ht hr.slots hr.heap hres
  obtain ⟨envc, q1, q2, q3, q4⟩ := canon_ok hr.heap (fun j hj => (kept j hj).2) hcan h2
  obtain ⟨ex, hh2⟩ := recell (m := m) q4 q1
  have c2 := conc2s_ext ex (parts2s_ok (m := m) q1 q2)
  have e3 : ∀ {ss : List SV} {us : List Value}, conc2s envc (ofL (hl.take m ++ partsBlk m hl (hl.drop m))) ss us → conc envc (ofL (hl.take m ++ partsBlk m hl (hl.drop m))) (tupOf ss) (if h : us.toArray.size = 1 then us.toArray[0] else .tuple us.toArray) := by
    intro ss us hc
    match ss, us, hc with
    | [], [], _ => exact ⟨#[], rfl, trivial⟩
    | [s], [u], hc => exact conc_of_conc2 hc.1
    | s :: s2 :: r, u :: u2 :: t, hc => exact ⟨_, rfl, hc⟩
    | [s], u :: u2 :: t, hc => exact hc.2.elim
    | s :: s2 :: r, [u], hc => exact hc.2.elim
  refine ⟨_, _, h, _, envc, ?_, fun j hj => ((q3 j hj).1).trans (kept j hj).1, hh2, e3 c2⟩
  rw [results_eq]
  have e4 : (fn.results.mapM (resF a.tmps)).run P w = .ok us.toArray w := by
    rw [Array.mapM_eq_mapM_toList]
    simp [h1]
  simp only [Sem.run_bind, e4, Result.andThen_ok, Sem.run_pure]

/-- What a function's answer looks like: what it may not write is as it was, what it made may be written. -/
def Form : List Ent → List Ent → Prop
  | [], [] => True
  | [], (r, _) :: h => r = true ∧ Form [] h
  | (false, b) :: l, (r, b') :: h => r = false ∧ b' = b ∧ Form l h
  | (true, b) :: l, (r, b') :: h => r = true ∧ stays b b' ∧ Form l h
  | _ :: _, [] => False

theorem Form.spec : ∀ {l h : List Ent}, Form l h → l.length ≤ h.length ∧ (∀ (k : Nat) b, l[k]? = some (false, b) → h[k]? = some (false, b)) ∧
    (∀ (k : Nat) b, l[k]? = some (true, b) → ∃ b', h[k]? = some (true, b') ∧ stays b b') ∧ ∀ (k : Nat) e, l.length ≤ k → h[k]? = some e → e.1 = true
  | [], [], _ => ⟨Nat.le_refl _, fun k b h => by simp at h, fun k b h => by simp at h, fun k e _ h => by simp at h⟩
  | [], (r, b0) :: h, hf => by
    obtain ⟨h1, h2⟩ := hf
    subst h1
    obtain ⟨_, _, _, q⟩ := Form.spec h2
    refine ⟨by simp, fun k b h => by simp at h, fun k b h => by simp at h, ?_⟩
    intro k e _ hk
    cases k with
    | zero => simp at hk; rw [← hk]
    | succ k => exact q k e (by simp) (by simpa using hk)
  | (false, b0) :: l, (r, b1) :: h, hf => by
    obtain ⟨h1, h2, h3⟩ := hf
    subst h1
    subst h2
    obtain ⟨q1, q2, q3, q4⟩ := Form.spec h3
    refine ⟨by simp; omega, ?_, ?_, ?_⟩
    · intro k b hk
      cases k with
      | zero => exact hk
      | succ k => exact q2 k b hk
    · intro k b hk
      cases k with
      | zero => simp at hk
      | succ k => exact q3 k b hk
    · intro k e hl hk
      cases k with
      | zero => simp at hl
      | succ k => exact q4 k e (by simpa using hl) hk
  | (true, b0) :: l, (r, b1) :: h, hf => by
    obtain ⟨h1, h2, h3⟩ := hf
    subst h1
    obtain ⟨q1, q2, q3, q4⟩ := Form.spec h3
    refine ⟨by simp; omega, ?_, ?_, ?_⟩
    · intro k b hk
      cases k with
      | zero => simp at hk
      | succ k => exact q2 k b hk
    · intro k b hk
      cases k with
      | zero =>
        simp only [List.getElem?_cons_zero, Option.some.injEq, Prod.mk.injEq, true_and] at hk
        subst hk
        exact ⟨b1, rfl, h2⟩
      | succ k => exact q3 k b hk
    · intro k e hl hk
      cases k with
      | zero => simp at hl
      | succ k => exact q4 k e (by simpa using hl) hk
  | (_, _) :: _, [], hf => by simp [Form] at hf

theorem startT_look : ∀ {vs : List SV} {i k : Nat}, look (startT vs i) (i + k) = vs[k]?
  | [], i, k => by simp [startT, look]
  | e :: r, i, 0 => by simp [startT, look]
  | e :: r, i, k + 1 => by
    simp only [startT, look]
    have : Nat.beq i (i + (k + 1)) = false := by
      cases h : Nat.beq i (i + (k + 1)) with
      | false => rfl
      | true => have := Nat.eq_of_beq_eq_true h; omega
    rw [this]
    simp only
    rw [show i + (k + 1) = i + 1 + k by omega, startT_look (vs := r)]
    simp

theorem conc2s_at {H : Hp} : ∀ {vs : List SV} {us : List Value} {k : Nat} {v : SV}, conc2s env H vs us → vs[k]? = some v → ∃ u, us[k]? = some u ∧ conc2 env H v u
  | s :: vs, u :: us, 0, v, h, hk => by
    simp only [List.getElem?_cons_zero, Option.some.injEq] at hk
    subst hk
    exact ⟨u, rfl, h.1⟩
  | s :: vs, u :: us, k + 1, v, h, hk => by
    obtain ⟨u', h1, h2⟩ := conc2s_at h.2 (by simpa using hk)
    exact ⟨u', by simpa using h1, h2⟩
  | [], us, k, v, h, hk => by simp at hk
  | _ :: _, [], k, v, h, hk => h.elim

/-- A FUNCTION: what its code does is what it does. -/
theorem fn_ok {tt : Types} (ht : TabOk P tt) {S : Tab} (hS : TabFs P S) (hm : P.follows .mixedOrders = true) {L : Loops} {f : Nat} {fn : Func} (hf : P.funcs[f]? = some fn) {args : List SV} {LL HH : List Ent} {R : SV} (hform : Form LL HH)
    (h : fnVC tt S L fn args LL fun r h => r = R ∧ h = HH) : FSem P f args LL R HH := by
  obtain ⟨f1, f2, f3, f4⟩ := hform.spec
  refine ⟨f1, f2, f3, f4, ?_⟩
  intro wr env w us hh hnew hc
  unfold fnVC at h
  split at h
  case h_2 => exact h.elim
  rename_i c hb
  split at h
  case h_2 => exact h.elim
  rename_i hchk
  simp only [Bool.and_eq_true] at hchk
  refine calls_of_wp hf hb ?_
  have hblk : (St.blk ⟨startT args 0, number LL 0⟩) = ofL LL := shape_blk [] ([], LL)
  have hat : At fn.ntmps wr w LL.length env (St.slot ⟨startT args 0, number LL 0⟩) (St.blk ⟨startT args 0, number LL 0⟩) { tmps := us.toArray ++ Array.replicate (fn.ntmps - us.toArray.size) undef, defers := [] } w := by
    rw [hblk]
    refine ⟨env, ⟨rfl, by simp; omega, ?_, hh, .refl _ _, hnew⟩, ?_⟩
    · intro d
      have hl := startT_look (vs := args) (i := 0) (k := d)
      rw [Nat.zero_add] at hl
      simp only [St.slot, hl]
      cases hd : args[d]? with
      | none => simp [conc, conc2, concC]
      | some v =>
        obtain ⟨u, h1, h2⟩ := conc2s_at hc hd
        simp only
        rw [Array.getD_eq_getD_getElem?, Array.getElem?_append_left (by simpa using (List.getElem?_eq_some_iff.1 h1).1)]
        simp only [List.getElem?_toArray, h1, Option.getD_some]
        exact conc_of_conc2 h2
    · intro j hj
      exact ⟨rfl, LL[j], List.getElem?_eq_getElem hj⟩
  refine evP_ok ht hS hm hchk.1 h hat ?_
  intro e s a w' hK hat'
  have fin : finish tt fn LL.length s (fun r h => r = R ∧ h = HH) → a.defers = [] ∧ ∃ v, (results fn a.tmps).run P w' = .ok v w' ∧
      ∃ v' env', Ending.returned v = .returned v' ∧ (∀ j, j < LL.length → env' j = env j) ∧ HRel wr env' (ofL HH) w' ∧ conc env' (ofL HH) R v' ∧ Fr wr w w' := by
    intro hfin
    obtain ⟨r, h', ⟨rfl, rfl⟩, v, env', q1, q2, q3, q4⟩ := finish_ok (P := P) ht hfin hat'
    obtain ⟨env1, hr, _⟩ := hat'
    exact ⟨hr.defers, v, q1, v, env', rfl, q2, q3, q4, hr.fr⟩
  cases e with
  | normal => exact fin hK
  | ret => exact fin hK
  | exit i => exact hK.elim

end

end Go.Proofs.Ytmflfpedmbfhkaa.Sym
