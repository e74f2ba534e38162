/-
  Bodies pushed and moved, one and all.
  No condition.
-/
import Derived.Test.YtdhbkcaaijgocaaT2
namespace Go.Proofs.Ytdhbkcaaijgocaa.Sym
open Go
set_option linter.unusedVariables false
set_option linter.unusedSimpArgs false
set_option maxRecDepth 100000

/-- A body driven by so much more. -/
def pushB (b : Body) (p : Vec) : Body :=
  if b.Mass = 0 then b else { b with Drive := ⟨withinI (W (b.Drive.X + p.X)) 20000000, withinI (W (b.Drive.Y + p.Y)) 20000000⟩, Quiet := 0 }
/-- A body moved by a way. -/
def moveB (b : Body) (w : Vec) : Body :=
  { b with
    At := ⟨withinI (W (b.At.X + w.X)) 2560000, withinI (W (b.At.Y + w.Y)) 2560000⟩,
    Drive := ⟨if withinI (W (b.At.X + w.X)) 2560000 = W (b.At.X + w.X) then b.Drive.X else 0, if withinI (W (b.At.Y + w.Y)) 2560000 = W (b.At.Y + w.Y) then b.Drive.Y else 0⟩ }
/-- The same shape, mass, bounce, rub, number. -/
def kin (a b : Body) : Prop := a.Id = b.Id ∧ a.Shape = b.Shape ∧ a.Mass = b.Mass ∧ a.Bounce = b.Bounce ∧ a.Rub = b.Rub
theorem kin_refl (a : Body) : kin a a := ⟨rfl, rfl, rfl, rfl, rfl⟩
theorem kin_push (b : Body) (p : Vec) : kin b (pushB b p) := by
  unfold pushB
  split <;> exact ⟨rfl, rfl, rfl, rfl, rfl⟩
theorem kin_move (b : Body) (w : Vec) : kin b (moveB b w) := ⟨rfl, rfl, rfl, rfl, rfl⟩
theorem kin_trans {a b c : Body} (h : kin a b) (k : kin b c) : kin a c :=
  ⟨h.1.trans k.1, h.2.1.trans k.2.1, h.2.2.1.trans k.2.2.1, h.2.2.2.1.trans k.2.2.2.1, h.2.2.2.2.trans k.2.2.2.2⟩
theorem kin_pok {a b : Body} (h : kin a b) (k : POk a) : POk b := by
  obtain ⟨h1, h2, h3, h4, h5⟩ := h
  exact ⟨h3 ▸ k.m0, h3 ▸ k.m1, h4 ▸ k.b0, h4 ▸ k.b1, h5 ▸ k.r0, h5 ▸ k.r1⟩
/-- Two lists of bodies, each the other's kin. -/
def Kin (xs ys : List Body) : Prop := xs.length = ys.length ∧ ∀ k, k < xs.length → kin (Ty.ix .body xs k) (Ty.ix .body ys k)
theorem Kin.refl (xs : List Body) : Kin xs xs := ⟨rfl, fun _ _ => kin_refl _⟩
theorem Kin.trans {xs ys zs : List Body} (h : Kin xs ys) (k : Kin ys zs) : Kin xs zs :=
  ⟨h.1.trans k.1, fun j hj => kin_trans (h.2 j hj) (k.2 j (h.1 ▸ hj))⟩
theorem Kin.set {xs : List Body} {k : Nat} {b : Body} (h : kin (Ty.ix .body xs k) b) : Kin xs (xs.set k b) := by
  refine ⟨by simp, fun j hj => ?_⟩
  by_cases e : k = j
  · subst e
    rw [ix_set_self (T := .body) hj]
    exact h
  · rw [ix_set_ne (T := .body) e]
    exact kin_refl _
/-- All may push. -/
def AllP (xs : List Body) : Prop := ∀ k, k < xs.length → POk (Ty.ix .body xs k)
theorem allP_kin {xs ys : List Body} (h : Kin xs ys) (k : AllP xs) : AllP ys := fun j hj => kin_pok (h.2 j (h.1 ▸ hj)) (k j (h.1 ▸ hj))
theorem allP_ok {xs : List Body} (h : bodiesOk xs = true) : AllP xs := fun k hk => pok_of (bodiesOk_each h hk)
def zeroV2 (p : Vec) : Bool := p.X == 0 && p.Y == 0
def bearsF (b : Body) (p : Vec) : Bool := b.Mass == 0 || driveOk (plus b.Drive p)
def oppV (p : Vec) : Vec := ⟨W (0 - p.X), W (0 - p.Y)⟩
/-- Two bodies of a list pushed by a contact. -/
def pushOne (xs : List Body) (c : Contact) (z : Bool) : List Body :=
  let a := Ty.ix .body xs c.A.toNat
  let b := Ty.ix .body xs c.B.toNat
  let p := pushV a b c.Hit z
  if (!zeroV2 p && bearsF a (oppV p) && bearsF b p) = true then (xs.set c.A.toNat (pushB a (oppV p))).set c.B.toNat (pushB b p) else xs
theorem kin_pushOne {xs : List Body} {c : Contact} {z : Bool} (hne : c.A.toNat ≠ c.B.toNat) : Kin xs (pushOne xs c z) := by
  unfold pushOne
  dsimp only
  split
  · refine (Kin.set (k := c.A.toNat) (kin_push _ _)).trans (Kin.set ?_)
    rw [ix_set_ne (T := .body) hne]
    exact kin_push _ _
  · exact .refl _
@[simp] theorem length_pushOne (xs : List Body) (c : Contact) (z : Bool) : (pushOne xs c z).length = xs.length := by
  unfold pushOne
  dsimp only
  split <;> simp
def pushRound (xs : List Body) (z : Bool) : List Contact → List Body
  | [] => xs
  | c :: r => pushRound (pushOne xs c z) z r
/-- Contacts of bodies that there are. -/
def ctOk (n : Nat) (c : Contact) : Prop := 0 ≤ c.A ∧ c.A < n ∧ 0 ≤ c.B ∧ c.B < n ∧ c.A ≠ c.B
theorem kin_pushRound : ∀ {cs : List Contact} {xs : List Body} {z : Bool}, (∀ c, c ∈ cs → ctOk xs.length c) → Kin xs (pushRound xs z cs)
  | [], xs, z, _ => .refl _
  | c :: r, xs, z, h => by
    have hc := h c List.mem_cons_self
    have k := kin_pushOne (xs := xs) (c := c) (z := z) (by obtain ⟨h1, h2, h3, h4, h5⟩ := hc; omega)
    exact k.trans (kin_pushRound fun d hd => by rw [← k.1]; exact h d (List.mem_cons_of_mem _ hd))
def pushAllF (xs : List Body) (cs : List Contact) : List Body := pushRound (pushRound (pushRound (pushRound xs true cs) false cs) false cs) false cs
theorem kin_pushAllF {cs : List Contact} {xs : List Body} (h : ∀ c, c ∈ cs → ctOk xs.length c) : Kin xs (pushAllF xs cs) := by
  have k1 := kin_pushRound (z := true) h
  have k2 := kin_pushRound (xs := pushRound xs true cs) (z := false) (cs := cs) (by rw [← k1.1]; exact h)
  have k3 := kin_pushRound (xs := pushRound (pushRound xs true cs) false cs) (z := false) (cs := cs) (by rw [← k2.1, ← k1.1]; exact h)
  have k4 := kin_pushRound (xs := pushRound (pushRound (pushRound xs true cs) false cs) false cs) (z := false) (cs := cs) (by rw [← k3.1, ← k2.1, ← k1.1]; exact h)
  exact ((k1.trans k2).trans k3).trans k4
@[simp] theorem length_pushRound (z : Bool) : ∀ (cs : List Contact) (xs : List Body), (pushRound xs z cs).length = xs.length
  | [], xs => rfl
  | c :: r, xs => (length_pushRound z r (pushOne xs c z)).trans (length_pushOne xs c z)
@[simp] theorem length_pushAllF (xs : List Body) (cs : List Contact) : (pushAllF xs cs).length = xs.length := by simp [pushAllF]
/-- With so many rounds to go. -/
def pushRest (cs : List Contact) : Nat → List Body → List Body
  | 0, xs => xs
  | m + 1, xs => pushRest cs m (pushRound xs (m == 3) cs)
theorem pushRest_all (xs : List Body) (cs : List Contact) : pushRest cs 4 xs = pushAllF xs cs := by
  unfold pushAllF
  rw [pushRest, pushRest, pushRest, pushRest, pushRest]
  have e1 : ((3 : Nat) == 3) = true := by decide
  have e2 : ((2 : Nat) == 3) = false := by decide
  have e3 : ((1 : Nat) == 3) = false := by decide
  have e4 : ((0 : Nat) == 3) = false := by decide
  rw [e1, e2, e3, e4]
theorem pushRest_at {cs : List Contact} {j : Int} (h0 : 0 ≤ j) (h1 : j < 4) (xs : List Body) : pushRest cs (4 - j).toNat xs = pushRest cs (4 - (j + 1)).toNat (pushRound xs (j == 0) cs) := by
  have e : (4 - j).toNat = (4 - (j + 1)).toNat + 1 := by omega
  rw [e, pushRest]
  congr 2
  rw [Bool.eq_iff_iff]
  simp only [beq_iff_eq]
  omega
/-- Contacts that may be. -/
def CtsOk (n : Nat) (cs : List Contact) : Prop := cs.length ≤ 144 ∧ ∀ k, k < cs.length → ctOk n (Ty.ix .contact cs k)
theorem ctsOk_mem {n : Nat} {cs : List Contact} (h : CtsOk n cs) : ∀ c, c ∈ cs → ctOk n c := by
  intro c hc
  obtain ⟨k, hk, e⟩ := List.getElem_of_mem hc
  have := h.2 k hk
  subst e
  rwa [ix_eq (T := .contact) (List.getElem?_eq_getElem hk)] at this
theorem ct_ne {n : Nat} {c : Contact} (h : ctOk n c) : c.A.toNat ≠ c.B.toNat := by
  obtain ⟨h1, h2, h3, h4, h5⟩ := h
  omega
/-! ### Apart -/
def shareF (a b : Body) (n : Int) : Int := if a.Mass = 0 then 0 else if b.Mass = 0 then n else W ((W (n * b.Mass)).tdiv (W (a.Mass + b.Mass)))
def apartOne (xs : List Body) (c : Contact) : List Body :=
  let n := W ((W (c.Hit.Deep - 64)).tdiv 4)
  let a := Ty.ix .body xs c.A.toNat
  let b := Ty.ix .body xs c.B.toNat
  if n ≤ 0 then xs else
    let ys := if a.Mass = 0 then xs else xs.set c.A.toNat (moveB a (scaled (oppV c.Hit.Way) (shareF a b n)))
    if b.Mass = 0 then ys else ys.set c.B.toNat (moveB b (scaled c.Hit.Way (shareF b a n)))
@[simp] theorem length_apartOne (xs : List Body) (c : Contact) : (apartOne xs c).length = xs.length := by
  unfold apartOne
  dsimp only
  repeat' split
  all_goals simp
theorem kin_apartOne {xs : List Body} {c : Contact} (hne : c.A.toNat ≠ c.B.toNat) : Kin xs (apartOne xs c) := by
  unfold apartOne
  dsimp only
  split
  · exact .refl _
  · have k1 : Kin xs (if (Ty.ix .body xs c.A.toNat).Mass = 0 then xs else xs.set c.A.toNat (moveB (Ty.ix .body xs c.A.toNat) (scaled (oppV c.Hit.Way) (shareF (Ty.ix .body xs c.A.toNat) (Ty.ix .body xs c.B.toNat) (W ((W (c.Hit.Deep - 64)).tdiv 4)))))) := by
      split
      · exact .refl _
      · exact Kin.set (kin_move _ _)
    split
    · exact k1
    · refine k1.trans (Kin.set ?_)
      split
      · exact kin_move _ _
      · rw [ix_set_ne (T := .body) hne]
        exact kin_move _ _
def apartF (xs : List Body) : List Contact → List Body
  | [] => xs
  | c :: r => apartF (apartOne xs c) r
@[simp] theorem length_apartF : ∀ (cs : List Contact) (xs : List Body), (apartF xs cs).length = xs.length
  | [], xs => rfl
  | c :: r, xs => (length_apartF r (apartOne xs c)).trans (length_apartOne xs c)
theorem kin_apartF : ∀ {cs : List Contact} {xs : List Body}, (∀ c, c ∈ cs → ctOk xs.length c) → Kin xs (apartF xs cs)
  | [], xs, _ => .refl _
  | c :: r, xs, h => by
    have hc := h c List.mem_cons_self
    have k := kin_apartOne (xs := xs) (c := c) (by obtain ⟨h1, h2, h3, h4, h5⟩ := hc; omega)
    exact k.trans (kin_apartF fun d hd => by rw [← k.1]; exact h d (List.mem_cons_of_mem _ hd))
end Go.Proofs.Ytdhbkcaaijgocaa.Sym
