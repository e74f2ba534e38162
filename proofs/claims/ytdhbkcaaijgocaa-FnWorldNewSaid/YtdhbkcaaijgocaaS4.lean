/-
  A step, as the program does it.
  No condition.
-/
import Derived.Test.YtdhbkcaaijgocaaS3
import Derived.Test.YtdhbkcaaijgocaaP4
namespace Go.Proofs.Ytdhbkcaaijgocaa.Sym
open Go
set_option linter.unusedVariables false
set_option linter.unusedSimpArgs false
set_option maxRecDepth 100000
noncomputable section

def mapX (f : Nat → Body → Body) (xs : List Body) : List Body := gen (fun i => f i (Ty.ix .body xs i)) xs.length
@[simp] theorem length_mapX (f : Nat → Body → Body) (xs : List Body) : (mapX f xs).length = xs.length := by simp [mapX]
def wakeS (gs : List Int) (ws : List Bool) (i : Nat) (b : Body) : Body := bif b.Quiet == 8 && Ty.ix .bool ws (gi gs i).toNat then { b with Quiet := 0 } else b
def pullS (pull : Int) (_ : Nat) (b : Body) : Body := bif moves b then { b with Drive := ⟨b.Drive.X, max (W (b.Drive.Y - W (pull * b.Mass))) (-20000000)⟩ } else b
def liveF (xs : List Body) (cs : List Contact) : List Contact := cs.filter fun c => moves (Ty.ix .body xs c.A.toNat) || moves (Ty.ix .body xs c.B.toNat)
def goS (_ : Nat) (b : Body) : Body := bif moves b then moveB b (speed b) else b
def quietS (was : List Body) (i : Nat) (b : Body) : Body := bif moves b then { b with Quiet := bif isIn (speed b).X (-8) 8 && isIn (speed b).Y (-8) 8 then min (W ((Ty.ix .body was i).Quiet + 1)) 7 else 0 } else b
/-- A step of bodies that are well. -/
def stepF (xs : List Body) (pull : Int) : List Body :=
  let woken := mapX (wakeS (groupsX xs) (awkF xs xs.length)) xs
  let pulled := mapX (pullS pull) woken
  let live := liveF pulled (contactsF xs)
  settleF (groupsX xs) 0 (awkF xs xs.length) (mapX (quietS woken) (apartF (mapX goS (pushAllF pulled live)) live))
def stepOf (xs : List Body) (pull : Int) : List Body := bif bodiesOk xs && isIn pull 0 2560 then stepF xs pull else []
theorem fill_ix {f : Nat → Body} {xs ys : List Body} {i : Nat} (h : ys = fill f xs i) (hi : i < xs.length) : ys.length = xs.length ∧ Ty.ix .body ys i = Ty.ix .body xs i := by
  subst h
  exact ⟨length_fill _ _ (by omega), ix_fill3 (T := .body) _ _ hi⟩
theorem fill_go {f : Nat → Body} {xs ys : List Body} {i : Nat} (h : ys = fill f xs i) (hi : i < xs.length) {b : Body} (hb : b = f i) : ys.set i b = fill f xs (i + 1) := by
  subst h hb
  exact fill_step f xs hi
theorem fill_stay {f : Nat → Body} {xs ys : List Body} {i : Nat} (h : ys = fill f xs i) (hi : i < xs.length) (q : f i = Ty.ix .body xs i) : ys = fill f xs (i + 1) := by
  have hf := fill_ix h hi
  have := fill_go h hi (b := Ty.ix .body ys i) (by rw [q]; exact hf.2)
  rw [← this]
  exact (set_ix (T := .body) ys (by omega)).symm
theorem fill_map {f : Nat → Body → Body} {xs ys : List Body} {i : Nat} (h : ys = fill (fun e => f e (Ty.ix .body xs e)) xs i) (hi : i = xs.length) : ys = mapX f xs := by
  rw [h, fill_end _ _ hi]
  rfl
theorem groups_in {xs : List Body} (hok : bodiesOk xs = true) {i : Nat} (hi : i < xs.length) (hq : ((Ty.ix .body xs i).Quiet == 8) = true) : freeB xs i = true := by
  have h1 := bodiesOk_each hok hi
  have hq := eq_of_beq hq
  simp only [bodyOk, Bool.and_eq_true] at h1
  unfold freeB
  cases q : (Ty.ix .body xs i).Mass == 0 with
  | false => rfl
  | true =>
    exfalso
    have h2 := h1.2
    rw [if_pos (eq_of_beq q), hq] at h2
    simp at h2
theorem kin_mapX {f : Nat → Body → Body} (hf : ∀ i b, kin b (f i b)) (xs : List Body) : Kin xs (mapX f xs) := by
  refine ⟨(length_mapX f xs).symm, fun k hk => ?_⟩
  rw [show Ty.ix .body (mapX f xs) k = f k (Ty.ix .body xs k) from ix_gen (T := .body) hk]
  exact hf _ _
theorem kin_wakeS (gs : List Int) (ws : List Bool) (i : Nat) (b : Body) : kin b (wakeS gs ws i b) := by
  unfold wakeS
  cases b.Quiet == 8 && Ty.ix .bool ws (gi gs i).toNat <;> exact ⟨rfl, rfl, rfl, rfl, rfl⟩
theorem kin_pullS (pull : Int) (i : Nat) (b : Body) : kin b (pullS pull i b) := by
  unfold pullS
  cases moves b <;> exact ⟨rfl, rfl, rfl, rfl, rfl⟩
theorem kin_goS (i : Nat) (b : Body) : kin b (goS i b) := by
  unfold goS
  cases moves b
  · exact kin_refl _
  · exact kin_move _ _
theorem liveF_drop {xs : List Body} {cs : List Contact} {i : Nat} (h : i < cs.length) : liveF xs (cs.drop i) = (bif moves (Ty.ix .body xs (Ty.ix .contact cs i).A.toNat) || moves (Ty.ix .body xs (Ty.ix .contact cs i).B.toNat) then [Ty.ix .contact cs i] else []) ++ liveF xs (cs.drop (i + 1)) := by
  unfold liveF
  rw [drop_ix (T := .contact) h, List.filter_cons]
  cases moves (Ty.ix .body xs (Ty.ix .contact cs i).A.toNat) || moves (Ty.ix .body xs (Ty.ix .contact cs i).B.toNat) <;> simp
theorem live_ok {xs zs : List Body} (h : xs.length ≤ 12) : CtsOk xs.length (liveF zs (contactsF xs)) := by
  have h1 := length_contactsF h
  have h2 : (liveF zs (contactsF xs)).length ≤ (contactsF xs).length := List.length_filter_le _ _
  refine ⟨by omega, fun k hk => ?_⟩
  have hm : Ty.ix .contact (liveF zs (contactsF xs)) k ∈ liveF zs (contactsF xs) := List.mem_of_getElem? (ix_get (T := .contact) hk)
  obtain ⟨a, b, q1, q2, q3, _⟩ := mem_contactsF (List.mem_filter.1 hm).1
  rw [q3]
  refine ⟨?_, ?_, ?_, ?_, ?_⟩ <;> dsimp only <;> omega
def LSst1  : LS where
  S := List Body × Unit × Int × List Body × List Int × List Bool × Int × Int
  live := [(0, [none]), (1, [none]), (5, [some .body]), (6, [some .int]), (7, [some .bool]), (35, [none]), (36, [none])]
  shape := fun s => ([.vec 0, .int .i64 s.2.2.1, .vec 1, .vec 2, .vec 3, .int .i64 s.2.2.2.2.2.2.1, .int .i64 s.2.2.2.2.2.2.2], [(false, .vec .body s.1), (true, .vec .body s.2.2.2.1), (true, .vec .int s.2.2.2.2.1), (true, .vec .bool s.2.2.2.2.2.1)])
  get := fun v h => match v, h with
    | [.vec 0, .int .i64 pull, .vec 1, .vec 2, .vec 3, .int .i64 n, .int .i64 i], [(false, .vec .body xs), (true, .vec .body ys), (true, .vec .int gs), (true, .vec .bool ws)] => some (xs, (), pull, ys, gs, ws, n, i)
    | _, _ => none
  inv := fun s0 s => Holds (s.1 = s0.1 ∧ s.2.2.1 = s0.2.2.1 ∧ s.2.2.2.2.1 = s0.2.2.2.2.1 ∧ s.2.2.2.2.2.1 = s0.2.2.2.2.2.1 ∧ s.2.2.2.2.2.2.1 = s0.2.2.2.1.length ∧ 0 ≤ s.2.2.2.2.2.2.2 ∧ s.2.2.2.2.2.2.2 ≤ s0.2.2.2.1.length ∧ s.2.2.2.1 = fill (fun e => wakeS s0.2.2.2.2.1 s0.2.2.2.2.2.1 e (Ty.ix .body s0.2.2.2.1 e)) s0.2.2.2.1 s.2.2.2.2.2.2.2.toNat)
  mu := fun s => (s.2.2.2.2.2.2.1 - s.2.2.2.2.2.2.2).toNat
  ok := by
    intro v h s hg
    try dsimp only at hg
    split at hg <;> cases hg
    rfl

def LSst2  : LS where
  S := List Body × Unit × Int × List Body × List Int × List Bool × List Body × Int × Int
  live := [(0, [none]), (1, [none]), (5, [some .body]), (6, [some .int]), (7, [some .bool]), (10, [some .body]), (62, [none]), (63, [none])]
  shape := fun s => ([.vec 0, .int .i64 s.2.2.1, .vec 1, .vec 2, .vec 3, .vec 4, .int .i64 s.2.2.2.2.2.2.2.1, .int .i64 s.2.2.2.2.2.2.2.2], [(false, .vec .body s.1), (true, .vec .body s.2.2.2.1), (true, .vec .int s.2.2.2.2.1), (true, .vec .bool s.2.2.2.2.2.1), (true, .vec .body s.2.2.2.2.2.2.1)])
  get := fun v h => match v, h with
    | [.vec 0, .int .i64 pull, .vec 1, .vec 2, .vec 3, .vec 4, .int .i64 n, .int .i64 i], [(false, .vec .body xs), (true, .vec .body ys), (true, .vec .int gs), (true, .vec .bool ws), (true, .vec .body was)] => some (xs, (), pull, ys, gs, ws, was, n, i)
    | _, _ => none
  inv := fun s0 s => Holds (s.1 = s0.1 ∧ s.2.2.1 = s0.2.2.1 ∧ s.2.2.2.2.1 = s0.2.2.2.2.1 ∧ s.2.2.2.2.2.1 = s0.2.2.2.2.2.1 ∧ s.2.2.2.2.2.2.1 = s0.2.2.2.2.2.2.1 ∧ s.2.2.2.2.2.2.2.1 = s0.2.2.2.1.length ∧ 0 ≤ s.2.2.2.2.2.2.2.2 ∧ s.2.2.2.2.2.2.2.2 ≤ s0.2.2.2.1.length ∧ s.2.2.2.1 = fill (fun e => pullS s0.2.2.1 e (Ty.ix .body s0.2.2.2.1 e)) s0.2.2.2.1 s.2.2.2.2.2.2.2.2.toNat)
  mu := fun s => (s.2.2.2.2.2.2.2.1 - s.2.2.2.2.2.2.2.2).toNat
  ok := by
    intro v h s hg
    try dsimp only at hg
    split at hg <;> cases hg
    rfl

def LSst3  : LS where
  S := List Body × List Body × List Int × List Bool × List Body × List Contact × List Contact × Int × Int
  live := [(5, [some .body]), (6, [some .int]), (7, [some .bool]), (10, [some .body]), (13, [some .contact]), (92, [some .contact]), (93, [none]), (94, [none])]
  shape := fun s => ([.vec 1, .vec 2, .vec 3, .vec 4, .vec 5, .vec 6, .int .i64 s.2.2.2.2.2.2.2.1, .int .i64 s.2.2.2.2.2.2.2.2], [(false, .vec .body s.1), (true, .vec .body s.2.1), (true, .vec .int s.2.2.1), (true, .vec .bool s.2.2.2.1), (true, .vec .body s.2.2.2.2.1), (true, .vec .contact s.2.2.2.2.2.1), (true, .vec .contact s.2.2.2.2.2.2.1)])
  get := fun v h => match v, h with
    | [.vec 1, .vec 2, .vec 3, .vec 4, .vec 5, .vec 6, .int .i64 n, .int .i64 i], [(false, .vec .body xs), (true, .vec .body ys), (true, .vec .int gs), (true, .vec .bool ws), (true, .vec .body was), (true, .vec .contact live), (true, .vec .contact cs)] => some (xs, ys, gs, ws, was, live, cs, n, i)
    | _, _ => none
  inv := fun s0 s => Holds (s.1 = s0.1 ∧ s.2.1 = s0.2.1 ∧ s.2.2.1 = s0.2.2.1 ∧ s.2.2.2.1 = s0.2.2.2.1 ∧ s.2.2.2.2.1 = s0.2.2.2.2.1 ∧ s.2.2.2.2.2.2.1 = s0.2.2.2.2.2.2.1 ∧ s.2.2.2.2.2.2.2.1 = s0.2.2.2.2.2.2.1.length ∧ 0 ≤ s.2.2.2.2.2.2.2.2 ∧ s.2.2.2.2.2.2.2.2 ≤ s0.2.2.2.2.2.2.1.length ∧ s.2.2.2.2.2.1 ++ liveF s0.2.1 (s0.2.2.2.2.2.2.1.drop s.2.2.2.2.2.2.2.2.toNat) = liveF s0.2.1 s0.2.2.2.2.2.2.1)
  mu := fun s => (s.2.2.2.2.2.2.2.1 - s.2.2.2.2.2.2.2.2).toNat
  ok := by
    intro v h s hg
    try dsimp only at hg
    split at hg <;> cases hg
    rfl

def LSst4  : LS where
  S := List Body × List Body × List Int × List Bool × List Body × List Contact × Int × Int
  live := [(5, [some .body]), (6, [some .int]), (7, [some .bool]), (10, [some .body]), (13, [some .contact]), (121, [none]), (122, [none])]
  shape := fun s => ([.vec 1, .vec 2, .vec 3, .vec 4, .vec 5, .int .i64 s.2.2.2.2.2.2.1, .int .i64 s.2.2.2.2.2.2.2], [(false, .vec .body s.1), (true, .vec .body s.2.1), (true, .vec .int s.2.2.1), (true, .vec .bool s.2.2.2.1), (true, .vec .body s.2.2.2.2.1), (true, .vec .contact s.2.2.2.2.2.1)])
  get := fun v h => match v, h with
    | [.vec 1, .vec 2, .vec 3, .vec 4, .vec 5, .int .i64 n, .int .i64 i], [(false, .vec .body xs), (true, .vec .body ys), (true, .vec .int gs), (true, .vec .bool ws), (true, .vec .body was), (true, .vec .contact live)] => some (xs, ys, gs, ws, was, live, n, i)
    | _, _ => none
  inv := fun s0 s => Holds (s.1 = s0.1 ∧ s.2.2.1 = s0.2.2.1 ∧ s.2.2.2.1 = s0.2.2.2.1 ∧ s.2.2.2.2.1 = s0.2.2.2.2.1 ∧ s.2.2.2.2.2.1 = s0.2.2.2.2.2.1 ∧ s.2.2.2.2.2.2.1 = s0.2.1.length ∧ 0 ≤ s.2.2.2.2.2.2.2 ∧ s.2.2.2.2.2.2.2 ≤ s0.2.1.length ∧ s.2.1 = fill (fun e => goS e (Ty.ix .body s0.2.1 e)) s0.2.1 s.2.2.2.2.2.2.2.toNat)
  mu := fun s => (s.2.2.2.2.2.2.1 - s.2.2.2.2.2.2.2).toNat
  ok := by
    intro v h s hg
    try dsimp only at hg
    split at hg <;> cases hg
    rfl

def LSst5  : LS where
  S := List Body × List Body × List Int × List Bool × List Body × Int × Int
  live := [(5, [some .body]), (6, [some .int]), (7, [some .bool]), (10, [some .body]), (143, [none]), (144, [none])]
  shape := fun s => ([.vec 1, .vec 2, .vec 3, .vec 4, .int .i64 s.2.2.2.2.2.1, .int .i64 s.2.2.2.2.2.2], [(false, .vec .body s.1), (true, .vec .body s.2.1), (true, .vec .int s.2.2.1), (true, .vec .bool s.2.2.2.1), (true, .vec .body s.2.2.2.2.1)])
  get := fun v h => match v, h with
    | [.vec 1, .vec 2, .vec 3, .vec 4, .int .i64 n, .int .i64 i], [(false, .vec .body xs), (true, .vec .body ys), (true, .vec .int gs), (true, .vec .bool ws), (true, .vec .body was)] => some (xs, ys, gs, ws, was, n, i)
    | _, _ => none
  inv := fun s0 s => Holds (s.1 = s0.1 ∧ s.2.2.1 = s0.2.2.1 ∧ s.2.2.2.1 = s0.2.2.2.1 ∧ s.2.2.2.2.1 = s0.2.2.2.2.1 ∧ s.2.2.2.2.2.1 = s0.2.1.length ∧ 0 ≤ s.2.2.2.2.2.2 ∧ s.2.2.2.2.2.2 ≤ s0.2.1.length ∧ s.2.1 = fill (fun e => quietS s0.2.2.2.2.1 e (Ty.ix .body s0.2.1 e)) s0.2.1 s.2.2.2.2.2.2.toNat)
  mu := fun s => (s.2.2.2.2.2.1 - s.2.2.2.2.2.2).toNat
  ok := by
    intro v h s hg
    try dsimp only at hg
    split at hg <;> cases hg
    rfl

def L_step : Loops := fun n => match n with
  | 6 => some LSst1
  | 14 => some LSst2
  | 22 => some LSst3
  | 29 => some LSst4
  | 37 => some LSst5
  | _ => none
noncomputable def fs_implStep : Fs := ⟨[], fun args H => match args, H with
  | [.vec 0, .int .i64 pull], [(false, .vec .body xs)] => some ((some (xs.length ≤ 1048576)), .vec 1, [(false, .vec .body xs), (true, .vec .body (stepOf xs pull))])
  | _, _ => none⟩

theorem vc_implStep (xs : List Body) (pull : Int) (Q : SV → List Ent → Prop) :
    fnVC tt (look [(20, fs_implBodiesOk), (12, fs_in_), (23, fs_cloneBodies), (25, fs_implGroups), (26, fs_implAwake), (27, fs_bodySleeps), (28, fs_implMoves), (29, fs_implContacts), (30, fs_implAll), (32, fs_implSpeed), (31, fs_implMoveB), (33, fs_implApartF), (34, fs_implQuiet), (35, fs_implSettle)]) (L_step) Try.f14 [.vec 0, .int .i64 pull] [(false, .vec .body xs)] Q =
    (let A1_ := (↑(List.length xs) : Int); List.length xs ≤ (4611686018427387904 : Nat) ∧ ifB (!bodiesOk xs) (Q (SV.vec (1 : Nat)) [(false, Blk.vec Ty.body xs), (true, Blk.vec Ty.body [])]) (ifB (!isIn pull (0 : Int) (2560 : Int)) (Q (SV.vec (1 : Nat)) [(false, Blk.vec Ty.body xs), (true, Blk.vec Ty.body [])]) (List.length xs ≤ (1048576 : Nat) ∧ List.length xs ≤ (1048576 : Nat) ∧ List.length xs ≤ (1048576 : Nat) ∧ Holds (xs = xs ∧ pull = pull ∧ groupsOf xs = groupsOf xs ∧ awakeOf xs = awakeOf xs ∧ A1_ = A1_ ∧ (0 : Int) ≤ (0 : Int) ∧ (0 : Int) ≤ A1_ ∧ xs = fill (fun e => wakeS (groupsOf xs) (awakeOf xs) e (Ty.ix Ty.body xs e)) xs (Int.toNat (0 : Int))) ∧ ∀ (x : List Body × Unit × Int × List Body × List Int × List Bool × Int × Int), Holds (Prod.fst x = xs ∧ Prod.fst (Prod.snd (Prod.snd x)) = pull ∧ Prod.fst (Prod.snd (Prod.snd (Prod.snd (Prod.snd x)))) = groupsOf xs ∧ Prod.fst (Prod.snd (Prod.snd (Prod.snd (Prod.snd (Prod.snd x))))) = awakeOf xs ∧ Prod.fst (Prod.snd (Prod.snd (Prod.snd (Prod.snd (Prod.snd (Prod.snd x)))))) = A1_ ∧ (0 : Int) ≤ Prod.snd (Prod.snd (Prod.snd (Prod.snd (Prod.snd (Prod.snd (Prod.snd x)))))) ∧ Prod.snd (Prod.snd (Prod.snd (Prod.snd (Prod.snd (Prod.snd (Prod.snd x)))))) ≤ A1_ ∧ Prod.fst (Prod.snd (Prod.snd (Prod.snd x))) = fill (fun e => wakeS (groupsOf xs) (awakeOf xs) e (Ty.ix Ty.body xs e)) xs (Int.toNat (Prod.snd (Prod.snd (Prod.snd (Prod.snd (Prod.snd (Prod.snd (Prod.snd x))))))))) → ifB (decide (Prod.snd (Prod.snd (Prod.snd (Prod.snd (Prod.snd (Prod.snd (Prod.snd x)))))) < Prod.fst (Prod.snd (Prod.snd (Prod.snd (Prod.snd (Prod.snd (Prod.snd x)))))))) (((0 : Int) ≤ Prod.snd (Prod.snd (Prod.snd (Prod.snd (Prod.snd (Prod.snd (Prod.snd x)))))) ∧ Prod.snd (Prod.snd (Prod.snd (Prod.snd (Prod.snd (Prod.snd (Prod.snd x)))))) < (↑(List.length (Prod.fst (Prod.snd (Prod.snd (Prod.snd x))))) : Int)) ∧ ifB (Body.Quiet (Ty.ix Ty.body (Prod.fst (Prod.snd (Prod.snd (Prod.snd x)))) (Int.toNat (Prod.snd (Prod.snd (Prod.snd (Prod.snd (Prod.snd (Prod.snd (Prod.snd x))))))))) == (8 : Int)) (((0 : Int) ≤ Prod.snd (Prod.snd (Prod.snd (Prod.snd (Prod.snd (Prod.snd (Prod.snd x)))))) ∧ Prod.snd (Prod.snd (Prod.snd (Prod.snd (Prod.snd (Prod.snd (Prod.snd x)))))) < (↑(List.length (Prod.fst (Prod.snd (Prod.snd (Prod.snd (Prod.snd x)))))) : Int)) ∧ ((0 : Int) ≤ Ty.ix Ty.int (Prod.fst (Prod.snd (Prod.snd (Prod.snd (Prod.snd x))))) (Int.toNat (Prod.snd (Prod.snd (Prod.snd (Prod.snd (Prod.snd (Prod.snd (Prod.snd x)))))))) ∧ Ty.ix Ty.int (Prod.fst (Prod.snd (Prod.snd (Prod.snd (Prod.snd x))))) (Int.toNat (Prod.snd (Prod.snd (Prod.snd (Prod.snd (Prod.snd (Prod.snd (Prod.snd x)))))))) < (↑(List.length (Prod.fst (Prod.snd (Prod.snd (Prod.snd (Prod.snd (Prod.snd x))))))) : Int)) ∧ ifB (Ty.ix Ty.bool (Prod.fst (Prod.snd (Prod.snd (Prod.snd (Prod.snd (Prod.snd x)))))) (Int.toNat (Ty.ix Ty.int (Prod.fst (Prod.snd (Prod.snd (Prod.snd (Prod.snd x))))) (Int.toNat (Prod.snd (Prod.snd (Prod.snd (Prod.snd (Prod.snd (Prod.snd (Prod.snd x))))))))))) (Holds (Prod.fst x = xs ∧ Prod.fst (Prod.snd (Prod.snd x)) = pull ∧ Prod.fst (Prod.snd (Prod.snd (Prod.snd (Prod.snd x)))) = groupsOf xs ∧ Prod.fst (Prod.snd (Prod.snd (Prod.snd (Prod.snd (Prod.snd x))))) = awakeOf xs ∧ Prod.fst (Prod.snd (Prod.snd (Prod.snd (Prod.snd (Prod.snd (Prod.snd x)))))) = A1_ ∧ (0 : Int) ≤ IntKind.wrap IntKind.i64 (Prod.snd (Prod.snd (Prod.snd (Prod.snd (Prod.snd (Prod.snd (Prod.snd x)))))) + (1 : Int)) ∧ IntKind.wrap IntKind.i64 (Prod.snd (Prod.snd (Prod.snd (Prod.snd (Prod.snd (Prod.snd (Prod.snd x)))))) + (1 : Int)) ≤ A1_ ∧ setC Ty.body (Prod.fst (Prod.snd (Prod.snd (Prod.snd x)))) (Int.toNat (Prod.snd (Prod.snd (Prod.snd (Prod.snd (Prod.snd (Prod.snd (Prod.snd x)))))))) ((0 : Nat) + (11 : Nat)) [SV.int IntKind.i64 (0 : Int)] = fill (fun e => wakeS (groupsOf xs) (awakeOf xs) e (Ty.ix Ty.body xs e)) xs (Int.toNat (IntKind.wrap IntKind.i64 (Prod.snd (Prod.snd (Prod.snd (Prod.snd (Prod.snd (Prod.snd (Prod.snd x)))))) + (1 : Int))))) ∧ Int.toNat (Prod.fst (Prod.snd (Prod.snd (Prod.snd (Prod.snd (Prod.snd (Prod.snd x)))))) - IntKind.wrap IntKind.i64 (Prod.snd (Prod.snd (Prod.snd (Prod.snd (Prod.snd (Prod.snd (Prod.snd x)))))) + (1 : Int))) < Int.toNat (Prod.fst (Prod.snd (Prod.snd (Prod.snd (Prod.snd (Prod.snd (Prod.snd x)))))) - Prod.snd (Prod.snd (Prod.snd (Prod.snd (Prod.snd (Prod.snd (Prod.snd x)))))))) (Holds (Prod.fst x = xs ∧ Prod.fst (Prod.snd (Prod.snd x)) = pull ∧ Prod.fst (Prod.snd (Prod.snd (Prod.snd (Prod.snd x)))) = groupsOf xs ∧ Prod.fst (Prod.snd (Prod.snd (Prod.snd (Prod.snd (Prod.snd x))))) = awakeOf xs ∧ Prod.fst (Prod.snd (Prod.snd (Prod.snd (Prod.snd (Prod.snd (Prod.snd x)))))) = A1_ ∧ (0 : Int) ≤ IntKind.wrap IntKind.i64 (Prod.snd (Prod.snd (Prod.snd (Prod.snd (Prod.snd (Prod.snd (Prod.snd x)))))) + (1 : Int)) ∧ IntKind.wrap IntKind.i64 (Prod.snd (Prod.snd (Prod.snd (Prod.snd (Prod.snd (Prod.snd (Prod.snd x)))))) + (1 : Int)) ≤ A1_ ∧ Prod.fst (Prod.snd (Prod.snd (Prod.snd x))) = fill (fun e => wakeS (groupsOf xs) (awakeOf xs) e (Ty.ix Ty.body xs e)) xs (Int.toNat (IntKind.wrap IntKind.i64 (Prod.snd (Prod.snd (Prod.snd (Prod.snd (Prod.snd (Prod.snd (Prod.snd x)))))) + (1 : Int))))) ∧ Int.toNat (Prod.fst (Prod.snd (Prod.snd (Prod.snd (Prod.snd (Prod.snd (Prod.snd x)))))) - IntKind.wrap IntKind.i64 (Prod.snd (Prod.snd (Prod.snd (Prod.snd (Prod.snd (Prod.snd (Prod.snd x)))))) + (1 : Int))) < Int.toNat (Prod.fst (Prod.snd (Prod.snd (Prod.snd (Prod.snd (Prod.snd (Prod.snd x)))))) - Prod.snd (Prod.snd (Prod.snd (Prod.snd (Prod.snd (Prod.snd (Prod.snd x))))))))) (Holds (Prod.fst x = xs ∧ Prod.fst (Prod.snd (Prod.snd x)) = pull ∧ Prod.fst (Prod.snd (Prod.snd (Prod.snd (Prod.snd x)))) = groupsOf xs ∧ Prod.fst (Prod.snd (Prod.snd (Prod.snd (Prod.snd (Prod.snd x))))) = awakeOf xs ∧ Prod.fst (Prod.snd (Prod.snd (Prod.snd (Prod.snd (Prod.snd (Prod.snd x)))))) = A1_ ∧ (0 : Int) ≤ IntKind.wrap IntKind.i64 (Prod.snd (Prod.snd (Prod.snd (Prod.snd (Prod.snd (Prod.snd (Prod.snd x)))))) + (1 : Int)) ∧ IntKind.wrap IntKind.i64 (Prod.snd (Prod.snd (Prod.snd (Prod.snd (Prod.snd (Prod.snd (Prod.snd x)))))) + (1 : Int)) ≤ A1_ ∧ Prod.fst (Prod.snd (Prod.snd (Prod.snd x))) = fill (fun e => wakeS (groupsOf xs) (awakeOf xs) e (Ty.ix Ty.body xs e)) xs (Int.toNat (IntKind.wrap IntKind.i64 (Prod.snd (Prod.snd (Prod.snd (Prod.snd (Prod.snd (Prod.snd (Prod.snd x)))))) + (1 : Int))))) ∧ Int.toNat (Prod.fst (Prod.snd (Prod.snd (Prod.snd (Prod.snd (Prod.snd (Prod.snd x)))))) - IntKind.wrap IntKind.i64 (Prod.snd (Prod.snd (Prod.snd (Prod.snd (Prod.snd (Prod.snd (Prod.snd x)))))) + (1 : Int))) < Int.toNat (Prod.fst (Prod.snd (Prod.snd (Prod.snd (Prod.snd (Prod.snd (Prod.snd x)))))) - Prod.snd (Prod.snd (Prod.snd (Prod.snd (Prod.snd (Prod.snd (Prod.snd x))))))))) (List.length (Prod.fst (Prod.snd (Prod.snd (Prod.snd x)))) ≤ (1048576 : Nat) ∧ Holds (Prod.fst x = Prod.fst x ∧ Prod.fst (Prod.snd (Prod.snd x)) = Prod.fst (Prod.snd (Prod.snd x)) ∧ Prod.fst (Prod.snd (Prod.snd (Prod.snd (Prod.snd x)))) = Prod.fst (Prod.snd (Prod.snd (Prod.snd (Prod.snd x)))) ∧ Prod.fst (Prod.snd (Prod.snd (Prod.snd (Prod.snd (Prod.snd x))))) = Prod.fst (Prod.snd (Prod.snd (Prod.snd (Prod.snd (Prod.snd x))))) ∧ Prod.fst (Prod.snd (Prod.snd (Prod.snd x))) = Prod.fst (Prod.snd (Prod.snd (Prod.snd x))) ∧ (↑(List.length (Prod.fst (Prod.snd (Prod.snd (Prod.snd x))))) : Int) = (↑(List.length (Prod.fst (Prod.snd (Prod.snd (Prod.snd x))))) : Int) ∧ (0 : Int) ≤ (0 : Int) ∧ (0 : Int) ≤ (↑(List.length (Prod.fst (Prod.snd (Prod.snd (Prod.snd x))))) : Int) ∧ Prod.fst (Prod.snd (Prod.snd (Prod.snd x))) = fill (fun e => pullS (Prod.fst (Prod.snd (Prod.snd x))) e (Ty.ix Ty.body (Prod.fst (Prod.snd (Prod.snd (Prod.snd x)))) e)) (Prod.fst (Prod.snd (Prod.snd (Prod.snd x)))) (Int.toNat (0 : Int))) ∧ ∀ (x_1 : List Body × Unit × Int × List Body × List Int × List Bool × List Body × Int × Int), Holds (Prod.fst x_1 = Prod.fst x ∧ Prod.fst (Prod.snd (Prod.snd x_1)) = Prod.fst (Prod.snd (Prod.snd x)) ∧ Prod.fst (Prod.snd (Prod.snd (Prod.snd (Prod.snd x_1)))) = Prod.fst (Prod.snd (Prod.snd (Prod.snd (Prod.snd x)))) ∧ Prod.fst (Prod.snd (Prod.snd (Prod.snd (Prod.snd (Prod.snd x_1))))) = Prod.fst (Prod.snd (Prod.snd (Prod.snd (Prod.snd (Prod.snd x))))) ∧ Prod.fst (Prod.snd (Prod.snd (Prod.snd (Prod.snd (Prod.snd (Prod.snd x_1)))))) = Prod.fst (Prod.snd (Prod.snd (Prod.snd x))) ∧ Prod.fst (Prod.snd (Prod.snd (Prod.snd (Prod.snd (Prod.snd (Prod.snd (Prod.snd x_1))))))) = (↑(List.length (Prod.fst (Prod.snd (Prod.snd (Prod.snd x))))) : Int) ∧ (0 : Int) ≤ Prod.snd (Prod.snd (Prod.snd (Prod.snd (Prod.snd (Prod.snd (Prod.snd (Prod.snd x_1))))))) ∧ Prod.snd (Prod.snd (Prod.snd (Prod.snd (Prod.snd (Prod.snd (Prod.snd (Prod.snd x_1))))))) ≤ (↑(List.length (Prod.fst (Prod.snd (Prod.snd (Prod.snd x))))) : Int) ∧ Prod.fst (Prod.snd (Prod.snd (Prod.snd x_1))) = fill (fun e => pullS (Prod.fst (Prod.snd (Prod.snd x))) e (Ty.ix Ty.body (Prod.fst (Prod.snd (Prod.snd (Prod.snd x)))) e)) (Prod.fst (Prod.snd (Prod.snd (Prod.snd x)))) (Int.toNat (Prod.snd (Prod.snd (Prod.snd (Prod.snd (Prod.snd (Prod.snd (Prod.snd (Prod.snd x_1)))))))))) → ifB (decide (Prod.snd (Prod.snd (Prod.snd (Prod.snd (Prod.snd (Prod.snd (Prod.snd (Prod.snd x_1))))))) < Prod.fst (Prod.snd (Prod.snd (Prod.snd (Prod.snd (Prod.snd (Prod.snd (Prod.snd x_1))))))))) (((0 : Int) ≤ Prod.snd (Prod.snd (Prod.snd (Prod.snd (Prod.snd (Prod.snd (Prod.snd (Prod.snd x_1))))))) ∧ Prod.snd (Prod.snd (Prod.snd (Prod.snd (Prod.snd (Prod.snd (Prod.snd (Prod.snd x_1))))))) < (↑(List.length (Prod.fst (Prod.snd (Prod.snd (Prod.snd x_1))))) : Int)) ∧ ifB (moves (Ty.ix Ty.body (Prod.fst (Prod.snd (Prod.snd (Prod.snd x_1)))) (Int.toNat (Prod.snd (Prod.snd (Prod.snd (Prod.snd (Prod.snd (Prod.snd (Prod.snd (Prod.snd x_1))))))))))) (Holds (Prod.fst x_1 = Prod.fst x ∧ Prod.fst (Prod.snd (Prod.snd x_1)) = Prod.fst (Prod.snd (Prod.snd x)) ∧ Prod.fst (Prod.snd (Prod.snd (Prod.snd (Prod.snd x_1)))) = Prod.fst (Prod.snd (Prod.snd (Prod.snd (Prod.snd x)))) ∧ Prod.fst (Prod.snd (Prod.snd (Prod.snd (Prod.snd (Prod.snd x_1))))) = Prod.fst (Prod.snd (Prod.snd (Prod.snd (Prod.snd (Prod.snd x))))) ∧ Prod.fst (Prod.snd (Prod.snd (Prod.snd (Prod.snd (Prod.snd (Prod.snd x_1)))))) = Prod.fst (Prod.snd (Prod.snd (Prod.snd x))) ∧ Prod.fst (Prod.snd (Prod.snd (Prod.snd (Prod.snd (Prod.snd (Prod.snd (Prod.snd x_1))))))) = (↑(List.length (Prod.fst (Prod.snd (Prod.snd (Prod.snd x))))) : Int) ∧ (0 : Int) ≤ IntKind.wrap IntKind.i64 (Prod.snd (Prod.snd (Prod.snd (Prod.snd (Prod.snd (Prod.snd (Prod.snd (Prod.snd x_1))))))) + (1 : Int)) ∧ IntKind.wrap IntKind.i64 (Prod.snd (Prod.snd (Prod.snd (Prod.snd (Prod.snd (Prod.snd (Prod.snd (Prod.snd x_1))))))) + (1 : Int)) ≤ (↑(List.length (Prod.fst (Prod.snd (Prod.snd (Prod.snd x))))) : Int) ∧ setC Ty.body (Prod.fst (Prod.snd (Prod.snd (Prod.snd x_1)))) (Int.toNat (Prod.snd (Prod.snd (Prod.snd (Prod.snd (Prod.snd (Prod.snd (Prod.snd (Prod.snd x_1))))))))) ((0 : Nat) + (6 : Nat) + (1 : Nat)) [SV.int IntKind.i64 (if (-20000000 : Int) > IntKind.wrap IntKind.i64 (Vec.Y (Body.Drive (Ty.ix Ty.body (Prod.fst (Prod.snd (Prod.snd (Prod.snd x_1)))) (Int.toNat (Prod.snd (Prod.snd (Prod.snd (Prod.snd (Prod.snd (Prod.snd (Prod.snd (Prod.snd x_1))))))))))) - IntKind.wrap IntKind.i64 (Prod.fst (Prod.snd (Prod.snd x_1)) * Body.Mass (Ty.ix Ty.body (Prod.fst (Prod.snd (Prod.snd (Prod.snd x_1)))) (Int.toNat (Prod.snd (Prod.snd (Prod.snd (Prod.snd (Prod.snd (Prod.snd (Prod.snd (Prod.snd x_1)))))))))))) then (-20000000 : Int) else IntKind.wrap IntKind.i64 (Vec.Y (Body.Drive (Ty.ix Ty.body (Prod.fst (Prod.snd (Prod.snd (Prod.snd x_1)))) (Int.toNat (Prod.snd (Prod.snd (Prod.snd (Prod.snd (Prod.snd (Prod.snd (Prod.snd (Prod.snd x_1))))))))))) - IntKind.wrap IntKind.i64 (Prod.fst (Prod.snd (Prod.snd x_1)) * Body.Mass (Ty.ix Ty.body (Prod.fst (Prod.snd (Prod.snd (Prod.snd x_1)))) (Int.toNat (Prod.snd (Prod.snd (Prod.snd (Prod.snd (Prod.snd (Prod.snd (Prod.snd (Prod.snd x_1)))))))))))))] = fill (fun e => pullS (Prod.fst (Prod.snd (Prod.snd x))) e (Ty.ix Ty.body (Prod.fst (Prod.snd (Prod.snd (Prod.snd x)))) e)) (Prod.fst (Prod.snd (Prod.snd (Prod.snd x)))) (Int.toNat (IntKind.wrap IntKind.i64 (Prod.snd (Prod.snd (Prod.snd (Prod.snd (Prod.snd (Prod.snd (Prod.snd (Prod.snd x_1))))))) + (1 : Int))))) ∧ Int.toNat (Prod.fst (Prod.snd (Prod.snd (Prod.snd (Prod.snd (Prod.snd (Prod.snd (Prod.snd x_1))))))) - IntKind.wrap IntKind.i64 (Prod.snd (Prod.snd (Prod.snd (Prod.snd (Prod.snd (Prod.snd (Prod.snd (Prod.snd x_1))))))) + (1 : Int))) < Int.toNat (Prod.fst (Prod.snd (Prod.snd (Prod.snd (Prod.snd (Prod.snd (Prod.snd (Prod.snd x_1))))))) - Prod.snd (Prod.snd (Prod.snd (Prod.snd (Prod.snd (Prod.snd (Prod.snd (Prod.snd x_1))))))))) (Holds (Prod.fst x_1 = Prod.fst x ∧ Prod.fst (Prod.snd (Prod.snd x_1)) = Prod.fst (Prod.snd (Prod.snd x)) ∧ Prod.fst (Prod.snd (Prod.snd (Prod.snd (Prod.snd x_1)))) = Prod.fst (Prod.snd (Prod.snd (Prod.snd (Prod.snd x)))) ∧ Prod.fst (Prod.snd (Prod.snd (Prod.snd (Prod.snd (Prod.snd x_1))))) = Prod.fst (Prod.snd (Prod.snd (Prod.snd (Prod.snd (Prod.snd x))))) ∧ Prod.fst (Prod.snd (Prod.snd (Prod.snd (Prod.snd (Prod.snd (Prod.snd x_1)))))) = Prod.fst (Prod.snd (Prod.snd (Prod.snd x))) ∧ Prod.fst (Prod.snd (Prod.snd (Prod.snd (Prod.snd (Prod.snd (Prod.snd (Prod.snd x_1))))))) = (↑(List.length (Prod.fst (Prod.snd (Prod.snd (Prod.snd x))))) : Int) ∧ (0 : Int) ≤ IntKind.wrap IntKind.i64 (Prod.snd (Prod.snd (Prod.snd (Prod.snd (Prod.snd (Prod.snd (Prod.snd (Prod.snd x_1))))))) + (1 : Int)) ∧ IntKind.wrap IntKind.i64 (Prod.snd (Prod.snd (Prod.snd (Prod.snd (Prod.snd (Prod.snd (Prod.snd (Prod.snd x_1))))))) + (1 : Int)) ≤ (↑(List.length (Prod.fst (Prod.snd (Prod.snd (Prod.snd x))))) : Int) ∧ Prod.fst (Prod.snd (Prod.snd (Prod.snd x_1))) = fill (fun e => pullS (Prod.fst (Prod.snd (Prod.snd x))) e (Ty.ix Ty.body (Prod.fst (Prod.snd (Prod.snd (Prod.snd x)))) e)) (Prod.fst (Prod.snd (Prod.snd (Prod.snd x)))) (Int.toNat (IntKind.wrap IntKind.i64 (Prod.snd (Prod.snd (Prod.snd (Prod.snd (Prod.snd (Prod.snd (Prod.snd (Prod.snd x_1))))))) + (1 : Int))))) ∧ Int.toNat (Prod.fst (Prod.snd (Prod.snd (Prod.snd (Prod.snd (Prod.snd (Prod.snd (Prod.snd x_1))))))) - IntKind.wrap IntKind.i64 (Prod.snd (Prod.snd (Prod.snd (Prod.snd (Prod.snd (Prod.snd (Prod.snd (Prod.snd x_1))))))) + (1 : Int))) < Int.toNat (Prod.fst (Prod.snd (Prod.snd (Prod.snd (Prod.snd (Prod.snd (Prod.snd (Prod.snd x_1))))))) - Prod.snd (Prod.snd (Prod.snd (Prod.snd (Prod.snd (Prod.snd (Prod.snd (Prod.snd x_1)))))))))) (List.length (Prod.fst x_1) ≤ (1048576 : Nat) ∧ Holds (Prod.fst x_1 = Prod.fst x_1 ∧ Prod.fst (Prod.snd (Prod.snd (Prod.snd x_1))) = Prod.fst (Prod.snd (Prod.snd (Prod.snd x_1))) ∧ Prod.fst (Prod.snd (Prod.snd (Prod.snd (Prod.snd x_1)))) = Prod.fst (Prod.snd (Prod.snd (Prod.snd (Prod.snd x_1)))) ∧ Prod.fst (Prod.snd (Prod.snd (Prod.snd (Prod.snd (Prod.snd x_1))))) = Prod.fst (Prod.snd (Prod.snd (Prod.snd (Prod.snd (Prod.snd x_1))))) ∧ Prod.fst (Prod.snd (Prod.snd (Prod.snd (Prod.snd (Prod.snd (Prod.snd x_1)))))) = Prod.fst (Prod.snd (Prod.snd (Prod.snd (Prod.snd (Prod.snd (Prod.snd x_1)))))) ∧ contactsOf (Prod.fst x_1) = contactsOf (Prod.fst x_1) ∧ (↑(List.length (contactsOf (Prod.fst x_1))) : Int) = (↑(List.length (contactsOf (Prod.fst x_1))) : Int) ∧ (0 : Int) ≤ (0 : Int) ∧ (0 : Int) ≤ (↑(List.length (contactsOf (Prod.fst x_1))) : Int) ∧ [] ++ liveF (Prod.fst (Prod.snd (Prod.snd (Prod.snd x_1)))) (List.drop (Int.toNat (0 : Int)) (contactsOf (Prod.fst x_1))) = liveF (Prod.fst (Prod.snd (Prod.snd (Prod.snd x_1)))) (contactsOf (Prod.fst x_1))) ∧ ∀ (x : List Body × List Body × List Int × List Bool × List Body × List Contact × List Contact × Int × Int), Holds (Prod.fst x = Prod.fst x_1 ∧ Prod.fst (Prod.snd x) = Prod.fst (Prod.snd (Prod.snd (Prod.snd x_1))) ∧ Prod.fst (Prod.snd (Prod.snd x)) = Prod.fst (Prod.snd (Prod.snd (Prod.snd (Prod.snd x_1)))) ∧ Prod.fst (Prod.snd (Prod.snd (Prod.snd x))) = Prod.fst (Prod.snd (Prod.snd (Prod.snd (Prod.snd (Prod.snd x_1))))) ∧ Prod.fst (Prod.snd (Prod.snd (Prod.snd (Prod.snd x)))) = Prod.fst (Prod.snd (Prod.snd (Prod.snd (Prod.snd (Prod.snd (Prod.snd x_1)))))) ∧ Prod.fst (Prod.snd (Prod.snd (Prod.snd (Prod.snd (Prod.snd (Prod.snd x)))))) = contactsOf (Prod.fst x_1) ∧ Prod.fst (Prod.snd (Prod.snd (Prod.snd (Prod.snd (Prod.snd (Prod.snd (Prod.snd x))))))) = (↑(List.length (contactsOf (Prod.fst x_1))) : Int) ∧ (0 : Int) ≤ Prod.snd (Prod.snd (Prod.snd (Prod.snd (Prod.snd (Prod.snd (Prod.snd (Prod.snd x))))))) ∧ Prod.snd (Prod.snd (Prod.snd (Prod.snd (Prod.snd (Prod.snd (Prod.snd (Prod.snd x))))))) ≤ (↑(List.length (contactsOf (Prod.fst x_1))) : Int) ∧ Prod.fst (Prod.snd (Prod.snd (Prod.snd (Prod.snd (Prod.snd x))))) ++ liveF (Prod.fst (Prod.snd (Prod.snd (Prod.snd x_1)))) (List.drop (Int.toNat (Prod.snd (Prod.snd (Prod.snd (Prod.snd (Prod.snd (Prod.snd (Prod.snd (Prod.snd x))))))))) (contactsOf (Prod.fst x_1))) = liveF (Prod.fst (Prod.snd (Prod.snd (Prod.snd x_1)))) (contactsOf (Prod.fst x_1))) → ifB (decide (Prod.snd (Prod.snd (Prod.snd (Prod.snd (Prod.snd (Prod.snd (Prod.snd (Prod.snd x))))))) < Prod.fst (Prod.snd (Prod.snd (Prod.snd (Prod.snd (Prod.snd (Prod.snd (Prod.snd x))))))))) (((0 : Int) ≤ Prod.snd (Prod.snd (Prod.snd (Prod.snd (Prod.snd (Prod.snd (Prod.snd (Prod.snd x))))))) ∧ Prod.snd (Prod.snd (Prod.snd (Prod.snd (Prod.snd (Prod.snd (Prod.snd (Prod.snd x))))))) < (↑(List.length (Prod.fst (Prod.snd (Prod.snd (Prod.snd (Prod.snd (Prod.snd (Prod.snd x)))))))) : Int)) ∧ ((0 : Int) ≤ Contact.A (Ty.ix Ty.contact (Prod.fst (Prod.snd (Prod.snd (Prod.snd (Prod.snd (Prod.snd (Prod.snd x))))))) (Int.toNat (Prod.snd (Prod.snd (Prod.snd (Prod.snd (Prod.snd (Prod.snd (Prod.snd (Prod.snd x)))))))))) ∧ Contact.A (Ty.ix Ty.contact (Prod.fst (Prod.snd (Prod.snd (Prod.snd (Prod.snd (Prod.snd (Prod.snd x))))))) (Int.toNat (Prod.snd (Prod.snd (Prod.snd (Prod.snd (Prod.snd (Prod.snd (Prod.snd (Prod.snd x)))))))))) < (↑(List.length (Prod.fst (Prod.snd x))) : Int)) ∧ ifB (moves (Ty.ix Ty.body (Prod.fst (Prod.snd x)) (Int.toNat (Contact.A (Ty.ix Ty.contact (Prod.fst (Prod.snd (Prod.snd (Prod.snd (Prod.snd (Prod.snd (Prod.snd x))))))) (Int.toNat (Prod.snd (Prod.snd (Prod.snd (Prod.snd (Prod.snd (Prod.snd (Prod.snd (Prod.snd x)))))))))))))) ((List.length (Prod.fst (Prod.snd (Prod.snd (Prod.snd (Prod.snd (Prod.snd x)))))) + List.length [Ty.ix Ty.contact (Prod.fst (Prod.snd (Prod.snd (Prod.snd (Prod.snd (Prod.snd (Prod.snd x))))))) (Int.toNat (Prod.snd (Prod.snd (Prod.snd (Prod.snd (Prod.snd (Prod.snd (Prod.snd (Prod.snd x)))))))))]) * (40 : Nat) ≤ room ∧ Holds (Prod.fst x = Prod.fst x_1 ∧ Prod.fst (Prod.snd x) = Prod.fst (Prod.snd (Prod.snd (Prod.snd x_1))) ∧ Prod.fst (Prod.snd (Prod.snd x)) = Prod.fst (Prod.snd (Prod.snd (Prod.snd (Prod.snd x_1)))) ∧ Prod.fst (Prod.snd (Prod.snd (Prod.snd x))) = Prod.fst (Prod.snd (Prod.snd (Prod.snd (Prod.snd (Prod.snd x_1))))) ∧ Prod.fst (Prod.snd (Prod.snd (Prod.snd (Prod.snd x)))) = Prod.fst (Prod.snd (Prod.snd (Prod.snd (Prod.snd (Prod.snd (Prod.snd x_1)))))) ∧ Prod.fst (Prod.snd (Prod.snd (Prod.snd (Prod.snd (Prod.snd (Prod.snd x)))))) = contactsOf (Prod.fst x_1) ∧ Prod.fst (Prod.snd (Prod.snd (Prod.snd (Prod.snd (Prod.snd (Prod.snd (Prod.snd x))))))) = (↑(List.length (contactsOf (Prod.fst x_1))) : Int) ∧ (0 : Int) ≤ IntKind.wrap IntKind.i64 (Prod.snd (Prod.snd (Prod.snd (Prod.snd (Prod.snd (Prod.snd (Prod.snd (Prod.snd x))))))) + (1 : Int)) ∧ IntKind.wrap IntKind.i64 (Prod.snd (Prod.snd (Prod.snd (Prod.snd (Prod.snd (Prod.snd (Prod.snd (Prod.snd x))))))) + (1 : Int)) ≤ (↑(List.length (contactsOf (Prod.fst x_1))) : Int) ∧ Prod.fst (Prod.snd (Prod.snd (Prod.snd (Prod.snd (Prod.snd x))))) ++ [Ty.ix Ty.contact (Prod.fst (Prod.snd (Prod.snd (Prod.snd (Prod.snd (Prod.snd (Prod.snd x))))))) (Int.toNat (Prod.snd (Prod.snd (Prod.snd (Prod.snd (Prod.snd (Prod.snd (Prod.snd (Prod.snd x)))))))))] ++ liveF (Prod.fst (Prod.snd (Prod.snd (Prod.snd x_1)))) (List.drop (Int.toNat (IntKind.wrap IntKind.i64 (Prod.snd (Prod.snd (Prod.snd (Prod.snd (Prod.snd (Prod.snd (Prod.snd (Prod.snd x))))))) + (1 : Int)))) (contactsOf (Prod.fst x_1))) = liveF (Prod.fst (Prod.snd (Prod.snd (Prod.snd x_1)))) (contactsOf (Prod.fst x_1))) ∧ Int.toNat (Prod.fst (Prod.snd (Prod.snd (Prod.snd (Prod.snd (Prod.snd (Prod.snd (Prod.snd x))))))) - IntKind.wrap IntKind.i64 (Prod.snd (Prod.snd (Prod.snd (Prod.snd (Prod.snd (Prod.snd (Prod.snd (Prod.snd x))))))) + (1 : Int))) < Int.toNat (Prod.fst (Prod.snd (Prod.snd (Prod.snd (Prod.snd (Prod.snd (Prod.snd (Prod.snd x))))))) - Prod.snd (Prod.snd (Prod.snd (Prod.snd (Prod.snd (Prod.snd (Prod.snd (Prod.snd x))))))))) (((0 : Int) ≤ Contact.B (Ty.ix Ty.contact (Prod.fst (Prod.snd (Prod.snd (Prod.snd (Prod.snd (Prod.snd (Prod.snd x))))))) (Int.toNat (Prod.snd (Prod.snd (Prod.snd (Prod.snd (Prod.snd (Prod.snd (Prod.snd (Prod.snd x)))))))))) ∧ Contact.B (Ty.ix Ty.contact (Prod.fst (Prod.snd (Prod.snd (Prod.snd (Prod.snd (Prod.snd (Prod.snd x))))))) (Int.toNat (Prod.snd (Prod.snd (Prod.snd (Prod.snd (Prod.snd (Prod.snd (Prod.snd (Prod.snd x)))))))))) < (↑(List.length (Prod.fst (Prod.snd x))) : Int)) ∧ ifB (moves (Ty.ix Ty.body (Prod.fst (Prod.snd x)) (Int.toNat (Contact.B (Ty.ix Ty.contact (Prod.fst (Prod.snd (Prod.snd (Prod.snd (Prod.snd (Prod.snd (Prod.snd x))))))) (Int.toNat (Prod.snd (Prod.snd (Prod.snd (Prod.snd (Prod.snd (Prod.snd (Prod.snd (Prod.snd x)))))))))))))) ((List.length (Prod.fst (Prod.snd (Prod.snd (Prod.snd (Prod.snd (Prod.snd x)))))) + List.length [Ty.ix Ty.contact (Prod.fst (Prod.snd (Prod.snd (Prod.snd (Prod.snd (Prod.snd (Prod.snd x))))))) (Int.toNat (Prod.snd (Prod.snd (Prod.snd (Prod.snd (Prod.snd (Prod.snd (Prod.snd (Prod.snd x)))))))))]) * (40 : Nat) ≤ room ∧ Holds (Prod.fst x = Prod.fst x_1 ∧ Prod.fst (Prod.snd x) = Prod.fst (Prod.snd (Prod.snd (Prod.snd x_1))) ∧ Prod.fst (Prod.snd (Prod.snd x)) = Prod.fst (Prod.snd (Prod.snd (Prod.snd (Prod.snd x_1)))) ∧ Prod.fst (Prod.snd (Prod.snd (Prod.snd x))) = Prod.fst (Prod.snd (Prod.snd (Prod.snd (Prod.snd (Prod.snd x_1))))) ∧ Prod.fst (Prod.snd (Prod.snd (Prod.snd (Prod.snd x)))) = Prod.fst (Prod.snd (Prod.snd (Prod.snd (Prod.snd (Prod.snd (Prod.snd x_1)))))) ∧ Prod.fst (Prod.snd (Prod.snd (Prod.snd (Prod.snd (Prod.snd (Prod.snd x)))))) = contactsOf (Prod.fst x_1) ∧ Prod.fst (Prod.snd (Prod.snd (Prod.snd (Prod.snd (Prod.snd (Prod.snd (Prod.snd x))))))) = (↑(List.length (contactsOf (Prod.fst x_1))) : Int) ∧ (0 : Int) ≤ IntKind.wrap IntKind.i64 (Prod.snd (Prod.snd (Prod.snd (Prod.snd (Prod.snd (Prod.snd (Prod.snd (Prod.snd x))))))) + (1 : Int)) ∧ IntKind.wrap IntKind.i64 (Prod.snd (Prod.snd (Prod.snd (Prod.snd (Prod.snd (Prod.snd (Prod.snd (Prod.snd x))))))) + (1 : Int)) ≤ (↑(List.length (contactsOf (Prod.fst x_1))) : Int) ∧ Prod.fst (Prod.snd (Prod.snd (Prod.snd (Prod.snd (Prod.snd x))))) ++ [Ty.ix Ty.contact (Prod.fst (Prod.snd (Prod.snd (Prod.snd (Prod.snd (Prod.snd (Prod.snd x))))))) (Int.toNat (Prod.snd (Prod.snd (Prod.snd (Prod.snd (Prod.snd (Prod.snd (Prod.snd (Prod.snd x)))))))))] ++ liveF (Prod.fst (Prod.snd (Prod.snd (Prod.snd x_1)))) (List.drop (Int.toNat (IntKind.wrap IntKind.i64 (Prod.snd (Prod.snd (Prod.snd (Prod.snd (Prod.snd (Prod.snd (Prod.snd (Prod.snd x))))))) + (1 : Int)))) (contactsOf (Prod.fst x_1))) = liveF (Prod.fst (Prod.snd (Prod.snd (Prod.snd x_1)))) (contactsOf (Prod.fst x_1))) ∧ Int.toNat (Prod.fst (Prod.snd (Prod.snd (Prod.snd (Prod.snd (Prod.snd (Prod.snd (Prod.snd x))))))) - IntKind.wrap IntKind.i64 (Prod.snd (Prod.snd (Prod.snd (Prod.snd (Prod.snd (Prod.snd (Prod.snd (Prod.snd x))))))) + (1 : Int))) < Int.toNat (Prod.fst (Prod.snd (Prod.snd (Prod.snd (Prod.snd (Prod.snd (Prod.snd (Prod.snd x))))))) - Prod.snd (Prod.snd (Prod.snd (Prod.snd (Prod.snd (Prod.snd (Prod.snd (Prod.snd x))))))))) (Holds (Prod.fst x = Prod.fst x_1 ∧ Prod.fst (Prod.snd x) = Prod.fst (Prod.snd (Prod.snd (Prod.snd x_1))) ∧ Prod.fst (Prod.snd (Prod.snd x)) = Prod.fst (Prod.snd (Prod.snd (Prod.snd (Prod.snd x_1)))) ∧ Prod.fst (Prod.snd (Prod.snd (Prod.snd x))) = Prod.fst (Prod.snd (Prod.snd (Prod.snd (Prod.snd (Prod.snd x_1))))) ∧ Prod.fst (Prod.snd (Prod.snd (Prod.snd (Prod.snd x)))) = Prod.fst (Prod.snd (Prod.snd (Prod.snd (Prod.snd (Prod.snd (Prod.snd x_1)))))) ∧ Prod.fst (Prod.snd (Prod.snd (Prod.snd (Prod.snd (Prod.snd (Prod.snd x)))))) = contactsOf (Prod.fst x_1) ∧ Prod.fst (Prod.snd (Prod.snd (Prod.snd (Prod.snd (Prod.snd (Prod.snd (Prod.snd x))))))) = (↑(List.length (contactsOf (Prod.fst x_1))) : Int) ∧ (0 : Int) ≤ IntKind.wrap IntKind.i64 (Prod.snd (Prod.snd (Prod.snd (Prod.snd (Prod.snd (Prod.snd (Prod.snd (Prod.snd x))))))) + (1 : Int)) ∧ IntKind.wrap IntKind.i64 (Prod.snd (Prod.snd (Prod.snd (Prod.snd (Prod.snd (Prod.snd (Prod.snd (Prod.snd x))))))) + (1 : Int)) ≤ (↑(List.length (contactsOf (Prod.fst x_1))) : Int) ∧ Prod.fst (Prod.snd (Prod.snd (Prod.snd (Prod.snd (Prod.snd x))))) ++ liveF (Prod.fst (Prod.snd (Prod.snd (Prod.snd x_1)))) (List.drop (Int.toNat (IntKind.wrap IntKind.i64 (Prod.snd (Prod.snd (Prod.snd (Prod.snd (Prod.snd (Prod.snd (Prod.snd (Prod.snd x))))))) + (1 : Int)))) (contactsOf (Prod.fst x_1))) = liveF (Prod.fst (Prod.snd (Prod.snd (Prod.snd x_1)))) (contactsOf (Prod.fst x_1))) ∧ Int.toNat (Prod.fst (Prod.snd (Prod.snd (Prod.snd (Prod.snd (Prod.snd (Prod.snd (Prod.snd x))))))) - IntKind.wrap IntKind.i64 (Prod.snd (Prod.snd (Prod.snd (Prod.snd (Prod.snd (Prod.snd (Prod.snd (Prod.snd x))))))) + (1 : Int))) < Int.toNat (Prod.fst (Prod.snd (Prod.snd (Prod.snd (Prod.snd (Prod.snd (Prod.snd (Prod.snd x))))))) - Prod.snd (Prod.snd (Prod.snd (Prod.snd (Prod.snd (Prod.snd (Prod.snd (Prod.snd x))))))))))) (((∀ (k : Nat), k < List.length (Prod.fst (Prod.snd x)) → POk (Ty.ix Ty.body (Prod.fst (Prod.snd x)) k)) ∧ List.length (Prod.fst (Prod.snd x)) ≤ (12 : Nat) ∧ List.length (Prod.fst (Prod.snd (Prod.snd (Prod.snd (Prod.snd (Prod.snd x)))))) ≤ (144 : Nat) ∧ ∀ (k : Nat), k < List.length (Prod.fst (Prod.snd (Prod.snd (Prod.snd (Prod.snd (Prod.snd x)))))) → (0 : Int) ≤ Contact.A (Ty.ix Ty.contact (Prod.fst (Prod.snd (Prod.snd (Prod.snd (Prod.snd (Prod.snd x)))))) k) ∧ Contact.A (Ty.ix Ty.contact (Prod.fst (Prod.snd (Prod.snd (Prod.snd (Prod.snd (Prod.snd x)))))) k) < (↑(List.length (Prod.fst (Prod.snd x))) : Int) ∧ (0 : Int) ≤ Contact.B (Ty.ix Ty.contact (Prod.fst (Prod.snd (Prod.snd (Prod.snd (Prod.snd (Prod.snd x)))))) k) ∧ Contact.B (Ty.ix Ty.contact (Prod.fst (Prod.snd (Prod.snd (Prod.snd (Prod.snd (Prod.snd x)))))) k) < (↑(List.length (Prod.fst (Prod.snd x))) : Int) ∧ Contact.A (Ty.ix Ty.contact (Prod.fst (Prod.snd (Prod.snd (Prod.snd (Prod.snd (Prod.snd x)))))) k) ≠ Contact.B (Ty.ix Ty.contact (Prod.fst (Prod.snd (Prod.snd (Prod.snd (Prod.snd (Prod.snd x)))))) k)) ∧ Holds (Prod.fst x = Prod.fst x ∧ Prod.fst (Prod.snd (Prod.snd x)) = Prod.fst (Prod.snd (Prod.snd x)) ∧ Prod.fst (Prod.snd (Prod.snd (Prod.snd x))) = Prod.fst (Prod.snd (Prod.snd (Prod.snd x))) ∧ Prod.fst (Prod.snd (Prod.snd (Prod.snd (Prod.snd x)))) = Prod.fst (Prod.snd (Prod.snd (Prod.snd (Prod.snd x)))) ∧ Prod.fst (Prod.snd (Prod.snd (Prod.snd (Prod.snd (Prod.snd x))))) = Prod.fst (Prod.snd (Prod.snd (Prod.snd (Prod.snd (Prod.snd x))))) ∧ (↑(List.length (pushAllF (Prod.fst (Prod.snd x)) (Prod.fst (Prod.snd (Prod.snd (Prod.snd (Prod.snd (Prod.snd x)))))))) : Int) = (↑(List.length (pushAllF (Prod.fst (Prod.snd x)) (Prod.fst (Prod.snd (Prod.snd (Prod.snd (Prod.snd (Prod.snd x)))))))) : Int) ∧ (0 : Int) ≤ (0 : Int) ∧ (0 : Int) ≤ (↑(List.length (pushAllF (Prod.fst (Prod.snd x)) (Prod.fst (Prod.snd (Prod.snd (Prod.snd (Prod.snd (Prod.snd x)))))))) : Int) ∧ pushAllF (Prod.fst (Prod.snd x)) (Prod.fst (Prod.snd (Prod.snd (Prod.snd (Prod.snd (Prod.snd x)))))) = fill (fun e => goS e (Ty.ix Ty.body (pushAllF (Prod.fst (Prod.snd x)) (Prod.fst (Prod.snd (Prod.snd (Prod.snd (Prod.snd (Prod.snd x))))))) e)) (pushAllF (Prod.fst (Prod.snd x)) (Prod.fst (Prod.snd (Prod.snd (Prod.snd (Prod.snd (Prod.snd x))))))) (Int.toNat (0 : Int))) ∧ ∀ (x_2 : List Body × List Body × List Int × List Bool × List Body × List Contact × Int × Int), Holds (Prod.fst x_2 = Prod.fst x ∧ Prod.fst (Prod.snd (Prod.snd x_2)) = Prod.fst (Prod.snd (Prod.snd x)) ∧ Prod.fst (Prod.snd (Prod.snd (Prod.snd x_2))) = Prod.fst (Prod.snd (Prod.snd (Prod.snd x))) ∧ Prod.fst (Prod.snd (Prod.snd (Prod.snd (Prod.snd x_2)))) = Prod.fst (Prod.snd (Prod.snd (Prod.snd (Prod.snd x)))) ∧ Prod.fst (Prod.snd (Prod.snd (Prod.snd (Prod.snd (Prod.snd x_2))))) = Prod.fst (Prod.snd (Prod.snd (Prod.snd (Prod.snd (Prod.snd x))))) ∧ Prod.fst (Prod.snd (Prod.snd (Prod.snd (Prod.snd (Prod.snd (Prod.snd x_2)))))) = (↑(List.length (pushAllF (Prod.fst (Prod.snd x)) (Prod.fst (Prod.snd (Prod.snd (Prod.snd (Prod.snd (Prod.snd x)))))))) : Int) ∧ (0 : Int) ≤ Prod.snd (Prod.snd (Prod.snd (Prod.snd (Prod.snd (Prod.snd (Prod.snd x_2)))))) ∧ Prod.snd (Prod.snd (Prod.snd (Prod.snd (Prod.snd (Prod.snd (Prod.snd x_2)))))) ≤ (↑(List.length (pushAllF (Prod.fst (Prod.snd x)) (Prod.fst (Prod.snd (Prod.snd (Prod.snd (Prod.snd (Prod.snd x)))))))) : Int) ∧ Prod.fst (Prod.snd x_2) = fill (fun e => goS e (Ty.ix Ty.body (pushAllF (Prod.fst (Prod.snd x)) (Prod.fst (Prod.snd (Prod.snd (Prod.snd (Prod.snd (Prod.snd x))))))) e)) (pushAllF (Prod.fst (Prod.snd x)) (Prod.fst (Prod.snd (Prod.snd (Prod.snd (Prod.snd (Prod.snd x))))))) (Int.toNat (Prod.snd (Prod.snd (Prod.snd (Prod.snd (Prod.snd (Prod.snd (Prod.snd x_2))))))))) → ifB (decide (Prod.snd (Prod.snd (Prod.snd (Prod.snd (Prod.snd (Prod.snd (Prod.snd x_2)))))) < Prod.fst (Prod.snd (Prod.snd (Prod.snd (Prod.snd (Prod.snd (Prod.snd x_2)))))))) (((0 : Int) ≤ Prod.snd (Prod.snd (Prod.snd (Prod.snd (Prod.snd (Prod.snd (Prod.snd x_2)))))) ∧ Prod.snd (Prod.snd (Prod.snd (Prod.snd (Prod.snd (Prod.snd (Prod.snd x_2)))))) < (↑(List.length (Prod.fst (Prod.snd x_2))) : Int)) ∧ ifB (moves (Ty.ix Ty.body (Prod.fst (Prod.snd x_2)) (Int.toNat (Prod.snd (Prod.snd (Prod.snd (Prod.snd (Prod.snd (Prod.snd (Prod.snd x_2)))))))))) (Int.toNat (Prod.snd (Prod.snd (Prod.snd (Prod.snd (Prod.snd (Prod.snd (Prod.snd x_2))))))) < List.length (Prod.fst (Prod.snd x_2)) ∧ Holds (Prod.fst x_2 = Prod.fst x ∧ Prod.fst (Prod.snd (Prod.snd x_2)) = Prod.fst (Prod.snd (Prod.snd x)) ∧ Prod.fst (Prod.snd (Prod.snd (Prod.snd x_2))) = Prod.fst (Prod.snd (Prod.snd (Prod.snd x))) ∧ Prod.fst (Prod.snd (Prod.snd (Prod.snd (Prod.snd x_2)))) = Prod.fst (Prod.snd (Prod.snd (Prod.snd (Prod.snd x)))) ∧ Prod.fst (Prod.snd (Prod.snd (Prod.snd (Prod.snd (Prod.snd x_2))))) = Prod.fst (Prod.snd (Prod.snd (Prod.snd (Prod.snd (Prod.snd x))))) ∧ Prod.fst (Prod.snd (Prod.snd (Prod.snd (Prod.snd (Prod.snd (Prod.snd x_2)))))) = (↑(List.length (pushAllF (Prod.fst (Prod.snd x)) (Prod.fst (Prod.snd (Prod.snd (Prod.snd (Prod.snd (Prod.snd x)))))))) : Int) ∧ (0 : Int) ≤ IntKind.wrap IntKind.i64 (Prod.snd (Prod.snd (Prod.snd (Prod.snd (Prod.snd (Prod.snd (Prod.snd x_2)))))) + (1 : Int)) ∧ IntKind.wrap IntKind.i64 (Prod.snd (Prod.snd (Prod.snd (Prod.snd (Prod.snd (Prod.snd (Prod.snd x_2)))))) + (1 : Int)) ≤ (↑(List.length (pushAllF (Prod.fst (Prod.snd x)) (Prod.fst (Prod.snd (Prod.snd (Prod.snd (Prod.snd (Prod.snd x)))))))) : Int) ∧ List.set (Prod.fst (Prod.snd x_2)) (Int.toNat (Prod.snd (Prod.snd (Prod.snd (Prod.snd (Prod.snd (Prod.snd (Prod.snd x_2)))))))) (moveB (Ty.ix Ty.body (Prod.fst (Prod.snd x_2)) (Int.toNat (Prod.snd (Prod.snd (Prod.snd (Prod.snd (Prod.snd (Prod.snd (Prod.snd x_2))))))))) (speed (Ty.ix Ty.body (Prod.fst (Prod.snd x_2)) (Int.toNat (Prod.snd (Prod.snd (Prod.snd (Prod.snd (Prod.snd (Prod.snd (Prod.snd x_2))))))))))) = fill (fun e => goS e (Ty.ix Ty.body (pushAllF (Prod.fst (Prod.snd x)) (Prod.fst (Prod.snd (Prod.snd (Prod.snd (Prod.snd (Prod.snd x))))))) e)) (pushAllF (Prod.fst (Prod.snd x)) (Prod.fst (Prod.snd (Prod.snd (Prod.snd (Prod.snd (Prod.snd x))))))) (Int.toNat (IntKind.wrap IntKind.i64 (Prod.snd (Prod.snd (Prod.snd (Prod.snd (Prod.snd (Prod.snd (Prod.snd x_2)))))) + (1 : Int))))) ∧ Int.toNat (Prod.fst (Prod.snd (Prod.snd (Prod.snd (Prod.snd (Prod.snd (Prod.snd x_2)))))) - IntKind.wrap IntKind.i64 (Prod.snd (Prod.snd (Prod.snd (Prod.snd (Prod.snd (Prod.snd (Prod.snd x_2)))))) + (1 : Int))) < Int.toNat (Prod.fst (Prod.snd (Prod.snd (Prod.snd (Prod.snd (Prod.snd (Prod.snd x_2)))))) - Prod.snd (Prod.snd (Prod.snd (Prod.snd (Prod.snd (Prod.snd (Prod.snd x_2)))))))) (Holds (Prod.fst x_2 = Prod.fst x ∧ Prod.fst (Prod.snd (Prod.snd x_2)) = Prod.fst (Prod.snd (Prod.snd x)) ∧ Prod.fst (Prod.snd (Prod.snd (Prod.snd x_2))) = Prod.fst (Prod.snd (Prod.snd (Prod.snd x))) ∧ Prod.fst (Prod.snd (Prod.snd (Prod.snd (Prod.snd x_2)))) = Prod.fst (Prod.snd (Prod.snd (Prod.snd (Prod.snd x)))) ∧ Prod.fst (Prod.snd (Prod.snd (Prod.snd (Prod.snd (Prod.snd x_2))))) = Prod.fst (Prod.snd (Prod.snd (Prod.snd (Prod.snd (Prod.snd x))))) ∧ Prod.fst (Prod.snd (Prod.snd (Prod.snd (Prod.snd (Prod.snd (Prod.snd x_2)))))) = (↑(List.length (pushAllF (Prod.fst (Prod.snd x)) (Prod.fst (Prod.snd (Prod.snd (Prod.snd (Prod.snd (Prod.snd x)))))))) : Int) ∧ (0 : Int) ≤ IntKind.wrap IntKind.i64 (Prod.snd (Prod.snd (Prod.snd (Prod.snd (Prod.snd (Prod.snd (Prod.snd x_2)))))) + (1 : Int)) ∧ IntKind.wrap IntKind.i64 (Prod.snd (Prod.snd (Prod.snd (Prod.snd (Prod.snd (Prod.snd (Prod.snd x_2)))))) + (1 : Int)) ≤ (↑(List.length (pushAllF (Prod.fst (Prod.snd x)) (Prod.fst (Prod.snd (Prod.snd (Prod.snd (Prod.snd (Prod.snd x)))))))) : Int) ∧ Prod.fst (Prod.snd x_2) = fill (fun e => goS e (Ty.ix Ty.body (pushAllF (Prod.fst (Prod.snd x)) (Prod.fst (Prod.snd (Prod.snd (Prod.snd (Prod.snd (Prod.snd x))))))) e)) (pushAllF (Prod.fst (Prod.snd x)) (Prod.fst (Prod.snd (Prod.snd (Prod.snd (Prod.snd (Prod.snd x))))))) (Int.toNat (IntKind.wrap IntKind.i64 (Prod.snd (Prod.snd (Prod.snd (Prod.snd (Prod.snd (Prod.snd (Prod.snd x_2)))))) + (1 : Int))))) ∧ Int.toNat (Prod.fst (Prod.snd (Prod.snd (Prod.snd (Prod.snd (Prod.snd (Prod.snd x_2)))))) - IntKind.wrap IntKind.i64 (Prod.snd (Prod.snd (Prod.snd (Prod.snd (Prod.snd (Prod.snd (Prod.snd x_2)))))) + (1 : Int))) < Int.toNat (Prod.fst (Prod.snd (Prod.snd (Prod.snd (Prod.snd (Prod.snd (Prod.snd x_2)))))) - Prod.snd (Prod.snd (Prod.snd (Prod.snd (Prod.snd (Prod.snd (Prod.snd x_2))))))))) (((∀ (k : Nat), k < List.length (Prod.fst (Prod.snd x_2)) → POk (Ty.ix Ty.body (Prod.fst (Prod.snd x_2)) k)) ∧ List.length (Prod.fst (Prod.snd x_2)) ≤ (12 : Nat) ∧ List.length (Prod.fst (Prod.snd (Prod.snd (Prod.snd (Prod.snd (Prod.snd x_2)))))) ≤ (144 : Nat) ∧ ∀ (k : Nat), k < List.length (Prod.fst (Prod.snd (Prod.snd (Prod.snd (Prod.snd (Prod.snd x_2)))))) → (0 : Int) ≤ Contact.A (Ty.ix Ty.contact (Prod.fst (Prod.snd (Prod.snd (Prod.snd (Prod.snd (Prod.snd x_2)))))) k) ∧ Contact.A (Ty.ix Ty.contact (Prod.fst (Prod.snd (Prod.snd (Prod.snd (Prod.snd (Prod.snd x_2)))))) k) < (↑(List.length (Prod.fst (Prod.snd x_2))) : Int) ∧ (0 : Int) ≤ Contact.B (Ty.ix Ty.contact (Prod.fst (Prod.snd (Prod.snd (Prod.snd (Prod.snd (Prod.snd x_2)))))) k) ∧ Contact.B (Ty.ix Ty.contact (Prod.fst (Prod.snd (Prod.snd (Prod.snd (Prod.snd (Prod.snd x_2)))))) k) < (↑(List.length (Prod.fst (Prod.snd x_2))) : Int) ∧ Contact.A (Ty.ix Ty.contact (Prod.fst (Prod.snd (Prod.snd (Prod.snd (Prod.snd (Prod.snd x_2)))))) k) ≠ Contact.B (Ty.ix Ty.contact (Prod.fst (Prod.snd (Prod.snd (Prod.snd (Prod.snd (Prod.snd x_2)))))) k)) ∧ Holds (Prod.fst x_2 = Prod.fst x_2 ∧ Prod.fst (Prod.snd (Prod.snd x_2)) = Prod.fst (Prod.snd (Prod.snd x_2)) ∧ Prod.fst (Prod.snd (Prod.snd (Prod.snd x_2))) = Prod.fst (Prod.snd (Prod.snd (Prod.snd x_2))) ∧ Prod.fst (Prod.snd (Prod.snd (Prod.snd (Prod.snd x_2)))) = Prod.fst (Prod.snd (Prod.snd (Prod.snd (Prod.snd x_2)))) ∧ (↑(List.length (apartF (Prod.fst (Prod.snd x_2)) (Prod.fst (Prod.snd (Prod.snd (Prod.snd (Prod.snd (Prod.snd x_2)))))))) : Int) = (↑(List.length (apartF (Prod.fst (Prod.snd x_2)) (Prod.fst (Prod.snd (Prod.snd (Prod.snd (Prod.snd (Prod.snd x_2)))))))) : Int) ∧ (0 : Int) ≤ (0 : Int) ∧ (0 : Int) ≤ (↑(List.length (apartF (Prod.fst (Prod.snd x_2)) (Prod.fst (Prod.snd (Prod.snd (Prod.snd (Prod.snd (Prod.snd x_2)))))))) : Int) ∧ apartF (Prod.fst (Prod.snd x_2)) (Prod.fst (Prod.snd (Prod.snd (Prod.snd (Prod.snd (Prod.snd x_2)))))) = fill (fun e => quietS (Prod.fst (Prod.snd (Prod.snd (Prod.snd (Prod.snd x_2))))) e (Ty.ix Ty.body (apartF (Prod.fst (Prod.snd x_2)) (Prod.fst (Prod.snd (Prod.snd (Prod.snd (Prod.snd (Prod.snd x_2))))))) e)) (apartF (Prod.fst (Prod.snd x_2)) (Prod.fst (Prod.snd (Prod.snd (Prod.snd (Prod.snd (Prod.snd x_2))))))) (Int.toNat (0 : Int))) ∧ ∀ (x : List Body × List Body × List Int × List Bool × List Body × Int × Int), Holds (Prod.fst x = Prod.fst x_2 ∧ Prod.fst (Prod.snd (Prod.snd x)) = Prod.fst (Prod.snd (Prod.snd x_2)) ∧ Prod.fst (Prod.snd (Prod.snd (Prod.snd x))) = Prod.fst (Prod.snd (Prod.snd (Prod.snd x_2))) ∧ Prod.fst (Prod.snd (Prod.snd (Prod.snd (Prod.snd x)))) = Prod.fst (Prod.snd (Prod.snd (Prod.snd (Prod.snd x_2)))) ∧ Prod.fst (Prod.snd (Prod.snd (Prod.snd (Prod.snd (Prod.snd x))))) = (↑(List.length (apartF (Prod.fst (Prod.snd x_2)) (Prod.fst (Prod.snd (Prod.snd (Prod.snd (Prod.snd (Prod.snd x_2)))))))) : Int) ∧ (0 : Int) ≤ Prod.snd (Prod.snd (Prod.snd (Prod.snd (Prod.snd (Prod.snd x))))) ∧ Prod.snd (Prod.snd (Prod.snd (Prod.snd (Prod.snd (Prod.snd x))))) ≤ (↑(List.length (apartF (Prod.fst (Prod.snd x_2)) (Prod.fst (Prod.snd (Prod.snd (Prod.snd (Prod.snd (Prod.snd x_2)))))))) : Int) ∧ Prod.fst (Prod.snd x) = fill (fun e => quietS (Prod.fst (Prod.snd (Prod.snd (Prod.snd (Prod.snd x_2))))) e (Ty.ix Ty.body (apartF (Prod.fst (Prod.snd x_2)) (Prod.fst (Prod.snd (Prod.snd (Prod.snd (Prod.snd (Prod.snd x_2))))))) e)) (apartF (Prod.fst (Prod.snd x_2)) (Prod.fst (Prod.snd (Prod.snd (Prod.snd (Prod.snd (Prod.snd x_2))))))) (Int.toNat (Prod.snd (Prod.snd (Prod.snd (Prod.snd (Prod.snd (Prod.snd x)))))))) → ifB (decide (Prod.snd (Prod.snd (Prod.snd (Prod.snd (Prod.snd (Prod.snd x))))) < Prod.fst (Prod.snd (Prod.snd (Prod.snd (Prod.snd (Prod.snd x))))))) (((0 : Int) ≤ Prod.snd (Prod.snd (Prod.snd (Prod.snd (Prod.snd (Prod.snd x))))) ∧ Prod.snd (Prod.snd (Prod.snd (Prod.snd (Prod.snd (Prod.snd x))))) < (↑(List.length (Prod.fst (Prod.snd x))) : Int)) ∧ ifB (!moves (Ty.ix Ty.body (Prod.fst (Prod.snd x)) (Int.toNat (Prod.snd (Prod.snd (Prod.snd (Prod.snd (Prod.snd (Prod.snd x))))))))) (Holds (Prod.fst x = Prod.fst x_2 ∧ Prod.fst (Prod.snd (Prod.snd x)) = Prod.fst (Prod.snd (Prod.snd x_2)) ∧ Prod.fst (Prod.snd (Prod.snd (Prod.snd x))) = Prod.fst (Prod.snd (Prod.snd (Prod.snd x_2))) ∧ Prod.fst (Prod.snd (Prod.snd (Prod.snd (Prod.snd x)))) = Prod.fst (Prod.snd (Prod.snd (Prod.snd (Prod.snd x_2)))) ∧ Prod.fst (Prod.snd (Prod.snd (Prod.snd (Prod.snd (Prod.snd x))))) = (↑(List.length (apartF (Prod.fst (Prod.snd x_2)) (Prod.fst (Prod.snd (Prod.snd (Prod.snd (Prod.snd (Prod.snd x_2)))))))) : Int) ∧ (0 : Int) ≤ IntKind.wrap IntKind.i64 (Prod.snd (Prod.snd (Prod.snd (Prod.snd (Prod.snd (Prod.snd x))))) + (1 : Int)) ∧ IntKind.wrap IntKind.i64 (Prod.snd (Prod.snd (Prod.snd (Prod.snd (Prod.snd (Prod.snd x))))) + (1 : Int)) ≤ (↑(List.length (apartF (Prod.fst (Prod.snd x_2)) (Prod.fst (Prod.snd (Prod.snd (Prod.snd (Prod.snd (Prod.snd x_2)))))))) : Int) ∧ Prod.fst (Prod.snd x) = fill (fun e => quietS (Prod.fst (Prod.snd (Prod.snd (Prod.snd (Prod.snd x_2))))) e (Ty.ix Ty.body (apartF (Prod.fst (Prod.snd x_2)) (Prod.fst (Prod.snd (Prod.snd (Prod.snd (Prod.snd (Prod.snd x_2))))))) e)) (apartF (Prod.fst (Prod.snd x_2)) (Prod.fst (Prod.snd (Prod.snd (Prod.snd (Prod.snd (Prod.snd x_2))))))) (Int.toNat (IntKind.wrap IntKind.i64 (Prod.snd (Prod.snd (Prod.snd (Prod.snd (Prod.snd (Prod.snd x))))) + (1 : Int))))) ∧ Int.toNat (Prod.fst (Prod.snd (Prod.snd (Prod.snd (Prod.snd (Prod.snd x))))) - IntKind.wrap IntKind.i64 (Prod.snd (Prod.snd (Prod.snd (Prod.snd (Prod.snd (Prod.snd x))))) + (1 : Int))) < Int.toNat (Prod.fst (Prod.snd (Prod.snd (Prod.snd (Prod.snd (Prod.snd x))))) - Prod.snd (Prod.snd (Prod.snd (Prod.snd (Prod.snd (Prod.snd x))))))) (ifB (isIn (Vec.X (speed (Ty.ix Ty.body (setC Ty.body (Prod.fst (Prod.snd x)) (Int.toNat (Prod.snd (Prod.snd (Prod.snd (Prod.snd (Prod.snd (Prod.snd x))))))) ((0 : Nat) + (11 : Nat)) [SV.int IntKind.i64 (0 : Int)]) (Int.toNat (Prod.snd (Prod.snd (Prod.snd (Prod.snd (Prod.snd (Prod.snd x)))))))))) (-8 : Int) (8 : Int) && isIn (Vec.Y (speed (Ty.ix Ty.body (setC Ty.body (Prod.fst (Prod.snd x)) (Int.toNat (Prod.snd (Prod.snd (Prod.snd (Prod.snd (Prod.snd (Prod.snd x))))))) ((0 : Nat) + (11 : Nat)) [SV.int IntKind.i64 (0 : Int)]) (Int.toNat (Prod.snd (Prod.snd (Prod.snd (Prod.snd (Prod.snd (Prod.snd x)))))))))) (-8 : Int) (8 : Int)) (((0 : Int) ≤ Prod.snd (Prod.snd (Prod.snd (Prod.snd (Prod.snd (Prod.snd x))))) ∧ Prod.snd (Prod.snd (Prod.snd (Prod.snd (Prod.snd (Prod.snd x))))) < (↑(List.length (Prod.fst (Prod.snd (Prod.snd (Prod.snd (Prod.snd x)))))) : Int)) ∧ Holds (Prod.fst x = Prod.fst x_2 ∧ Prod.fst (Prod.snd (Prod.snd x)) = Prod.fst (Prod.snd (Prod.snd x_2)) ∧ Prod.fst (Prod.snd (Prod.snd (Prod.snd x))) = Prod.fst (Prod.snd (Prod.snd (Prod.snd x_2))) ∧ Prod.fst (Prod.snd (Prod.snd (Prod.snd (Prod.snd x)))) = Prod.fst (Prod.snd (Prod.snd (Prod.snd (Prod.snd x_2)))) ∧ Prod.fst (Prod.snd (Prod.snd (Prod.snd (Prod.snd (Prod.snd x))))) = (↑(List.length (apartF (Prod.fst (Prod.snd x_2)) (Prod.fst (Prod.snd (Prod.snd (Prod.snd (Prod.snd (Prod.snd x_2)))))))) : Int) ∧ (0 : Int) ≤ IntKind.wrap IntKind.i64 (Prod.snd (Prod.snd (Prod.snd (Prod.snd (Prod.snd (Prod.snd x))))) + (1 : Int)) ∧ IntKind.wrap IntKind.i64 (Prod.snd (Prod.snd (Prod.snd (Prod.snd (Prod.snd (Prod.snd x))))) + (1 : Int)) ≤ (↑(List.length (apartF (Prod.fst (Prod.snd x_2)) (Prod.fst (Prod.snd (Prod.snd (Prod.snd (Prod.snd (Prod.snd x_2)))))))) : Int) ∧ setC Ty.body (setC Ty.body (Prod.fst (Prod.snd x)) (Int.toNat (Prod.snd (Prod.snd (Prod.snd (Prod.snd (Prod.snd (Prod.snd x))))))) ((0 : Nat) + (11 : Nat)) [SV.int IntKind.i64 (0 : Int)]) (Int.toNat (Prod.snd (Prod.snd (Prod.snd (Prod.snd (Prod.snd (Prod.snd x))))))) ((0 : Nat) + (11 : Nat)) [SV.int IntKind.i64 (if (7 : Int) < IntKind.wrap IntKind.i64 (Body.Quiet (Ty.ix Ty.body (Prod.fst (Prod.snd (Prod.snd (Prod.snd (Prod.snd x))))) (Int.toNat (Prod.snd (Prod.snd (Prod.snd (Prod.snd (Prod.snd (Prod.snd x)))))))) + (1 : Int)) then (7 : Int) else IntKind.wrap IntKind.i64 (Body.Quiet (Ty.ix Ty.body (Prod.fst (Prod.snd (Prod.snd (Prod.snd (Prod.snd x))))) (Int.toNat (Prod.snd (Prod.snd (Prod.snd (Prod.snd (Prod.snd (Prod.snd x)))))))) + (1 : Int)))] = fill (fun e => quietS (Prod.fst (Prod.snd (Prod.snd (Prod.snd (Prod.snd x_2))))) e (Ty.ix Ty.body (apartF (Prod.fst (Prod.snd x_2)) (Prod.fst (Prod.snd (Prod.snd (Prod.snd (Prod.snd (Prod.snd x_2))))))) e)) (apartF (Prod.fst (Prod.snd x_2)) (Prod.fst (Prod.snd (Prod.snd (Prod.snd (Prod.snd (Prod.snd x_2))))))) (Int.toNat (IntKind.wrap IntKind.i64 (Prod.snd (Prod.snd (Prod.snd (Prod.snd (Prod.snd (Prod.snd x))))) + (1 : Int))))) ∧ Int.toNat (Prod.fst (Prod.snd (Prod.snd (Prod.snd (Prod.snd (Prod.snd x))))) - IntKind.wrap IntKind.i64 (Prod.snd (Prod.snd (Prod.snd (Prod.snd (Prod.snd (Prod.snd x))))) + (1 : Int))) < Int.toNat (Prod.fst (Prod.snd (Prod.snd (Prod.snd (Prod.snd (Prod.snd x))))) - Prod.snd (Prod.snd (Prod.snd (Prod.snd (Prod.snd (Prod.snd x))))))) (Holds (Prod.fst x = Prod.fst x_2 ∧ Prod.fst (Prod.snd (Prod.snd x)) = Prod.fst (Prod.snd (Prod.snd x_2)) ∧ Prod.fst (Prod.snd (Prod.snd (Prod.snd x))) = Prod.fst (Prod.snd (Prod.snd (Prod.snd x_2))) ∧ Prod.fst (Prod.snd (Prod.snd (Prod.snd (Prod.snd x)))) = Prod.fst (Prod.snd (Prod.snd (Prod.snd (Prod.snd x_2)))) ∧ Prod.fst (Prod.snd (Prod.snd (Prod.snd (Prod.snd (Prod.snd x))))) = (↑(List.length (apartF (Prod.fst (Prod.snd x_2)) (Prod.fst (Prod.snd (Prod.snd (Prod.snd (Prod.snd (Prod.snd x_2)))))))) : Int) ∧ (0 : Int) ≤ IntKind.wrap IntKind.i64 (Prod.snd (Prod.snd (Prod.snd (Prod.snd (Prod.snd (Prod.snd x))))) + (1 : Int)) ∧ IntKind.wrap IntKind.i64 (Prod.snd (Prod.snd (Prod.snd (Prod.snd (Prod.snd (Prod.snd x))))) + (1 : Int)) ≤ (↑(List.length (apartF (Prod.fst (Prod.snd x_2)) (Prod.fst (Prod.snd (Prod.snd (Prod.snd (Prod.snd (Prod.snd x_2)))))))) : Int) ∧ setC Ty.body (Prod.fst (Prod.snd x)) (Int.toNat (Prod.snd (Prod.snd (Prod.snd (Prod.snd (Prod.snd (Prod.snd x))))))) ((0 : Nat) + (11 : Nat)) [SV.int IntKind.i64 (0 : Int)] = fill (fun e => quietS (Prod.fst (Prod.snd (Prod.snd (Prod.snd (Prod.snd x_2))))) e (Ty.ix Ty.body (apartF (Prod.fst (Prod.snd x_2)) (Prod.fst (Prod.snd (Prod.snd (Prod.snd (Prod.snd (Prod.snd x_2))))))) e)) (apartF (Prod.fst (Prod.snd x_2)) (Prod.fst (Prod.snd (Prod.snd (Prod.snd (Prod.snd (Prod.snd x_2))))))) (Int.toNat (IntKind.wrap IntKind.i64 (Prod.snd (Prod.snd (Prod.snd (Prod.snd (Prod.snd (Prod.snd x))))) + (1 : Int))))) ∧ Int.toNat (Prod.fst (Prod.snd (Prod.snd (Prod.snd (Prod.snd (Prod.snd x))))) - IntKind.wrap IntKind.i64 (Prod.snd (Prod.snd (Prod.snd (Prod.snd (Prod.snd (Prod.snd x))))) + (1 : Int))) < Int.toNat (Prod.fst (Prod.snd (Prod.snd (Prod.snd (Prod.snd (Prod.snd x))))) - Prod.snd (Prod.snd (Prod.snd (Prod.snd (Prod.snd (Prod.snd x))))))))) ((List.length (Prod.fst (Prod.snd x)) ≤ (12 : Nat) ∧ List.length (Prod.fst (Prod.snd (Prod.snd x))) = List.length (Prod.fst (Prod.snd x)) ∧ List.length (Prod.fst (Prod.snd (Prod.snd (Prod.snd x)))) ≤ (12 : Nat)) ∧ Q (SV.vec (1 : Nat)) [(false, Blk.vec Ty.body (Prod.fst x)), (true, Blk.vec Ty.body (settleF (Prod.fst (Prod.snd (Prod.snd x))) (0 : Nat) (Prod.fst (Prod.snd (Prod.snd (Prod.snd x)))) (Prod.fst (Prod.snd x))))])))))))) := by kernel_rfl

theorem ok_implStep : FsOk Try.prog 14 fs_implStep := fsOk_of tt_ok (tabFs_cons ok_implBodiesOk (tabFs_cons ok_in_ (tabFs_cons ok_cloneBodies (tabFs_cons ok_implGroups (tabFs_cons ok_implAwake (tabFs_cons ok_bodySleeps (tabFs_cons ok_implMoves (tabFs_cons ok_implContacts (tabFs_cons ok_implAll (tabFs_cons ok_implSpeed (tabFs_cons ok_implMoveB (tabFs_cons ok_implApartF (tabFs_cons ok_implQuiet (tabFs_cons ok_implSettle tabFs_nil)))))))))))))) mixed Try.func14 (by kernel_rfl) (by kernel_rfl) (by
    intro args LL p r HH h hp
    unfold fs_implStep at h
    dsimp only at h
    split at h
    case h_2 => cases h
    rename_i pull xs
    simp only [Option.some.injEq, Prod.mk.injEq] at h
    obtain ⟨rfl, rfl, rfl⟩ := h
    refine ⟨by simp [Form, stays], (L_step), ?_⟩
    rw [vc_implStep]
    try dsimp only
    have hb := hp _ rfl
    refine ⟨by omega, ifB_of (fun c => ?_) (fun c => ifB_of (fun c2 => ?_) (fun c2 => ?_))⟩
    · simp [stepOf, not_true c]
    · simp [stepOf, not_true c2]
    have hok := not_false c
    have hl := bodiesOk_len hok
    have hG : groupsOf xs = groupsX xs := by simp [groupsOf, hok]
    have hW : awakeOf xs = awkF xs xs.length := by simp [awakeOf, hok]
    have hC : contactsOf xs = contactsF xs := by simp [contactsOf, hok]
    have hS : stepOf xs pull = stepF xs pull := by simp [stepOf, hok, not_false c2]
    have hgl : (groupsX xs).length = xs.length := by simp only [groupsX, length_gen]
    have hwl := length_awkF xs xs.length
    rw [hG, hW, hS]
    refine ⟨by omega, by omega, by omega, ⟨(by trivial), (by trivial), (by trivial), (by trivial), (by trivial), by omega, by omega, (fill_zero _ _).symm⟩, ?_⟩
    rintro ⟨xs1, u, pl, ys, gs, ws, n, i⟩ ⟨h⟩
    dsimp only at h ⊢
    obtain ⟨rfl, rfl, rfl, rfl, rfl, i0, i1, h5⟩ := h
    refine ifB_of (fun d => ?_) (fun d => ?_)
    · have d := of_decide_eq_true d
      have hi : i.toNat < xs1.length := by omega
      have hf := fill_ix h5 hi
      have e1 : (i + 1).toNat = i.toNat + 1 := by omega
      have w : IntKind.i64.wrap (i + 1) = i + 1 := wrap_small (by omega) (by omega)
      rw [w, e1, hf.2]
      have hgi : Ty.ix .int (groupsX xs1) i.toNat = gOf xs1 xs1.length i.toNat := ix_gen (T := .int) hi
      refine ⟨⟨i0, by omega⟩, ifB_of (fun q => ⟨⟨i0, by omega⟩, ?_, ifB_of (fun q2 => ⟨⟨(by trivial), (by trivial), (by trivial), (by trivial), (by trivial), by omega, by omega, ?_⟩, by omega⟩) (fun q2 => ⟨⟨(by trivial), (by trivial), (by trivial), (by trivial), (by trivial), by omega, by omega, fill_stay h5 hi ?_⟩, by omega⟩)⟩) (fun q => ⟨⟨(by trivial), (by trivial), (by trivial), (by trivial), (by trivial), by omega, by omega, fill_stay h5 hi ?_⟩, by omega⟩)⟩
      · have f := groups_in hok hi q
        rw [hgi, gOf_all hi, f]
        have := num_in f
        have h2 := Grp.num_mono (freeB xs1) (cmX xs1) (show i.toNat + 1 ≤ xs1.length from hi)
        have h3 : numX xs1 (cmX xs1 i.toNat) < (awkF xs1 xs1.length).length := by rw [hwl]; exact Nat.lt_of_lt_of_le this h2
        exact ⟨Int.natCast_nonneg _, Int.ofNat_lt.2 h3⟩
      · rw [setC_quiet, hf.2]
        refine fill_go h5 hi ?_
        have q2 : Ty.ix .bool (awkF xs1 xs1.length) (gi (groupsX xs1) i.toNat).toNat = true := q2
        unfold wakeS
        rw [q, q2]
        rfl
      · have q2 : Ty.ix .bool (awkF xs1 xs1.length) (gi (groupsX xs1) i.toNat).toNat = false := q2
        unfold wakeS
        rw [q2, Bool.and_false]
        rfl
      · unfold wakeS
        rw [q, Bool.false_and]
        rfl
    · have d := of_decide_eq_false d
      have h5 := fill_map h5 (by omega)
      have hl1 : ys.length = xs1.length := by rw [h5, length_mapX]
      refine ⟨by omega, ⟨(by trivial), (by trivial), (by trivial), (by trivial), (by trivial), (by trivial), by omega, by omega, (fill_zero _ _).symm⟩, ?_⟩
      clear d i0 i1
      rintro ⟨xs2, u2, pl2, zs, gs2, ws2, was, n, i⟩ ⟨h⟩
      dsimp only at h ⊢
      obtain ⟨rfl, rfl, rfl, rfl, rfl, rfl, i0, i1, h6⟩ := h
      refine ifB_of (fun d => ?_) (fun d => ?_)
      · have d := of_decide_eq_true d
        have hi : i.toNat < was.length := by omega
        have hf := fill_ix h6 hi
        have e1 : (i + 1).toNat = i.toNat + 1 := by omega
        have w : IntKind.i64.wrap (i + 1) = i + 1 := wrap_small (by omega) (by omega)
        rw [w, e1, hf.2, max_b]
        refine ⟨⟨i0, by omega⟩, ifB_of (fun q => ⟨⟨(by trivial), (by trivial), (by trivial), (by trivial), (by trivial), (by trivial), by omega, by omega, ?_⟩, by omega⟩) (fun q => ⟨⟨(by trivial), (by trivial), (by trivial), (by trivial), (by trivial), (by trivial), by omega, by omega, fill_stay h6 hi ?_⟩, by omega⟩)⟩
        · rw [setC_driveY, hf.2]
          refine fill_go h6 hi ?_
          unfold pullS
          rw [q]
          rfl
        · unfold pullS
          rw [q]
          rfl
      · have d := of_decide_eq_false d
        have h6 := fill_map h6 (by omega)
        have hl2 : zs.length = was.length := by rw [h6, length_mapX]
        rw [hC]
        have hq := length_contactsF hl
        have hll : (liveF zs (contactsF xs2)).length ≤ (contactsF xs2).length := List.length_filter_le _ _
        refine ⟨by omega, ⟨(by trivial), (by trivial), (by trivial), (by trivial), (by trivial), (by trivial), (by trivial), by omega, by omega, (by trivial)⟩, ?_⟩
        clear d i0 i1
        rintro ⟨xs3, zs3, gs3, ws3, was3, live, cs, n, i⟩ ⟨h⟩
        dsimp only at h ⊢
        obtain ⟨rfl, rfl, rfl, rfl, rfl, rfl, rfl, i0, i1, h7⟩ := h
        have h7l := congrArg List.length h7
        rw [List.length_append] at h7l
        refine ifB_of (fun d => ?_) (fun d => ?_)
        · have d := of_decide_eq_true d
          have hik : i.toNat < (contactsF xs3).length := by omega
          have e1 : (i + 1).toNat = i.toNat + 1 := by omega
          have w : IntKind.i64.wrap (i + 1) = i + 1 := wrap_small (by omega) (by omega)
          have hc := contact_ok0 hik
          rw [liveF_drop hik] at h7
          rw [w, e1]
          refine ⟨⟨i0, d⟩, ⟨hc.1, by omega⟩, ifB_of (fun q => ⟨by simp only [room, List.length_singleton]; omega, ⟨(by trivial), (by trivial), (by trivial), (by trivial), (by trivial), (by trivial), (by trivial), by omega, by omega, ?_⟩, by omega⟩) (fun q => ⟨⟨hc.2.2.1, by omega⟩, ifB_of (fun q2 => ⟨by simp only [room, List.length_singleton]; omega, ⟨(by trivial), (by trivial), (by trivial), (by trivial), (by trivial), (by trivial), (by trivial), by omega, by omega, ?_⟩, by omega⟩) (fun q2 => ⟨⟨(by trivial), (by trivial), (by trivial), (by trivial), (by trivial), (by trivial), (by trivial), by omega, by omega, ?_⟩, by omega⟩)⟩)⟩
          · rw [q] at h7
            rw [← h7, List.append_assoc]
            rfl
          · rw [q, q2] at h7
            rw [← h7, List.append_assoc]
            rfl
          · rw [q, q2] at h7
            rw [← h7]
            rfl
        · have d := of_decide_eq_false d
          rw [drop_end (by omega)] at h7
          have h7 : live = liveF zs3 (contactsF xs3) := by simpa [liveF] using h7
          have kz : Kin xs3 zs3 := by
            rw [h6, h5]
            exact (kin_mapX (kin_wakeS _ _) _).trans (kin_mapX (kin_pullS _) _)
          have hA := allP_kin kz (allP_ok hok)
          have hct : CtsOk zs3.length live := by rw [h7, ← kz.1]; exact live_ok hl
          have hl12 : zs3.length ≤ 12 := by rw [← kz.1]; exact hl
          have kp := kin_pushAllF (ctsOk_mem hct)
          have hlp := length_pushAllF zs3 live
          refine ⟨⟨hA, hl12, hct⟩, ⟨(by trivial), (by trivial), (by trivial), (by trivial), (by trivial), (by trivial), by omega, by omega, (fill_zero _ _).symm⟩, ?_⟩
          clear d i0 i1
          rintro ⟨xs4, vs, gs4, ws4, was4, live4, n, i⟩ ⟨h⟩
          dsimp only at h ⊢
          obtain ⟨rfl, rfl, rfl, rfl, rfl, rfl, i0, i1, h8⟩ := h
          refine ifB_of (fun d => ?_) (fun d => ?_)
          · have d := of_decide_eq_true d
            have hi : i.toNat < (pushAllF zs3 live4).length := by omega
            have hf := fill_ix h8 hi
            have e1 : (i + 1).toNat = i.toNat + 1 := by omega
            have w : IntKind.i64.wrap (i + 1) = i + 1 := wrap_small (by omega) (by omega)
            rw [w, e1, hf.2]
            refine ⟨⟨i0, by omega⟩, ifB_of (fun q => ⟨by omega, ⟨(by trivial), (by trivial), (by trivial), (by trivial), (by trivial), (by trivial), by omega, by omega, fill_go h8 hi ?_⟩, by omega⟩) (fun q => ⟨⟨(by trivial), (by trivial), (by trivial), (by trivial), (by trivial), (by trivial), by omega, by omega, fill_stay h8 hi ?_⟩, by omega⟩)⟩
            · unfold goS
              rw [q]
              rfl
            · unfold goS
              rw [q]
              rfl
          · have d := of_decide_eq_false d
            have h8 := fill_map h8 (by omega)
            have kv : Kin zs3 vs := by
              rw [h8]
              exact kp.trans (kin_mapX kin_goS _)
            have hAv := allP_kin kv hA
            have hcv : CtsOk vs.length live4 := by rw [← kv.1]; exact hct
            have hla := length_apartF live4 vs
            have hlv : vs.length = zs3.length := kv.1.symm
            have hlw : was4.length = xs4.length := hl1
            refine ⟨⟨hAv, by omega, hcv⟩, ⟨(by trivial), (by trivial), (by trivial), (by trivial), (by trivial), by omega, by omega, (fill_zero _ _).symm⟩, ?_⟩
            clear d i0 i1
            rintro ⟨xs5, rs, gs5, ws5, was5, n, i⟩ ⟨h⟩
            dsimp only at h ⊢
            obtain ⟨rfl, rfl, rfl, rfl, rfl, i0, i1, h9⟩ := h
            refine ifB_of (fun d => ?_) (fun d => ?_)
            · have d := of_decide_eq_true d
              have hi : i.toNat < (apartF vs live4).length := by omega
              have hf := fill_ix h9 hi
              have e1 : (i + 1).toNat = i.toNat + 1 := by omega
              have w : IntKind.i64.wrap (i + 1) = i + 1 := wrap_small (by omega) (by omega)
              have hsp : speed { Ty.ix .body (apartF vs live4) i.toNat with Quiet := 0 } = speed (Ty.ix .body (apartF vs live4) i.toNat) := rfl
              rw [w, e1, setC_quiet, setC_quiet, ix_set_self_body _ _ (by omega), List.set_set, hf.2, hsp, min_b]
              refine ⟨⟨i0, by omega⟩, ifB_of (fun q => ⟨⟨(by trivial), (by trivial), (by trivial), (by trivial), (by trivial), by omega, by omega, fill_stay h9 hi ?_⟩, by omega⟩) (fun q => ifB_of (fun q2 => ⟨⟨i0, by omega⟩, ⟨(by trivial), (by trivial), (by trivial), (by trivial), (by trivial), by omega, by omega, fill_go h9 hi ?_⟩, by omega⟩) (fun q2 => ⟨⟨(by trivial), (by trivial), (by trivial), (by trivial), (by trivial), by omega, by omega, fill_go h9 hi ?_⟩, by omega⟩))⟩
              · unfold quietS
                rw [not_true q]
                rfl
              · unfold quietS
                rw [not_false q, q2]
                rfl
              · unfold quietS
                rw [not_false q, q2]
                rfl
            · have d := of_decide_eq_false d
              have h9 := fill_map h9 (by omega)
              have hlr : rs.length = (apartF vs live4).length := by rw [h9, length_mapX]
              have hnx := num_le xs5 xs5.length
              refine ⟨⟨by omega, by omega, by omega⟩, (by trivial), ?_⟩
              unfold stepF
              dsimp only
              rw [← h5, ← h6, ← h7, ← h8, ← h9])

end
end Go.Proofs.Ytdhbkcaaijgocaa.Sym
