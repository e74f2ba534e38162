/-
  How two bodies push each other; a world without bodies.
  No condition.
-/
import Derived.Test.YtmflfpedmbfhkaaG2
namespace Go.Proofs.Ytmflfpedmbfhkaa.Sym
open Go
set_option linter.unusedVariables false
set_option linter.unusedSimpArgs false
set_option maxRecDepth 100000

/-- Of masses, bounces and rubs that are ok. -/
structure POk (b : Body) : Prop where
  m0 : 0 ≤ b.Mass
  m1 : b.Mass ≤ 1000
  b0 : 0 ≤ b.Bounce
  b1 : b.Bounce ≤ 256
  r0 : 0 ≤ b.Rub
  r1 : b.Rub ≤ 256
theorem pok_of {b : Body} (h : bodyOk b = true) : POk b := by
  simp only [bodyOk, Bool.and_eq_true, isIn, decide_eq_true_eq] at h
  obtain ⟨⟨⟨⟨⟨⟨⟨⟨h1, h2⟩, h3⟩, h4⟩, h5⟩, h6⟩, h7⟩, h8⟩, h9⟩ := h
  exact ⟨h5.1, h5.2, h6.1, h6.2, h7.1, h7.2⟩

theorem ifBt {p q : Prop} : ifB true p q = p := rfl
theorem ifBf {p q : Prop} : ifB false p q = q := rfl
def together (a b : Body) (n : Int) : Int :=
  bif a.Mass == 0 then W (n * b.Mass) else bif b.Mass == 0 then W (n * a.Mass) else W ((W (W (n * a.Mass) * b.Mass)).tdiv (W (a.Mass + b.Mass)))
def pushP (a b : Body) (c : Int) (bounce : Bool) : Int := together a b (bif bounce then W (c + W ((W (c * max a.Bounce b.Bounce)).tdiv 256)) else c)
def pushSide (h : Hit) : Vec := ⟨W (0 - h.Way.Y), h.Way.X⟩
def pushS (a b : Body) (h : Hit) (p : Int) : Int := withinI (together a b (closing a b (pushSide h))) (W ((W (p * min a.Rub b.Rub)).tdiv 256))
def pushE (p s x y : Int) : Int := W ((W (W (p * x) + W (s * y))).tdiv 256)
def pushW (a b : Body) (h : Hit) (p : Int) : Vec := ⟨withinI (pushE p (pushS a b h p) h.Way.X (pushSide h).X) 20000000, withinI (pushE p (pushS a b h p) h.Way.Y (pushSide h).Y) 20000000⟩
def pushV (a b : Body) (h : Hit) (bounce : Bool) : Vec :=
  bif decide (closing a b h.Way ≤ 0) || (a.Mass == 0 && b.Mass == 0) then ⟨0, 0⟩ else pushW a b h (pushP a b (closing a b h.Way) bounce)
def pushOfV (a b : Body) (h : Hit) (bounce : Bool) : Vec := bif bodyOk a && bodyOk b && hitOk h then pushV a b h bounce else ⟨0, 0⟩

theorem W_small {n : Int} (h1 : -9223372036854775808 ≤ n) (h2 : n ≤ 9223372036854775807) : W n = n := wrap_small h1 h2
theorem max_if (x y : Int) : (if y > x then y else x) = max x y := by omega
theorem min_if (x y : Int) : (if y < x then y else x) = min x y := by omega
theorem withinS_eq {n m : Int} (h0 : 0 ≤ m) (h1 : m ≤ 4000000000000000000) : withinS n m = withinI n m := by
  unfold withinS withinI
  have : W (0 - m) = 0 - m := wrap_small (by omega) (by omega)
  rw [this]
  omega
theorem withinI_le {n m : Int} (h0 : 0 ≤ m) (h1 : m ≤ 4000000000000000000) : -m ≤ withinI n m ∧ withinI n m ≤ m := by
  unfold withinI
  have : W (0 - m) = 0 - m := wrap_small (by omega) (by omega)
  rw [this]
  omega
theorem clampTo_le {m n : Int} (h : 0 ≤ m) : -m ≤ clampTo m n ∧ clampTo m n ≤ m := by
  unfold clampTo
  omega
theorem closing_le (a b : Body) (w : Vec) : -1000000000 ≤ closing a b w ∧ closing a b w ≤ 1000000000 := clampTo_le (by omega)
theorem mul_le_mul0 {x X y Y : Int} (h0 : 0 ≤ x) (h1 : x ≤ X) (k0 : 0 ≤ y) (k1 : y ≤ Y) : 0 ≤ x * y ∧ x * y ≤ X * Y :=
  ⟨Int.mul_nonneg h0 k0, Int.mul_le_mul h1 k1 k0 (by omega)⟩
theorem tdiv_le {x n : Int} (h : 0 ≤ x) (hn : 1 ≤ n) : 0 ≤ x.tdiv n ∧ x.tdiv n ≤ x := by
  rw [Int.tdiv_eq_ediv_of_nonneg h]
  exact ⟨Int.ediv_nonneg h (by omega), Int.ediv_le_self _ h⟩
theorem together_le {a b : Body} (pa : POk a) (pb : POk b) (hm : ¬ (a.Mass = 0 ∧ b.Mass = 0)) {n : Int} (h0 : 0 ≤ n) (h1 : n ≤ 2000000000) : 0 ≤ together a b n ∧ together a b n ≤ 2000000000000 := by
  have ha := mul_le_mul0 h0 h1 pa.m0 pa.m1
  have hb := mul_le_mul0 h0 h1 pb.m0 pb.m1
  unfold together
  cases ca : a.Mass == 0 with
  | true =>
    simp only [cond_true]
    rw [show W (n * b.Mass) = n * b.Mass from wrap_small (by omega) (by omega)]
    omega
  | false =>
    simp only [cond_false]
    cases cb : b.Mass == 0 with
    | true =>
      simp only [cond_true]
      rw [show W (n * a.Mass) = n * a.Mass from wrap_small (by omega) (by omega)]
      omega
    | false =>
      simp only [cond_false]
      have ca : a.Mass ≠ 0 := by simpa using ca
      have cb : b.Mass ≠ 0 := by simpa using cb
      have a0 := pa.m0
      have a1 := pa.m1
      have b0 := pb.m0
      have b1 := pb.m1
      have hab := mul_le_mul0 ha.1 ha.2 b0 b1
      rw [show W (n * a.Mass) = n * a.Mass from wrap_small (by omega) (by omega), show W (n * a.Mass * b.Mass) = n * a.Mass * b.Mass from wrap_small (by omega) (by omega),
        show W (a.Mass + b.Mass) = a.Mass + b.Mass from wrap_small (by omega) (by omega)]
      have hq : (n * a.Mass * b.Mass).tdiv (a.Mass + b.Mass) = n * a.Mass * b.Mass / (a.Mass + b.Mass) := Int.tdiv_eq_ediv_of_nonneg hab.1
      have q0 : 0 ≤ n * a.Mass * b.Mass / (a.Mass + b.Mass) := Int.ediv_nonneg hab.1 (by omega)
      have q1 : n * a.Mass * b.Mass / (a.Mass + b.Mass) ≤ n * a.Mass := by
        refine Int.ediv_le_of_le_mul (by omega) ?_
        exact Int.mul_le_mul_of_nonneg_left (by omega) ha.1
      rw [hq, W_small (by omega) (by omega)]
      omega
theorem pushP_le {a b : Body} (pa : POk a) (pb : POk b) (hm : ¬ (a.Mass = 0 ∧ b.Mass = 0)) {c : Int} (h0 : 0 ≤ c) (h1 : c ≤ 1000000000) (z : Bool) : 0 ≤ pushP a b c z ∧ pushP a b c z ≤ 2000000000000 := by
  unfold pushP
  cases z with
  | false => exact together_le pa pb hm h0 (by simp only [cond_false]; omega)
  | true =>
    have b0 := pa.b0
    have b1 := pa.b1
    have b2 := pb.b0
    have b3 := pb.b1
    have hx := mul_le_mul0 h0 h1 (show 0 ≤ max a.Bounce b.Bounce by omega) (show max a.Bounce b.Bounce ≤ 256 by omega)
    have hc : c * max a.Bounce b.Bounce ≤ c * 256 := Int.mul_le_mul_of_nonneg_left (by omega) h0
    have hd := Int.tdiv_eq_ediv_of_nonneg (b := 256) hx.1
    simp only [cond_true]
    refine together_le pa pb hm ?_ ?_ <;>
    · rw [show W (c * max a.Bounce b.Bounce) = c * max a.Bounce b.Bounce from wrap_small (by omega) (by omega), hd,
        show W (c * max a.Bounce b.Bounce / 256) = c * max a.Bounce b.Bounce / 256 from wrap_small (by omega) (by omega), W_small (by omega) (by omega)]
      omega
theorem most_le {a b : Body} (pa : POk a) (pb : POk b) {p : Int} (h0 : 0 ≤ p) (h1 : p ≤ 2000000000000) : 0 ≤ W ((W (p * min a.Rub b.Rub)).tdiv 256) ∧ W ((W (p * min a.Rub b.Rub)).tdiv 256) ≤ p := by
  have b0 := pa.r0
  have b1 := pa.r1
  have b2 := pb.r0
  have b3 := pb.r1
  have hx := mul_le_mul0 h0 h1 (show 0 ≤ min a.Rub b.Rub by omega) (show min a.Rub b.Rub ≤ 256 by omega)
  have hc : p * min a.Rub b.Rub ≤ p * 256 := Int.mul_le_mul_of_nonneg_left (by omega) h0
  have hd := Int.tdiv_eq_ediv_of_nonneg (b := 256) hx.1
  rw [show W (p * min a.Rub b.Rub) = p * min a.Rub b.Rub from wrap_small (by omega) (by omega), hd, W_small (by omega) (by omega)]
  omega

noncomputable def fs_implTogether : Fs := ⟨[], fun args H => match args, H with
  | [.agg [.int .i64 aI, .int .i64 aK, .int .i64 aW, .int .i64 aH, .int .i64 aX, .int .i64 aY, .int .i64 aU, .int .i64 aV, .int .i64 aM, .int .i64 aB, .int .i64 aR, .int .i64 aQ], .agg [.int .i64 bI, .int .i64 bK, .int .i64 bW, .int .i64 bH, .int .i64 bX, .int .i64 bY, .int .i64 bU, .int .i64 bV, .int .i64 bM, .int .i64 bB, .int .i64 bR, .int .i64 bQ], .int .i64 n], [] => some ((some (POk (Body.mk aI (Shape.mk aK aW aH) (Vec.mk aX aY) (Vec.mk aU aV) aM aB aR aQ) ∧ POk (Body.mk bI (Shape.mk bK bW bH) (Vec.mk bX bY) (Vec.mk bU bV) bM bB bR bQ))), .int .i64 (together (Body.mk aI (Shape.mk aK aW aH) (Vec.mk aX aY) (Vec.mk aU aV) aM aB aR aQ) (Body.mk bI (Shape.mk bK bW bH) (Vec.mk bX bY) (Vec.mk bU bV) bM bB bR bQ) n), [])
  | _, _ => none⟩

theorem vc_implTogether (aI : Int) (aK : Int) (aW : Int) (aH : Int) (aX : Int) (aY : Int) (aU : Int) (aV : Int) (aM : Int) (aB : Int) (aR : Int) (aQ : Int) (bI : Int) (bK : Int) (bW : Int) (bH : Int) (bX : Int) (bY : Int) (bU : Int) (bV : Int) (bM : Int) (bB : Int) (bR : Int) (bQ : Int) (n : Int) (Q : SV → List Ent → Prop) :
    fnVC tt (look [(33, fs_bodyFixed)]) L0 Try.f35 [.agg [.int .i64 aI, .int .i64 aK, .int .i64 aW, .int .i64 aH, .int .i64 aX, .int .i64 aY, .int .i64 aU, .int .i64 aV, .int .i64 aM, .int .i64 aB, .int .i64 aR, .int .i64 aQ], .agg [.int .i64 bI, .int .i64 bK, .int .i64 bW, .int .i64 bH, .int .i64 bX, .int .i64 bY, .int .i64 bU, .int .i64 bV, .int .i64 bM, .int .i64 bB, .int .i64 bR, .int .i64 bQ], .int .i64 n] [] Q =
    (ifB (aM == (0 : Int)) (Q (SV.int IntKind.i64 (IntKind.wrap IntKind.i64 (n * bM))) []) (ifB (bM == (0 : Int)) (Q (SV.int IntKind.i64 (IntKind.wrap IntKind.i64 (n * aM))) []) (IntKind.wrap IntKind.i64 (aM + bM) ≠ (0 : Int) ∧ Q (SV.int IntKind.i64 (IntKind.wrap IntKind.i64 (Int.tdiv (IntKind.wrap IntKind.i64 (IntKind.wrap IntKind.i64 (n * aM) * bM)) (IntKind.wrap IntKind.i64 (aM + bM))))) []))) := by kernel_rfl

theorem ok_implTogether : FsOk Try.prog 35 fs_implTogether := fsOk_of tt_ok (tabFs_cons ok_bodyFixed tabFs_nil) mixed Try.func35 (by kernel_rfl) (by kernel_rfl) (by
    intro args LL p r HH h hp
    unfold fs_implTogether at h
    dsimp only at h
    split at h
    case h_2 => cases h
    rename_i aI aK aW aH aX aY aU aV aM aB aR aQ bI bK bW bH bX bY bU bV bM bB bR bQ n
    simp only [Option.some.injEq, Prod.mk.injEq] at h
    obtain ⟨rfl, rfl, rfl⟩ := h
    refine ⟨by simp [Form, stays], L0, ?_⟩
    rw [vc_implTogether]
    try dsimp only
    obtain ⟨pa, pb⟩ := hp _ rfl
    refine ifB_of (fun c => ?_) (fun c => ifB_of (fun c2 => ?_) (fun c2 => ⟨?_, ?_⟩))
    · simp [together, c]
    · simp [together, c, c2]
    · have h1 := pa.m0
      have h2 := pa.m1
      have h3 := pb.m0
      have h4 := pb.m1
      simp only [beq_eq_false_iff_ne] at c c2 h1 h2 h3 h4
      rw [wrap_small (by omega) (by omega)]
      omega
    · simp [together, c, c2])

noncomputable def fs_l8Mass : Fs := ⟨[], fun args H => match args, H with
  | [.agg [.int .i64 aI, .int .i64 aK, .int .i64 aW, .int .i64 aH, .int .i64 aX, .int .i64 aY, .int .i64 aU, .int .i64 aV, .int .i64 aM, .int .i64 aB, .int .i64 aR, .int .i64 aQ], .agg [.int .i64 bI, .int .i64 bK, .int .i64 bW, .int .i64 bH, .int .i64 bX, .int .i64 bY, .int .i64 bU, .int .i64 bV, .int .i64 bM, .int .i64 bB, .int .i64 bR, .int .i64 bQ], .int .i64 n], [] => some ((some (POk (Body.mk aI (Shape.mk aK aW aH) (Vec.mk aX aY) (Vec.mk aU aV) aM aB aR aQ) ∧ POk (Body.mk bI (Shape.mk bK bW bH) (Vec.mk bX bY) (Vec.mk bU bV) bM bB bR bQ))), .int .i64 (together (Body.mk aI (Shape.mk aK aW aH) (Vec.mk aX aY) (Vec.mk aU aV) aM aB aR aQ) (Body.mk bI (Shape.mk bK bW bH) (Vec.mk bX bY) (Vec.mk bU bV) bM bB bR bQ) n), [])
  | _, _ => none⟩

theorem vc_l8Mass (aI : Int) (aK : Int) (aW : Int) (aH : Int) (aX : Int) (aY : Int) (aU : Int) (aV : Int) (aM : Int) (aB : Int) (aR : Int) (aQ : Int) (bI : Int) (bK : Int) (bW : Int) (bH : Int) (bX : Int) (bY : Int) (bU : Int) (bV : Int) (bM : Int) (bB : Int) (bR : Int) (bQ : Int) (n : Int) (Q : SV → List Ent → Prop) :
    fnVC tt (look []) L0 Try.f40 [.agg [.int .i64 aI, .int .i64 aK, .int .i64 aW, .int .i64 aH, .int .i64 aX, .int .i64 aY, .int .i64 aU, .int .i64 aV, .int .i64 aM, .int .i64 aB, .int .i64 aR, .int .i64 aQ], .agg [.int .i64 bI, .int .i64 bK, .int .i64 bW, .int .i64 bH, .int .i64 bX, .int .i64 bY, .int .i64 bU, .int .i64 bV, .int .i64 bM, .int .i64 bB, .int .i64 bR, .int .i64 bQ], .int .i64 n] [] Q =
    (ifB (aM == (0 : Int)) (Q (SV.int IntKind.i64 (IntKind.wrap IntKind.i64 (n * bM))) []) (ifB (bM == (0 : Int)) (Q (SV.int IntKind.i64 (IntKind.wrap IntKind.i64 (n * aM))) []) (IntKind.wrap IntKind.i64 (aM + bM) ≠ (0 : Int) ∧ Q (SV.int IntKind.i64 (IntKind.wrap IntKind.i64 (Int.tdiv (IntKind.wrap IntKind.i64 (IntKind.wrap IntKind.i64 (n * aM) * bM)) (IntKind.wrap IntKind.i64 (aM + bM))))) []))) := by kernel_rfl

theorem ok_l8Mass : FsOk Try.prog 40 fs_l8Mass := fsOk_of tt_ok tabFs_nil mixed Try.func40 (by kernel_rfl) (by kernel_rfl) (by
    intro args LL p r HH h hp
    unfold fs_l8Mass at h
    dsimp only at h
    split at h
    case h_2 => cases h
    rename_i aI aK aW aH aX aY aU aV aM aB aR aQ bI bK bW bH bX bY bU bV bM bB bR bQ n
    simp only [Option.some.injEq, Prod.mk.injEq] at h
    obtain ⟨rfl, rfl, rfl⟩ := h
    refine ⟨by simp [Form, stays], L0, ?_⟩
    rw [vc_l8Mass]
    try dsimp only
    obtain ⟨pa, pb⟩ := hp _ rfl
    refine ifB_of (fun c => ?_) (fun c => ifB_of (fun c2 => ?_) (fun c2 => ⟨?_, ?_⟩))
    · simp [together, c]
    · simp [together, c, c2]
    · have h1 := pa.m0
      have h2 := pa.m1
      have h3 := pb.m0
      have h4 := pb.m1
      simp only [beq_eq_false_iff_ne] at c c2 h1 h2 h3 h4
      rw [wrap_small (by omega) (by omega)]
      omega
    · simp [together, c, c2])

theorem pushV_zero {a b : Body} {h : Hit} {z : Bool} (hc : closing a b h.Way ≤ 0 ∨ (a.Mass == 0 && b.Mass == 0) = true) : pushV a b h z = ⟨0, 0⟩ := by
  unfold pushV
  rcases hc with hc | hc
  · simp [hc]
  · simp [hc]
theorem pushV_some {a b : Body} {h : Hit} {z : Bool} (hc : ¬ closing a b h.Way ≤ 0) (hm : (a.Mass == 0 && b.Mass == 0) = false) : pushV a b h z = pushW a b h (pushP a b (closing a b h.Way) z) := by
  unfold pushV
  rw [hm]
  simp [hc]
noncomputable def fs_implPushOfIn : Fs := ⟨[], fun args H => match args, H with
  | [.agg [.int .i64 aI, .int .i64 aK, .int .i64 aW, .int .i64 aH, .int .i64 aX, .int .i64 aY, .int .i64 aU, .int .i64 aV, .int .i64 aM, .int .i64 aB, .int .i64 aR, .int .i64 aQ], .agg [.int .i64 bI, .int .i64 bK, .int .i64 bW, .int .i64 bH, .int .i64 bX, .int .i64 bY, .int .i64 bU, .int .i64 bV, .int .i64 bM, .int .i64 bB, .int .i64 bR, .int .i64 bQ], .agg [.int .i64 hX, .int .i64 hY, .int .i64 hD], .bool z], [] => some ((some (POk (Body.mk aI (Shape.mk aK aW aH) (Vec.mk aX aY) (Vec.mk aU aV) aM aB aR aQ) ∧ POk (Body.mk bI (Shape.mk bK bW bH) (Vec.mk bX bY) (Vec.mk bU bV) bM bB bR bQ))), .agg [.int .i64 (pushV (Body.mk aI (Shape.mk aK aW aH) (Vec.mk aX aY) (Vec.mk aU aV) aM aB aR aQ) (Body.mk bI (Shape.mk bK bW bH) (Vec.mk bX bY) (Vec.mk bU bV) bM bB bR bQ) (Hit.mk (Vec.mk hX hY) hD) z).X, .int .i64 (pushV (Body.mk aI (Shape.mk aK aW aH) (Vec.mk aX aY) (Vec.mk aU aV) aM aB aR aQ) (Body.mk bI (Shape.mk bK bW bH) (Vec.mk bX bY) (Vec.mk bU bV) bM bB bR bQ) (Hit.mk (Vec.mk hX hY) hD) z).Y], [])
  | _, _ => none⟩

theorem vc_implPushOfIn (aI : Int) (aK : Int) (aW : Int) (aH : Int) (aX : Int) (aY : Int) (aU : Int) (aV : Int) (aM : Int) (aB : Int) (aR : Int) (aQ : Int) (bI : Int) (bK : Int) (bW : Int) (bH : Int) (bX : Int) (bY : Int) (bU : Int) (bV : Int) (bM : Int) (bB : Int) (bR : Int) (bQ : Int) (hX : Int) (hY : Int) (hD : Int) (z : Bool) (Q : SV → List Ent → Prop) :
    fnVC tt (look [(23, fs_implClosingIn), (33, fs_bodyFixed), (35, fs_implTogether), (36, fs_implWithin), (37, fs_vecClamped)]) L0 Try.f16 [.agg [.int .i64 aI, .int .i64 aK, .int .i64 aW, .int .i64 aH, .int .i64 aX, .int .i64 aY, .int .i64 aU, .int .i64 aV, .int .i64 aM, .int .i64 aB, .int .i64 aR, .int .i64 aQ], .agg [.int .i64 bI, .int .i64 bK, .int .i64 bW, .int .i64 bH, .int .i64 bX, .int .i64 bY, .int .i64 bU, .int .i64 bV, .int .i64 bM, .int .i64 bB, .int .i64 bR, .int .i64 bQ], .agg [.int .i64 hX, .int .i64 hY, .int .i64 hD], .bool z] [] Q =
    (let w_ := IntKind.wrap IntKind.i64; let s_ := SV.int IntKind.i64; let A2_ := (Body.mk bI (Shape.mk bK bW bH) (Vec.mk bX bY) (Vec.mk bU bV) bM bB bR bQ); let A1_ := (Body.mk aI (Shape.mk aK aW aH) (Vec.mk aX aY) (Vec.mk aU aV) aM aB aR aQ); let A5_ := (w_ (Int.tdiv (w_ (together A1_ A2_ (closing A1_ A2_ (Vec.mk hX hY)) * if bR < aR then bR else aR)) (256 : Int))); let A4_ := (together A1_ A2_ (closing A1_ A2_ (Vec.mk (w_ ((0 : Int) - hY)) hX))); let A9_ := (withinI (w_ (Int.tdiv (w_ (w_ (together A1_ A2_ (closing A1_ A2_ (Vec.mk hX hY)) * hY) + w_ (withinI A4_ A5_ * hX))) (256 : Int))) (20000000 : Int)); let A7_ := (withinI (w_ (Int.tdiv (w_ (w_ (together A1_ A2_ (closing A1_ A2_ (Vec.mk hX hY)) * hX) + w_ (withinI A4_ A5_ * w_ ((0 : Int) - hY)))) (256 : Int))) (20000000 : Int)); let A3_ := (w_ (closing A1_ A2_ (Vec.mk hX hY) + w_ (Int.tdiv (w_ (closing A1_ A2_ (Vec.mk hX hY) * if bB > aB then bB else aB)) (256 : Int)))); let A6_ := (w_ (Int.tdiv (w_ (together A1_ A2_ A3_ * if bR < aR then bR else aR)) (256 : Int))); let A10_ := (withinI (w_ (Int.tdiv (w_ (w_ (together A1_ A2_ A3_ * hY) + w_ (withinI A4_ A6_ * hX))) (256 : Int))) (20000000 : Int)); let A8_ := (withinI (w_ (Int.tdiv (w_ (w_ (together A1_ A2_ A3_ * hX) + w_ (withinI A4_ A6_ * w_ ((0 : Int) - hY)))) (256 : Int))) (20000000 : Int)); ifB (decide (closing A1_ A2_ (Vec.mk hX hY) ≤ (0 : Int))) (Q (SV.agg [s_ (0 : Int), s_ (0 : Int)]) []) (ifB (aM == (0 : Int)) (ifB (bM == (0 : Int)) (Q (SV.agg [s_ (0 : Int), s_ (0 : Int)]) []) (ifB z ((POk A1_ ∧ POk A2_) ∧ (POk A1_ ∧ POk A2_) ∧ Q (SV.agg [s_ A8_, s_ A10_]) []) ((POk A1_ ∧ POk A2_) ∧ (POk A1_ ∧ POk A2_) ∧ Q (SV.agg [s_ A7_, s_ A9_]) []))) (ifB z ((POk A1_ ∧ POk A2_) ∧ (POk A1_ ∧ POk A2_) ∧ Q (SV.agg [s_ A8_, s_ A10_]) []) ((POk A1_ ∧ POk A2_) ∧ (POk A1_ ∧ POk A2_) ∧ Q (SV.agg [s_ A7_, s_ A9_]) [])))) := by kernel_rfl

theorem ok_implPushOfIn : FsOk Try.prog 16 fs_implPushOfIn := fsOk_of tt_ok (tabFs_cons ok_implClosingIn (tabFs_cons ok_bodyFixed (tabFs_cons ok_implTogether (tabFs_cons ok_implWithin (tabFs_cons ok_vecClamped tabFs_nil))))) mixed Try.func16 (by kernel_rfl) (by kernel_rfl) (by
    intro args LL p r HH h hp
    unfold fs_implPushOfIn at h
    dsimp only at h
    split at h
    case h_2 => cases h
    rename_i aI aK aW aH aX aY aU aV aM aB aR aQ bI bK bW bH bX bY bU bV bM bB bR bQ hX hY hD z
    simp only [Option.some.injEq, Prod.mk.injEq] at h
    obtain ⟨rfl, rfl, rfl⟩ := h
    refine ⟨by simp [Form, stays], L0, ?_⟩
    rw [vc_implPushOfIn]
    try dsimp only
    obtain ⟨pa, pb⟩ := hp _ rfl
    have pz : closing (Body.mk aI (Shape.mk aK aW aH) (Vec.mk aX aY) (Vec.mk aU aV) aM aB aR aQ) (Body.mk bI (Shape.mk bK bW bH) (Vec.mk bX bY) (Vec.mk bU bV) bM bB bR bQ) (Vec.mk hX hY) ≤ 0 ∨ (aM == 0 && bM == 0) = true → pushV (Body.mk aI (Shape.mk aK aW aH) (Vec.mk aX aY) (Vec.mk aU aV) aM aB aR aQ) (Body.mk bI (Shape.mk bK bW bH) (Vec.mk bX bY) (Vec.mk bU bV) bM bB bR bQ) (Hit.mk (Vec.mk hX hY) hD) z = ⟨0, 0⟩ := fun q => pushV_zero (h := (Hit.mk (Vec.mk hX hY) hD)) q
    have ps : ¬ closing (Body.mk aI (Shape.mk aK aW aH) (Vec.mk aX aY) (Vec.mk aU aV) aM aB aR aQ) (Body.mk bI (Shape.mk bK bW bH) (Vec.mk bX bY) (Vec.mk bU bV) bM bB bR bQ) (Vec.mk hX hY) ≤ 0 → (aM == 0 && bM == 0) = false → pushV (Body.mk aI (Shape.mk aK aW aH) (Vec.mk aX aY) (Vec.mk aU aV) aM aB aR aQ) (Body.mk bI (Shape.mk bK bW bH) (Vec.mk bX bY) (Vec.mk bU bV) bM bB bR bQ) (Hit.mk (Vec.mk hX hY) hD) z = pushW (Body.mk aI (Shape.mk aK aW aH) (Vec.mk aX aY) (Vec.mk aU aV) aM aB aR aQ) (Body.mk bI (Shape.mk bK bW bH) (Vec.mk bX bY) (Vec.mk bU bV) bM bB bR bQ) (Hit.mk (Vec.mk hX hY) hD) (pushP (Body.mk aI (Shape.mk aK aW aH) (Vec.mk aX aY) (Vec.mk aU aV) aM aB aR aQ) (Body.mk bI (Shape.mk bK bW bH) (Vec.mk bX bY) (Vec.mk bU bV) bM bB bR bQ) (closing (Body.mk aI (Shape.mk aK aW aH) (Vec.mk aX aY) (Vec.mk aU aV) aM aB aR aQ) (Body.mk bI (Shape.mk bK bW bH) (Vec.mk bX bY) (Vec.mk bU bV) bM bB bR bQ) (Vec.mk hX hY)) z) := fun q r => pushV_some (h := (Hit.mk (Vec.mk hX hY) hD)) q r
    refine ifB_of (fun c1 => ?_) (fun c1 => ?_)
    · rw [pz (.inl (of_decide_eq_true c1))]
      exact ⟨(by trivial), (by trivial)⟩
    have c1 := of_decide_eq_false c1
    simp only [max_if, min_if]
    refine ifB_of (fun c2 => ifB_of (fun c3 => ?_) (fun c3 => ?_)) (fun c2 => ?_)
    · rw [pz (.inr (by simp [c2, c3]))]
      exact ⟨(by trivial), (by trivial)⟩
    · have hm : ¬ (aM = 0 ∧ bM = 0) := by simp at c2 c3; omega
      rw [ps c1 (by simp [c2, c3])]
      refine ifB_of (fun c4 => ?_) (fun c4 => ?_)
      · subst c4
        refine ⟨⟨pa, pb⟩, ⟨pa, pb⟩, ?_⟩
        (exact ⟨(by trivial), (by trivial)⟩)
      · subst c4
        refine ⟨⟨pa, pb⟩, ⟨pa, pb⟩, ?_⟩
        (exact ⟨(by trivial), (by trivial)⟩)
    · have hm : ¬ (aM = 0 ∧ bM = 0) := by simp at c2; omega
      rw [ps c1 (by simp [c2])]
      refine ifB_of (fun c4 => ?_) (fun c4 => ?_)
      · subst c4
        refine ⟨⟨pa, pb⟩, ⟨pa, pb⟩, ?_⟩
        (exact ⟨(by trivial), (by trivial)⟩)
      · subst c4
        refine ⟨⟨pa, pb⟩, ⟨pa, pb⟩, ?_⟩
        (exact ⟨(by trivial), (by trivial)⟩))

noncomputable def fs_l8Push : Fs := ⟨[], fun args H => match args, H with
  | [.agg [.int .i64 aI, .int .i64 aK, .int .i64 aW, .int .i64 aH, .int .i64 aX, .int .i64 aY, .int .i64 aU, .int .i64 aV, .int .i64 aM, .int .i64 aB, .int .i64 aR, .int .i64 aQ], .agg [.int .i64 bI, .int .i64 bK, .int .i64 bW, .int .i64 bH, .int .i64 bX, .int .i64 bY, .int .i64 bU, .int .i64 bV, .int .i64 bM, .int .i64 bB, .int .i64 bR, .int .i64 bQ], .agg [.int .i64 hX, .int .i64 hY, .int .i64 hD], .bool z], [] => some ((some (POk (Body.mk aI (Shape.mk aK aW aH) (Vec.mk aX aY) (Vec.mk aU aV) aM aB aR aQ) ∧ POk (Body.mk bI (Shape.mk bK bW bH) (Vec.mk bX bY) (Vec.mk bU bV) bM bB bR bQ))), .agg [.int .i64 (pushV (Body.mk aI (Shape.mk aK aW aH) (Vec.mk aX aY) (Vec.mk aU aV) aM aB aR aQ) (Body.mk bI (Shape.mk bK bW bH) (Vec.mk bX bY) (Vec.mk bU bV) bM bB bR bQ) (Hit.mk (Vec.mk hX hY) hD) z).X, .int .i64 (pushV (Body.mk aI (Shape.mk aK aW aH) (Vec.mk aX aY) (Vec.mk aU aV) aM aB aR aQ) (Body.mk bI (Shape.mk bK bW bH) (Vec.mk bX bY) (Vec.mk bU bV) bM bB bR bQ) (Hit.mk (Vec.mk hX hY) hD) z).Y], [])
  | _, _ => none⟩

theorem vc_l8Push (aI : Int) (aK : Int) (aW : Int) (aH : Int) (aX : Int) (aY : Int) (aU : Int) (aV : Int) (aM : Int) (aB : Int) (aR : Int) (aQ : Int) (bI : Int) (bK : Int) (bW : Int) (bH : Int) (bX : Int) (bY : Int) (bU : Int) (bV : Int) (bM : Int) (bB : Int) (bR : Int) (bQ : Int) (hX : Int) (hY : Int) (hD : Int) (z : Bool) (Q : SV → List Ent → Prop) :
    fnVC tt (look [(38, fs_l8Closing), (39, fs_l3More), (40, fs_l8Mass), (41, fs_specVecDot), (42, fs_specVecSub), (43, fs_specSpeed), (44, fs_l3Less), (45, fs_specWithin)]) L0 Try.f18 [.agg [.int .i64 aI, .int .i64 aK, .int .i64 aW, .int .i64 aH, .int .i64 aX, .int .i64 aY, .int .i64 aU, .int .i64 aV, .int .i64 aM, .int .i64 aB, .int .i64 aR, .int .i64 aQ], .agg [.int .i64 bI, .int .i64 bK, .int .i64 bW, .int .i64 bH, .int .i64 bX, .int .i64 bY, .int .i64 bU, .int .i64 bV, .int .i64 bM, .int .i64 bB, .int .i64 bR, .int .i64 bQ], .agg [.int .i64 hX, .int .i64 hY, .int .i64 hD], .bool z] [] Q =
    (let w_ := IntKind.wrap IntKind.i64; let s_ := SV.int IntKind.i64; let A2_ := (Body.mk bI (Shape.mk bK bW bH) (Vec.mk bX bY) (Vec.mk bU bV) bM bB bR bQ); let A1_ := (Body.mk aI (Shape.mk aK aW aH) (Vec.mk aX aY) (Vec.mk aU aV) aM aB aR aQ); let A4_ := (together A1_ A2_ (dot (vecSub (speed A1_) (speed A2_)) (Vec.mk (w_ ((0 : Int) - hY)) hX))); let A6_ := (withinS (w_ (Int.tdiv (w_ (w_ (together A1_ A2_ (closing A1_ A2_ (Vec.mk hX hY)) * hY) + w_ (withinS A4_ (w_ (Int.tdiv (w_ (together A1_ A2_ (closing A1_ A2_ (Vec.mk hX hY)) * min aR bR)) (256 : Int))) * hX))) (256 : Int))) (20000000 : Int)); let A5_ := (withinS (w_ (Int.tdiv (w_ (w_ (together A1_ A2_ (closing A1_ A2_ (Vec.mk hX hY)) * hX) + w_ (withinS A4_ (w_ (Int.tdiv (w_ (together A1_ A2_ (closing A1_ A2_ (Vec.mk hX hY)) * min aR bR)) (256 : Int))) * w_ ((0 : Int) - hY)))) (256 : Int))) (20000000 : Int)); let A3_ := (w_ (closing A1_ A2_ (Vec.mk hX hY) + w_ (Int.tdiv (w_ (closing A1_ A2_ (Vec.mk hX hY) * max aB bB)) (256 : Int)))); let A8_ := (withinS (w_ (Int.tdiv (w_ (w_ (together A1_ A2_ A3_ * hY) + w_ (withinS A4_ (w_ (Int.tdiv (w_ (together A1_ A2_ A3_ * min aR bR)) (256 : Int))) * hX))) (256 : Int))) (20000000 : Int)); let A7_ := (withinS (w_ (Int.tdiv (w_ (w_ (together A1_ A2_ A3_ * hX) + w_ (withinS A4_ (w_ (Int.tdiv (w_ (together A1_ A2_ A3_ * min aR bR)) (256 : Int))) * w_ ((0 : Int) - hY)))) (256 : Int))) (20000000 : Int)); ifB (decide (closing A1_ A2_ (Vec.mk hX hY) ≤ (0 : Int))) (Q (SV.agg [s_ (0 : Int), s_ (0 : Int)]) []) (ifB (aM == (0 : Int)) (ifB (bM == (0 : Int)) (Q (SV.agg [s_ (0 : Int), s_ (0 : Int)]) []) (ifB z ((POk A1_ ∧ POk A2_) ∧ (POk A1_ ∧ POk A2_) ∧ Q (SV.agg [s_ A7_, s_ A8_]) []) ((POk A1_ ∧ POk A2_) ∧ (POk A1_ ∧ POk A2_) ∧ Q (SV.agg [s_ A5_, s_ A6_]) []))) (ifB z ((POk A1_ ∧ POk A2_) ∧ (POk A1_ ∧ POk A2_) ∧ Q (SV.agg [s_ A7_, s_ A8_]) []) ((POk A1_ ∧ POk A2_) ∧ (POk A1_ ∧ POk A2_) ∧ Q (SV.agg [s_ A5_, s_ A6_]) [])))) := by kernel_rfl

theorem ok_l8Push : FsOk Try.prog 18 fs_l8Push := fsOk_of tt_ok (tabFs_cons ok_l8Closing (tabFs_cons ok_l3More (tabFs_cons ok_l8Mass (tabFs_cons ok_specVecDot (tabFs_cons ok_specVecSub (tabFs_cons ok_specSpeed (tabFs_cons ok_l3Less (tabFs_cons ok_specWithin tabFs_nil)))))))) mixed Try.func18 (by kernel_rfl) (by kernel_rfl) (by
    intro args LL p r HH h hp
    unfold fs_l8Push at h
    dsimp only at h
    split at h
    case h_2 => cases h
    rename_i aI aK aW aH aX aY aU aV aM aB aR aQ bI bK bW bH bX bY bU bV bM bB bR bQ hX hY hD z
    simp only [Option.some.injEq, Prod.mk.injEq] at h
    obtain ⟨rfl, rfl, rfl⟩ := h
    refine ⟨by simp [Form, stays], L0, ?_⟩
    rw [vc_l8Push]
    try dsimp only
    obtain ⟨pa, pb⟩ := hp _ rfl
    have pz : closing (Body.mk aI (Shape.mk aK aW aH) (Vec.mk aX aY) (Vec.mk aU aV) aM aB aR aQ) (Body.mk bI (Shape.mk bK bW bH) (Vec.mk bX bY) (Vec.mk bU bV) bM bB bR bQ) (Vec.mk hX hY) ≤ 0 ∨ (aM == 0 && bM == 0) = true → pushV (Body.mk aI (Shape.mk aK aW aH) (Vec.mk aX aY) (Vec.mk aU aV) aM aB aR aQ) (Body.mk bI (Shape.mk bK bW bH) (Vec.mk bX bY) (Vec.mk bU bV) bM bB bR bQ) (Hit.mk (Vec.mk hX hY) hD) z = ⟨0, 0⟩ := fun q => pushV_zero (h := (Hit.mk (Vec.mk hX hY) hD)) q
    have ps : ¬ closing (Body.mk aI (Shape.mk aK aW aH) (Vec.mk aX aY) (Vec.mk aU aV) aM aB aR aQ) (Body.mk bI (Shape.mk bK bW bH) (Vec.mk bX bY) (Vec.mk bU bV) bM bB bR bQ) (Vec.mk hX hY) ≤ 0 → (aM == 0 && bM == 0) = false → pushV (Body.mk aI (Shape.mk aK aW aH) (Vec.mk aX aY) (Vec.mk aU aV) aM aB aR aQ) (Body.mk bI (Shape.mk bK bW bH) (Vec.mk bX bY) (Vec.mk bU bV) bM bB bR bQ) (Hit.mk (Vec.mk hX hY) hD) z = pushW (Body.mk aI (Shape.mk aK aW aH) (Vec.mk aX aY) (Vec.mk aU aV) aM aB aR aQ) (Body.mk bI (Shape.mk bK bW bH) (Vec.mk bX bY) (Vec.mk bU bV) bM bB bR bQ) (Hit.mk (Vec.mk hX hY) hD) (pushP (Body.mk aI (Shape.mk aK aW aH) (Vec.mk aX aY) (Vec.mk aU aV) aM aB aR aQ) (Body.mk bI (Shape.mk bK bW bH) (Vec.mk bX bY) (Vec.mk bU bV) bM bB bR bQ) (closing (Body.mk aI (Shape.mk aK aW aH) (Vec.mk aX aY) (Vec.mk aU aV) aM aB aR aQ) (Body.mk bI (Shape.mk bK bW bH) (Vec.mk bX bY) (Vec.mk bU bV) bM bB bR bQ) (Vec.mk hX hY)) z) := fun q r => pushV_some (h := (Hit.mk (Vec.mk hX hY) hD)) q r
    refine ifB_of (fun c1 => ?_) (fun c1 => ?_)
    · rw [pz (.inl (of_decide_eq_true c1))]
      exact ⟨(by trivial), (by trivial)⟩
    have c1 := of_decide_eq_false c1
    have k : ∀ n, withinS n 20000000 = withinI n 20000000 := fun n => withinS_eq (by omega) (by omega)
    have cl := closing_le (Body.mk aI (Shape.mk aK aW aH) (Vec.mk aX aY) (Vec.mk aU aV) aM aB aR aQ) (Body.mk bI (Shape.mk bK bW bH) (Vec.mk bX bY) (Vec.mk bU bV) bM bB bR bQ) (Vec.mk hX hY)
    simp only [k]
    have key : ∀ (z : Bool), ¬ (aM = 0 ∧ bM = 0) → ∀ n, withinS n (W ((W (pushP (Body.mk aI (Shape.mk aK aW aH) (Vec.mk aX aY) (Vec.mk aU aV) aM aB aR aQ) (Body.mk bI (Shape.mk bK bW bH) (Vec.mk bX bY) (Vec.mk bU bV) bM bB bR bQ) (closing (Body.mk aI (Shape.mk aK aW aH) (Vec.mk aX aY) (Vec.mk aU aV) aM aB aR aQ) (Body.mk bI (Shape.mk bK bW bH) (Vec.mk bX bY) (Vec.mk bU bV) bM bB bR bQ) (Vec.mk hX hY)) z * min aR bR)).tdiv 256)) = withinI n (W ((W (pushP (Body.mk aI (Shape.mk aK aW aH) (Vec.mk aX aY) (Vec.mk aU aV) aM aB aR aQ) (Body.mk bI (Shape.mk bK bW bH) (Vec.mk bX bY) (Vec.mk bU bV) bM bB bR bQ) (closing (Body.mk aI (Shape.mk aK aW aH) (Vec.mk aX aY) (Vec.mk aU aV) aM aB aR aQ) (Body.mk bI (Shape.mk bK bW bH) (Vec.mk bX bY) (Vec.mk bU bV) bM bB bR bQ) (Vec.mk hX hY)) z * min aR bR)).tdiv 256)) := by
      intro z hm n
      have hp := pushP_le pa pb hm (show 0 ≤ closing (Body.mk aI (Shape.mk aK aW aH) (Vec.mk aX aY) (Vec.mk aU aV) aM aB aR aQ) (Body.mk bI (Shape.mk bK bW bH) (Vec.mk bX bY) (Vec.mk bU bV) bM bB bR bQ) (Vec.mk hX hY) by omega) cl.2 z
      have hq := most_le pa pb hp.1 hp.2
      exact withinS_eq hq.1 (Int.le_trans hq.2 (by omega))
    refine ifB_of (fun c2 => ifB_of (fun c3 => ?_) (fun c3 => ?_)) (fun c2 => ?_)
    · rw [pz (.inr (by simp [c2, c3]))]
      exact ⟨(by trivial), (by trivial)⟩
    · have hm : ¬ (aM = 0 ∧ bM = 0) := by simp at c2 c3; omega
      rw [ps c1 (by simp [c2, c3])]
      refine ifB_of (fun c4 => ?_) (fun c4 => ?_)
      · subst c4
        refine ⟨⟨pa, pb⟩, ⟨pa, pb⟩, ?_⟩
        (have q := key true hm; simp only [pushP, cond_true, cond_false] at q; rw [q]; exact ⟨rfl, (by trivial)⟩)
      · subst c4
        refine ⟨⟨pa, pb⟩, ⟨pa, pb⟩, ?_⟩
        (have q := key false hm; simp only [pushP, cond_true, cond_false] at q; rw [q]; exact ⟨rfl, (by trivial)⟩)
    · have hm : ¬ (aM = 0 ∧ bM = 0) := by simp at c2; omega
      rw [ps c1 (by simp [c2])]
      refine ifB_of (fun c4 => ?_) (fun c4 => ?_)
      · subst c4
        refine ⟨⟨pa, pb⟩, ⟨pa, pb⟩, ?_⟩
        (have q := key true hm; simp only [pushP, cond_true, cond_false] at q; rw [q]; exact ⟨rfl, (by trivial)⟩)
      · subst c4
        refine ⟨⟨pa, pb⟩, ⟨pa, pb⟩, ?_⟩
        (have q := key false hm; simp only [pushP, cond_true, cond_false] at q; rw [q]; exact ⟨rfl, (by trivial)⟩))

noncomputable def fs_implPushOf : Fs := ⟨[], fun args H => match args, H with
  | [.agg [.int .i64 aI, .int .i64 aK, .int .i64 aW, .int .i64 aH, .int .i64 aX, .int .i64 aY, .int .i64 aU, .int .i64 aV, .int .i64 aM, .int .i64 aB, .int .i64 aR, .int .i64 aQ], .agg [.int .i64 bI, .int .i64 bK, .int .i64 bW, .int .i64 bH, .int .i64 bX, .int .i64 bY, .int .i64 bU, .int .i64 bV, .int .i64 bM, .int .i64 bB, .int .i64 bR, .int .i64 bQ], .agg [.int .i64 hX, .int .i64 hY, .int .i64 hD], .bool z], [] => some (none, .agg [.int .i64 (pushOfV (Body.mk aI (Shape.mk aK aW aH) (Vec.mk aX aY) (Vec.mk aU aV) aM aB aR aQ) (Body.mk bI (Shape.mk bK bW bH) (Vec.mk bX bY) (Vec.mk bU bV) bM bB bR bQ) (Hit.mk (Vec.mk hX hY) hD) z).X, .int .i64 (pushOfV (Body.mk aI (Shape.mk aK aW aH) (Vec.mk aX aY) (Vec.mk aU aV) aM aB aR aQ) (Body.mk bI (Shape.mk bK bW bH) (Vec.mk bX bY) (Vec.mk bU bV) bM bB bR bQ) (Hit.mk (Vec.mk hX hY) hD) z).Y], [])
  | _, _ => none⟩

theorem vc_implPushOf (aI : Int) (aK : Int) (aW : Int) (aH : Int) (aX : Int) (aY : Int) (aU : Int) (aV : Int) (aM : Int) (aB : Int) (aR : Int) (aQ : Int) (bI : Int) (bK : Int) (bW : Int) (bH : Int) (bX : Int) (bY : Int) (bU : Int) (bV : Int) (bM : Int) (bB : Int) (bR : Int) (bQ : Int) (hX : Int) (hY : Int) (hD : Int) (z : Bool) (Q : SV → List Ent → Prop) :
    fnVC tt (look [(14, fs_implBodyOk), (15, fs_implHitOk), (16, fs_implPushOfIn)]) L0 Try.f5 [.agg [.int .i64 aI, .int .i64 aK, .int .i64 aW, .int .i64 aH, .int .i64 aX, .int .i64 aY, .int .i64 aU, .int .i64 aV, .int .i64 aM, .int .i64 aB, .int .i64 aR, .int .i64 aQ], .agg [.int .i64 bI, .int .i64 bK, .int .i64 bW, .int .i64 bH, .int .i64 bX, .int .i64 bY, .int .i64 bU, .int .i64 bV, .int .i64 bM, .int .i64 bB, .int .i64 bR, .int .i64 bQ], .agg [.int .i64 hX, .int .i64 hY, .int .i64 hD], .bool z] [] Q =
    (ifB (!bodyOk (Body.mk aI (Shape.mk aK aW aH) (Vec.mk aX aY) (Vec.mk aU aV) aM aB aR aQ)) (Q (SV.agg [SV.int IntKind.i64 (0 : Int), SV.int IntKind.i64 (0 : Int)]) []) (ifB (!bodyOk (Body.mk bI (Shape.mk bK bW bH) (Vec.mk bX bY) (Vec.mk bU bV) bM bB bR bQ)) (Q (SV.agg [SV.int IntKind.i64 (0 : Int), SV.int IntKind.i64 (0 : Int)]) []) (ifB (!hitOk (Hit.mk (Vec.mk hX hY) hD)) (Q (SV.agg [SV.int IntKind.i64 (0 : Int), SV.int IntKind.i64 (0 : Int)]) []) ((POk (Body.mk aI (Shape.mk aK aW aH) (Vec.mk aX aY) (Vec.mk aU aV) aM aB aR aQ) ∧ POk (Body.mk bI (Shape.mk bK bW bH) (Vec.mk bX bY) (Vec.mk bU bV) bM bB bR bQ)) ∧ Q (SV.agg [SV.int IntKind.i64 (Vec.X (pushV (Body.mk aI (Shape.mk aK aW aH) (Vec.mk aX aY) (Vec.mk aU aV) aM aB aR aQ) (Body.mk bI (Shape.mk bK bW bH) (Vec.mk bX bY) (Vec.mk bU bV) bM bB bR bQ) (Hit.mk (Vec.mk hX hY) hD) z)), SV.int IntKind.i64 (Vec.Y (pushV (Body.mk aI (Shape.mk aK aW aH) (Vec.mk aX aY) (Vec.mk aU aV) aM aB aR aQ) (Body.mk bI (Shape.mk bK bW bH) (Vec.mk bX bY) (Vec.mk bU bV) bM bB bR bQ) (Hit.mk (Vec.mk hX hY) hD) z))]) [])))) := by kernel_rfl

theorem ok_implPushOf : FsOk Try.prog 5 fs_implPushOf := fsOk_of tt_ok (tabFs_cons ok_implBodyOk (tabFs_cons ok_implHitOk (tabFs_cons ok_implPushOfIn tabFs_nil))) mixed Try.func5 (by kernel_rfl) (by kernel_rfl) (by
    intro args LL p r HH h hp
    unfold fs_implPushOf at h
    dsimp only at h
    split at h
    case h_2 => cases h
    rename_i aI aK aW aH aX aY aU aV aM aB aR aQ bI bK bW bH bX bY bU bV bM bB bR bQ hX hY hD z
    simp only [Option.some.injEq, Prod.mk.injEq] at h
    obtain ⟨rfl, rfl, rfl⟩ := h
    refine ⟨by simp [Form, stays], L0, ?_⟩
    rw [vc_implPushOf]
    try dsimp only
    refine ifB_of (fun c1 => ?_) (fun c1 => ifB_of (fun c2 => ?_) (fun c2 => ifB_of (fun c3 => ?_) (fun c3 => ⟨⟨pok_of (not_false c1), pok_of (not_false c2)⟩, ?_⟩)))
    · simp [pushOfV, not_true c1]
    · simp [pushOfV, not_true c2]
    · simp [pushOfV, not_true c3]
    · simp [pushOfV, not_false c1, not_false c2, not_false c3])

noncomputable def fs_specPushOf : Fs := ⟨[], fun args H => match args, H with
  | [.agg [.int .i64 aI, .int .i64 aK, .int .i64 aW, .int .i64 aH, .int .i64 aX, .int .i64 aY, .int .i64 aU, .int .i64 aV, .int .i64 aM, .int .i64 aB, .int .i64 aR, .int .i64 aQ], .agg [.int .i64 bI, .int .i64 bK, .int .i64 bW, .int .i64 bH, .int .i64 bX, .int .i64 bY, .int .i64 bU, .int .i64 bV, .int .i64 bM, .int .i64 bB, .int .i64 bR, .int .i64 bQ], .agg [.int .i64 hX, .int .i64 hY, .int .i64 hD], .bool z], [] => some (none, .agg [.int .i64 (pushOfV (Body.mk aI (Shape.mk aK aW aH) (Vec.mk aX aY) (Vec.mk aU aV) aM aB aR aQ) (Body.mk bI (Shape.mk bK bW bH) (Vec.mk bX bY) (Vec.mk bU bV) bM bB bR bQ) (Hit.mk (Vec.mk hX hY) hD) z).X, .int .i64 (pushOfV (Body.mk aI (Shape.mk aK aW aH) (Vec.mk aX aY) (Vec.mk aU aV) aM aB aR aQ) (Body.mk bI (Shape.mk bK bW bH) (Vec.mk bX bY) (Vec.mk bU bV) bM bB bR bQ) (Hit.mk (Vec.mk hX hY) hD) z).Y], [])
  | _, _ => none⟩

theorem vc_specPushOf (aI : Int) (aK : Int) (aW : Int) (aH : Int) (aX : Int) (aY : Int) (aU : Int) (aV : Int) (aM : Int) (aB : Int) (aR : Int) (aQ : Int) (bI : Int) (bK : Int) (bW : Int) (bH : Int) (bX : Int) (bY : Int) (bU : Int) (bV : Int) (bM : Int) (bB : Int) (bR : Int) (bQ : Int) (hX : Int) (hY : Int) (hD : Int) (z : Bool) (Q : SV → List Ent → Prop) :
    fnVC tt (look [(7, fs_specBodyOk), (17, fs_specHitOk), (18, fs_l8Push)]) L0 Try.f6 [.agg [.int .i64 aI, .int .i64 aK, .int .i64 aW, .int .i64 aH, .int .i64 aX, .int .i64 aY, .int .i64 aU, .int .i64 aV, .int .i64 aM, .int .i64 aB, .int .i64 aR, .int .i64 aQ], .agg [.int .i64 bI, .int .i64 bK, .int .i64 bW, .int .i64 bH, .int .i64 bX, .int .i64 bY, .int .i64 bU, .int .i64 bV, .int .i64 bM, .int .i64 bB, .int .i64 bR, .int .i64 bQ], .agg [.int .i64 hX, .int .i64 hY, .int .i64 hD], .bool z] [] Q =
    (ifB (!bodyOk (Body.mk aI (Shape.mk aK aW aH) (Vec.mk aX aY) (Vec.mk aU aV) aM aB aR aQ)) (Q (SV.agg [SV.int IntKind.i64 (0 : Int), SV.int IntKind.i64 (0 : Int)]) []) (ifB (!bodyOk (Body.mk bI (Shape.mk bK bW bH) (Vec.mk bX bY) (Vec.mk bU bV) bM bB bR bQ)) (Q (SV.agg [SV.int IntKind.i64 (0 : Int), SV.int IntKind.i64 (0 : Int)]) []) (ifB (!hitOk (Hit.mk (Vec.mk hX hY) hD)) (Q (SV.agg [SV.int IntKind.i64 (0 : Int), SV.int IntKind.i64 (0 : Int)]) []) ((POk (Body.mk aI (Shape.mk aK aW aH) (Vec.mk aX aY) (Vec.mk aU aV) aM aB aR aQ) ∧ POk (Body.mk bI (Shape.mk bK bW bH) (Vec.mk bX bY) (Vec.mk bU bV) bM bB bR bQ)) ∧ Q (SV.agg [SV.int IntKind.i64 (Vec.X (pushV (Body.mk aI (Shape.mk aK aW aH) (Vec.mk aX aY) (Vec.mk aU aV) aM aB aR aQ) (Body.mk bI (Shape.mk bK bW bH) (Vec.mk bX bY) (Vec.mk bU bV) bM bB bR bQ) (Hit.mk (Vec.mk hX hY) hD) z)), SV.int IntKind.i64 (Vec.Y (pushV (Body.mk aI (Shape.mk aK aW aH) (Vec.mk aX aY) (Vec.mk aU aV) aM aB aR aQ) (Body.mk bI (Shape.mk bK bW bH) (Vec.mk bX bY) (Vec.mk bU bV) bM bB bR bQ) (Hit.mk (Vec.mk hX hY) hD) z))]) [])))) := by kernel_rfl

theorem ok_specPushOf : FsOk Try.prog 6 fs_specPushOf := fsOk_of tt_ok (tabFs_cons ok_specBodyOk (tabFs_cons ok_specHitOk (tabFs_cons ok_l8Push tabFs_nil))) mixed Try.func6 (by kernel_rfl) (by kernel_rfl) (by
    intro args LL p r HH h hp
    unfold fs_specPushOf at h
    dsimp only at h
    split at h
    case h_2 => cases h
    rename_i aI aK aW aH aX aY aU aV aM aB aR aQ bI bK bW bH bX bY bU bV bM bB bR bQ hX hY hD z
    simp only [Option.some.injEq, Prod.mk.injEq] at h
    obtain ⟨rfl, rfl, rfl⟩ := h
    refine ⟨by simp [Form, stays], L0, ?_⟩
    rw [vc_specPushOf]
    try dsimp only
    refine ifB_of (fun c1 => ?_) (fun c1 => ifB_of (fun c2 => ?_) (fun c2 => ifB_of (fun c3 => ?_) (fun c3 => ⟨⟨pok_of (not_false c1), pok_of (not_false c2)⟩, ?_⟩)))
    · simp [pushOfV, not_true c1]
    · simp [pushOfV, not_true c2]
    · simp [pushOfV, not_true c3]
    · simp [pushOfV, not_false c1, not_false c2, not_false c3])


/-! ### Worlds -/
structure World where
  Tick : Int
  Pull : Int
  Bodies : List Body
  Pairs : List Pair
instance : Nonempty World := ⟨⟨0, 0, [], []⟩⟩
def pullOf (p : Int) : Int := bif isIn p 0 2560 then p else 0
noncomputable def eqW4 (a b : Int) (xs : List Body) (ps : List Pair) (c d : Int) (ys : List Body) (qs : List Pair) : Bool := a == c && b == d && (same xs ys && same ps qs)
@[simp] theorem eqW4_self (a b : Int) (xs : List Body) (ps : List Pair) : eqW4 a b xs ps a b xs ps = true := by simp [eqW4]
noncomputable def heldW (k : Int) (xs : List Body) (ps : List Pair) : Int :=
  bif same xs (gen (fun e => mkBody (k + 12 * (e : Int))) xs.length) && same ps (gen (fun e => mkPair (k + 12 * xs.length + 2 * (e : Int))) ps.length) then k + 12 * xs.length + 2 * ps.length else -1
theorem heldW_marked {k : Int} {m n : Nat} : heldW k (gen (fun e => mkBody (k + 12 * (e : Int))) m) (gen (fun e => mkPair (k + 12 * m + 2 * (e : Int))) n) = k + 12 * m + 2 * n := by
  simp [heldW]
end Go.Proofs.Ytmflfpedmbfhkaa.Sym
