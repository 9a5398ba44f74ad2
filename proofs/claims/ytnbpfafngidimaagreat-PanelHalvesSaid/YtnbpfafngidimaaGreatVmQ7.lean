/- Two runs side by side: angles of near points on the same side are near; no conditions. -/
import Derived.Test.YtnbpfafngidimaaGreatVmQ1
namespace Go.Vm
open Ieee
set_option linter.unusedVariables false
set_option linter.unusedSimpArgs false

def baseA {R : Type} (p q : Nat) (f : Nat → Option R) : Option R := forceB (leF p q) fun t => match t with | true => baseL p q f | false => baseG p q f
theorem baseA_L {p q : Nat} {P Q : Rat} (hp : Is p P) (hq : Is q Q) (h : P ≤ Q) {R : Type} (f : Nat → Option R) : baseA p q f = baseL p q f := by
  unfold baseA
  rw [leF_is hp hq, decide_eq_true h, forceB_eq]
theorem baseA_G {p q : Nat} {P Q : Rat} (hp : Is p P) (hq : Is q Q) (h : ¬ P ≤ Q) {R : Type} (f : Nat → Option R) : baseA p q f = baseG p q f := by
  unfold baseA
  rw [leF_is hp hq, decide_eq_false h, forceB_eq]
theorem base_pr {A k : Rat} {p p' q q' : Nat} (hp : Pr A k p p') (hq : Pr A k q q') (hk : 0 ≤ k) (b : ∀ x y, Is p x → Is q y → 0 ≤ x ∧ 0 ≤ y ∧ (7 / 20 ≤ x ∨ 7 / 20 ≤ y)) (b' : ∀ x y, Is p' x → Is q' y → 0 ≤ x ∧ 0 ≤ y ∧ (7 / 20 ≤ x ∨ 7 / 20 ≤ y)) :
    ∃ c c', Pr (16 / 5) (53 / 5 * k + 81) c c' ∧ (∀ (R : Type) (f : Nat → Option R), baseA p q f = f c) ∧ ∀ (R : Type) (f : Nat → Option R), baseA p' q' f = f c' := by
  have hp0 := hp
  have hq0 := hq
  obtain ⟨x, x', h1, h2, _⟩ := hp
  obtain ⟨y, y', g1, g2, _⟩ := hq
  have v := b x y h1 g1
  have v' := b' x' y' h2 g2
  have L : ∀ {w w' : Nat} {u u' : Rat}, Is w u → Is w' u' → 0 ≤ u → u ≤ u' → 7 / 20 ≤ u' → ∀ a b, Is w a → Is w' b → 0 ≤ a ∧ a ≤ b ∧ 7 / 20 ≤ b := fun hu hu' h0 h1 h3 a b ha hb => by
    have e1 := is_fun ha hu
    have e2 := is_fun hb hu'
    subst e1 e2
    exact ⟨h0, h1, h3⟩
  by_cases f : x ≤ y
  · by_cases f' : x' ≤ y'
    · obtain ⟨c, c', p1, e1, e2⟩ := baseL_pr hp0 hq0 hk hk (L h1 g1 v.1 f (by grind)) (L h2 g2 v'.1 f' (by grind))
      exact ⟨c, c', p1.mono Rat.le_refl (by grind), fun R g => (baseA_L h1 g1 f g).trans (e1 R g), fun R g => (baseA_L h2 g2 f' g).trans (e2 R g)⟩
    · obtain ⟨c, c', p1, e1, e2⟩ := cross_pr hp0 hq0 hk (L h1 g1 v.1 f (by grind)) (L g2 h2 v'.2.1 (by grind) (by grind))
      exact ⟨c, c', p1, fun R g => (baseA_L h1 g1 f g).trans (e1 R g), fun R g => (baseA_G h2 g2 f' g).trans (e2 R g)⟩
  · by_cases f' : x' ≤ y'
    · obtain ⟨c, c', p1, e1, e2⟩ := cross_pr hp0.symm hq0.symm hk (L h2 g2 v'.1 f' (by grind)) (L g1 h1 v.2.1 (by grind) (by grind))
      exact ⟨c', c, p1.symm, fun R g => (baseA_G h1 g1 f g).trans (e2 R g), fun R g => (baseA_L h2 g2 f' g).trans (e1 R g)⟩
    · obtain ⟨c, c', p1, e1, e2⟩ := baseG_pr hp0 hq0 hk hk (L g1 h1 v.2.1 (by grind) (by grind)) (L g2 h2 v'.2.1 (by grind) (by grind))
      exact ⟨c, c', p1.mono Rat.le_refl (by grind), fun R g => (baseA_G h1 g1 f g).trans (e1 R g), fun R g => (baseA_G h2 g2 f' g).trans (e2 R g)⟩

/-! ### Signs -/
theorem read_sign {w : Nat} {s : Bool} {m : Nat} {i : Int} (h : double.read w = .number s m i) : s = (w / 2 ^ 63 % 2 == 1) := by
  have e1 : double.signWeight = 2 ^ 63 := by decide
  unfold Format.read at h
  simp only [e1] at h
  split at h
  · injection h with h1; exact h1.symm
  · split at h
    · injection h with h1; exact h1.symm
    · split at h <;> cases h
theorem dv_neg (m : Nat) (i : Int) : dv true m i ≤ 0 := by
  unfold dv sg
  rw [if_pos rfl]
  have := Rat.mul_nonneg (show (0 : Rat) ≤ (m : Rat) by exact_mod_cast Nat.zero_le m) (Rat.le_of_lt (p2_pos i))
  grind
theorem dv_pos (m : Nat) (i : Int) : 0 ≤ dv false m i := by
  unfold dv sg
  rw [if_neg (by decide)]
  have := Rat.mul_nonneg (show (0 : Rat) ≤ (m : Rat) by exact_mod_cast Nat.zero_le m) (Rat.le_of_lt (p2_pos i))
  grind
theorem minusK_val {w : Nat} {x : Rat} (h : Is w x) : ∃ t, (∀ (R : Type) (k : Bool → Option R), minusK R w k = k t) ∧ (t = true → x ≤ 0) ∧ (t = false → 0 ≤ x) := by
  have he : eqF w w = true := by rw [eqF_is h h]; simp
  obtain ⟨hw, s, m, i, h1, rfl⟩ := h
  have hs := read_sign h1
  have hwrap : (IntKind.i64.wrap (w : Int) < 0) ↔ 2 ^ 63 ≤ w := by
    rw [IntKind.wrap_i64]
    omega
  refine ⟨decide (IntKind.i64.wrap (w : Int) < 0), fun R k => ?_, fun ht => ?_, fun ht => ?_⟩
  · unfold minusK minusB signK signB
    rw [he, forceB_eq]
    simp only
    rw [fiReal_fair, forceB_eq, forceB_eq]
  · have h2 := hwrap.1 (of_decide_eq_true ht)
    have : s = true := by rw [hs, show w / 2 ^ 63 = 1 by omega]; rfl
    rw [this]
    exact dv_neg m i
  · have h2 : ¬ 2 ^ 63 ≤ w := fun h => of_decide_eq_false ht (hwrap.2 h)
    have : s = false := by rw [hs, show w / 2 ^ 63 = 0 by omega]; rfl
    rw [this]
    exact dv_pos m i
theorem signed_pr {B k : Rat} {b b' y y' : Nat} {Y Y' : Rat} (h : Pr B k b b') (hy : Is y Y) (hy' : Is y' Y') (s : (0 < Y ∧ 0 < Y') ∨ (Y < 0 ∧ Y' < 0)) :
    ∃ c c', Pr B k c c' ∧ (∀ (R : Type) (f : Nat → Option R), signedK R b y f = f c) ∧ ∀ (R : Type) (f : Nat → Option R), signedK R b' y' f = f c' := by
  obtain ⟨t, e1, e2, e3⟩ := minusK_val hy
  obtain ⟨t', e1', e2', e3'⟩ := minusK_val hy'
  have ht : t = t' := by
    cases t <;> cases t' <;> simp at e2 e3 e2' e3' <;> (first | rfl | (exfalso; grind))
  subst ht
  cases t with
  | true =>
    refine ⟨Op.negFloat .f64 (absW b), Op.negFloat .f64 (absW b'), h.absW.neg, fun R f => ?_, fun R f => ?_⟩
    · unfold signedK signedB; rw [e1, forceB_eq]; simp only; rw [absK_ok, forceN_eq]
    · unfold signedK signedB; rw [e1', forceB_eq]; simp only; rw [absK_ok, forceN_eq]
  | false =>
    refine ⟨absW b, absW b', h.absW, fun R f => ?_, fun R f => ?_⟩
    · unfold signedK signedB; rw [e1, forceB_eq]; simp only; rw [absK_ok]
    · unfold signedK signedB; rw [e1', forceB_eq]; simp only; rw [absK_ok]
end Go.Vm
namespace Go.Vm
open Ieee
set_option linter.unusedVariables false
set_option linter.unusedSimpArgs false

/-! ### Half a circle less an angle -/
def lowV : Rat := dv false 4967757600021511 (-105)
def low2V : Rat := dv false 4967757600021511 (-106)
def h2V : Rat := 7074237752028440 / 4503599627370496
theorem low_is : Is 4368955796522032135 lowV := ⟨by decide, false, _, _, by decide, rfl⟩
theorem low2_is : Is 4364452196894661639 low2V := ⟨by decide, false, _, _, by decide, rfl⟩
theorem low_two : lowV = 2 * low2V := by
  unfold lowV low2V dv
  have := p2_half (-105)
  rw [show (-105 - 1 : Int) = -106 by decide] at this
  rw [this]
  grind
theorem low2_small : low2V.abs ≤ 1 / 1000 := by
  obtain ⟨x, h1, h2⟩ := mag_lit (e := -10) (w := 4364452196894661639) (by decide)
  have := is_fun h1 low2_is
  subst this
  exact Rat.le_trans h2 m10
theorem pi_two : piV = 2 * h2V := by rw [piV_eq]; unfold h2V; grind
theorem h2V_le : h2V ≤ 16 / 10 := by unfold h2V; grind
theorem h2V_ge : 15 / 10 ≤ h2V := by unfold h2V; grind
def flipA {R : Type} (b : Nat) (f : Nat → Option R) : Option R := bindF (fbF .sub b 4368955796522032135) fun c => bindF (fbF .sub 4614256656552045848 c) f
theorem low_pr : Pr (1 / 500) 0 4368955796522032135 4368955796522032135 := pr_same low_is (by rw [low_two]; have := abs_le_iff.1 low2_small; exact abs_le_iff.2 ⟨by grind, by grind⟩)
theorem pi_pr : Pr (32 / 10) 0 4614256656552045848 4614256656552045848 := pr_same is_pi (by rw [pi_two]; have := h2V_le; have := h2V_ge; exact abs_le_iff.2 ⟨by grind, by grind⟩)
theorem flip_pr {b b' : Nat} {k : Rat} (h : Pr (16 / 5) k b b') : ∃ c c', Pr (13 / 2) (k + 20) c c' ∧ (∀ (R : Type) (f : Nat → Option R), flipA b f = f c) ∧ ∀ (R : Type) (f : Nat → Option R), flipA b' f = f c' := by
  obtain ⟨d, d', e1, e2, h1⟩ := pr_sub (n := k + 13 / 2) h low_pr (C := 321 / 100) (by grind) (by grind) (by grind) (by grind)
  obtain ⟨g, g', e3, e4, h2⟩ := pr_sub (n := k + 20) pi_pr h1 (C := 13 / 2) (by grind) (by grind) (by grind) (by grind)
  exact ⟨g, g', h2, fun R f => by unfold flipA; rw [bindF_eq e1, bindF_eq e3], fun R f => by unfold flipA; rw [bindF_eq e2, bindF_eq e4]⟩
/-- straight up -/
theorem base_zero {p : Nat} {P : Rat} (hp : Is p P) (h0 : 7 / 20 ≤ P) : ∃ b z, Is b z ∧ (z - (h2V + low2V)).abs ≤ 2 * eps ∧ ∀ (R : Type) (f : Nat → Option R), baseG p 0 f = f b := by
  have pn : P ≠ 0 := by grind
  have z0 : ((0 : Int) : Rat) = 0 := rfl
  obtain ⟨t, tv, e1, i1, r1⟩ := div_is is_zero hp pn (by
    rw [z0, show 0 / P = 0 by rw [Rat.div_def]; grind, abs_zero]; exact p2_pos _)
  have t0 := r1.rep 0 0 (by decide) (by decide) (by rw [z0, Rat.div_def]; grind)
  rw [z0, show (0 : Rat) / P = 0 by rw [Rat.div_def]; grind] at t0
  subst t0
  have g : gtF t 4601130706800738304 = false := by rw [gtF_is i1 t0_is]; exact decide_eq_false (by grind)
  obtain ⟨z, zv, e2, i2, r2⟩ := mul_is i1 i1 (lt_big (by rw [show (0 : Rat) * 0 = 0 by grind, abs_zero]; grind))
  have z1 := rnd_zero r2 (by grind)
  subst z1
  have hz : Pr (9 / 50) 0 z z := pr_same i2 (by rw [abs_zero]; grind)
  obtain ⟨s, s', h2, e3, _⟩ := series_pr hz (by grind) coreList 0 0 core_pr ((pr_same (B := 123 / 100) is_zero (by rw [z0, abs_zero]; grind)).mono Rat.le_refl (by grind))
  obtain ⟨S, _, is1, _⟩ := h2
  obtain ⟨c, cv, e4, i4, r4⟩ := mul_is i1 is1 (lt_big (by rw [show (0 : Rat) * S = 0 by grind, abs_zero]; grind))
  have c1 := rnd_zero r4 (by grind)
  subst c1
  have l2 := abs_le_iff.1 low2_small
  obtain ⟨d, dvv, e5, i5, r5⟩ := sub_is i4 low2_is (lt_big (abs_le_iff.2 ⟨by grind, by grind⟩))
  have n5 := r5.le (B := 1 / 100) (abs_le_iff.2 ⟨by grind, by grind⟩) (low_small (by grind))
  have a5 := abs_le_iff.1 n5
  have ep := eps_pos
  have el := eps_le
  have := h2V_le
  have := h2V_ge
  have h2i : Is 4609753056924675352 h2V := h2_is
  obtain ⟨b, bv, e6, i6, r6⟩ := sub_is h2i i5 (lt_big (abs_le_iff.2 ⟨by grind, by grind⟩))
  have n6 := r6.le (B := 17 / 10) (abs_le_iff.2 ⟨by grind, by grind⟩) (low_small (by grind))
  have a6 := abs_le_iff.1 n6
  refine ⟨b, bv, i6, abs_le_iff.2 ⟨by grind, by grind⟩, fun R f => ?_⟩
  unfold baseG
  rw [bindF_eq e1, coreK_def, g, forceB_eq]
  simp only
  unfold coreN
  rw [bindF_eq e2, e3, bindF_eq e4, bindF_eq e5, bindF_eq e6]
theorem base_tiny {A k : Rat} {p q : Nat} {P Q : Rat} (hp : Is p P) (hq : Is q Q) (p0 : 7 / 20 ≤ P) (pA : P ≤ A) (q0 : 0 ≤ Q) (qk : Q ≤ k * eps) (hk0 : 0 ≤ k) (hk : k * eps ≤ 1 / 100) :
    ∃ b z, Is b z ∧ z.abs ≤ 16 / 5 ∧ (z - (h2V + low2V)).abs ≤ (53 / 10 * k + 42) * eps ∧ ∀ (R : Type) (f : Nat → Option R), baseA p q f = f b := by
  have z0 : ((0 : Int) : Rat) = 0 := rfl
  have one : ∀ {w : Nat} {u : Rat}, Is w u → 0 ≤ u → u ≤ P → ∀ a b, Is w a → Is p b → 0 ≤ a ∧ a ≤ b ∧ 7 / 20 ≤ b := fun hu h0 h1 a b ha hb => by
    have e1 := is_fun ha hu
    have e2 := is_fun hb hp
    subst e1 e2
    exact ⟨h0, h1, p0⟩
  obtain ⟨c, c', h1, e1, e2⟩ := baseG_pr (A := A) (k := 0) (m := k) (p := p) (p' := p) (q := q) (q' := 0) (pr_same hp (abs_le_iff.2 ⟨by grind, pA⟩))
    ⟨Q, _, hq, is_zero, abs_le_iff.2 ⟨by grind, by grind⟩, by rw [z0, abs_zero]; grind, by rw [z0, show Q - 0 = Q by grind, Rat.abs_of_nonneg q0]; exact qk⟩ (by grind) hk0 (one hq q0 (by grind)) (one is_zero (by rw [z0]; grind) (by rw [z0]; grind))
  obtain ⟨b, z, i1, h2, e3⟩ := base_zero hp p0
  have q0 := some_eq ((e2 Nat some).symm.trans (e3 Nat some))
  subst q0
  obtain ⟨u, u', g1, g2, g3, g4, g5⟩ := h1
  have := is_fun g2 i1
  subst this
  refine ⟨c, u, g1, g3, ?_, fun R f => (baseA_G hp hq (by grind) f).trans (e1 R f)⟩
  have := tri (x := u) (y := u') (z := h2V + low2V)
  grind
theorem flip_near {b : Nat} {z K : Rat} (hb : Is b z) (h1 : z.abs ≤ 16 / 5) (h2 : (z - (h2V + low2V)).abs ≤ K * eps) : ∃ c u, Is c u ∧ u.abs ≤ 13 / 2 ∧ (u - (h2V + low2V)).abs ≤ (K + 12) * eps ∧ ∀ (R : Type) (f : Nat → Option R), flipA b f = f c := by
  have a1 := abs_le_iff.1 h1
  have l2 := abs_le_iff.1 low2_small
  have ep := eps_pos
  have el := eps_le
  have := h2V_le
  have := h2V_ge
  have lt := low_two
  have pt := pi_two
  obtain ⟨d, dvv, e5, i5, r5⟩ := sub_is hb low_is (lt_big (abs_le_iff.2 ⟨by grind, by grind⟩))
  have n5 := r5.le (B := 33 / 10) (abs_le_iff.2 ⟨by grind, by grind⟩) (low_small (by grind))
  have a5 := abs_le_iff.1 n5
  obtain ⟨c, cv, e6, i6, r6⟩ := sub_is is_pi i5 (lt_big (abs_le_iff.2 ⟨by grind, by grind⟩))
  have n6 := r6.le (B := 66 / 10) (abs_le_iff.2 ⟨by grind, by grind⟩) (low_small (by grind))
  have a6 := abs_le_iff.1 n6
  have a2 := abs_le_iff.1 h2
  refine ⟨c, cv, i6, abs_le_iff.2 ⟨by grind, by grind⟩, abs_le_iff.2 ⟨by grind, by grind⟩, fun R f => ?_⟩
  unfold flipA
  rw [bindF_eq e5, bindF_eq e6]
end Go.Vm
namespace Go.Vm
open Ieee
set_option linter.unusedVariables false
set_option linter.unusedSimpArgs false

theorem restA_def {R : Type} (x y b : Nat) (f : Nat → Option R) : restA x y b f = minusK R x fun t => forceB t fun t => match t with | true => flipA b fun b => signedK R b y f | false => signedK R b y f := rfl
theorem angle_start {a b : Nat} {y x : Rat} (ha : Is a y) (hb : Is b x) (hy : y ≠ 0) {R : Type} (f : Nat → Option R) : angleK R a b f = baseA (absW a) (absW b) fun c => restA b a c f := by
  have pa := abs_is ha
  have pb := abs_is hb
  have z0 : ((0 : Int) : Rat) = 0 := rfl
  rw [angleK_def, forceB_eq, neF_is ha ha]
  simp only [decide_true, Bool.not_true]
  rw [forceB_eq, neF_is hb hb]
  simp only [decide_true, Bool.not_true]
  have h0 : eqF (absW a) 0 = false := by
    rw [eqF_is pa is_zero, z0]
    exact decide_eq_false fun e => hy (by have := abs_le_iff.1 (show y.abs ≤ 0 by grind); grind)
  rw [forceB_eq, h0]
  simp only
  rw [forceB_eq]
  cases eqF (absW a) (absW b) with
  | false => rfl
  | true =>
    simp only
    rw [isInfPK_no pa, forceB_eq]
    rfl
theorem angle_pr {A k : Rat} {y y' x x' : Nat} {Y Y' X X' : Rat} (iy : Is y Y) (iy' : Is y' Y') (ix : Is x X) (ix' : Is x' X') (aY : Y.abs ≤ A) (aY' : Y'.abs ≤ A) (aX : X.abs ≤ A) (aX' : X'.abs ≤ A)
    (dY : (Y - Y').abs ≤ k * eps) (dX : (X - X').abs ≤ k * eps) (hk0 : 0 ≤ k) (hk : k * eps ≤ 1 / 100) (sg : (0 < Y ∧ 0 < Y') ∨ (Y < 0 ∧ Y' < 0)) (mx : 7 / 20 ≤ Y.abs ∨ 7 / 20 ≤ X.abs) (mx' : 7 / 20 ≤ Y'.abs ∨ 7 / 20 ≤ X'.abs) :
    ∃ c c', Pr (13 / 2) (53 / 5 * k + 101) c c' ∧ (∀ (R : Type) (f : Nat → Option R), angleK R y x f = f c) ∧ ∀ (R : Type) (f : Nat → Option R), angleK R y' x' f = f c' := by
  have hY : Pr A k y y' := ⟨Y, Y', iy, iy', aY, aY', dY⟩
  have hX : Pr A k x x' := ⟨X, X', ix, ix', aX, aX', dX⟩
  have nY : Y ≠ 0 := by rcases sg with h | h <;> grind
  have nY' : Y' ≠ 0 := by rcases sg with h | h <;> grind
  have bb : ∀ {a b : Nat} {u v : Rat}, Is a u → Is b v → (7 / 20 ≤ u.abs ∨ 7 / 20 ≤ v.abs) → ∀ p q, Is (absW a) p → Is (absW b) q → 0 ≤ p ∧ 0 ≤ q ∧ (7 / 20 ≤ p ∨ 7 / 20 ≤ q) := fun ha hb h p q hp hq => by
    have e1 := is_fun hp (abs_is ha)
    have e2 := is_fun hq (abs_is hb)
    subst e1 e2
    exact ⟨abs_nonneg _, abs_nonneg _, h⟩
  obtain ⟨t, m1, m2, m3⟩ := minusK_val ix
  obtain ⟨t', m1', m2', m3'⟩ := minusK_val ix'
  obtain ⟨b, b', hb, e1, e2⟩ := base_pr hY.absW hX.absW hk0 (bb iy ix mx) (bb iy' ix' mx')
  by_cases ht : t = t'
  · subst ht
    cases t with
    | true =>
      obtain ⟨g, g', h1, f1, f2⟩ := flip_pr hb
      obtain ⟨c, c', h2, s1, s2⟩ := signed_pr h1 iy iy' sg
      refine ⟨c, c', h2.mono Rat.le_refl (by grind), fun R f => ?_, fun R f => ?_⟩
      · rw [angle_start iy ix nY, e1, restA_def, m1, forceB_eq]; simp only; rw [f1, s1]
      · rw [angle_start iy' ix' nY', e2, restA_def, m1', forceB_eq]; simp only; rw [f2, s2]
    | false =>
      obtain ⟨c, c', h2, s1, s2⟩ := signed_pr hb iy iy' sg
      refine ⟨c, c', h2.mono (by grind) (by grind), fun R f => ?_, fun R f => ?_⟩
      · rw [angle_start iy ix nY, e1, restA_def, m1, forceB_eq]; simp only; rw [s1]
      · rw [angle_start iy' ix' nY', e2, restA_def, m1', forceB_eq]; simp only; rw [s2]
  · have dd := abs_le_iff.1 dX
    have tiny : X.abs ≤ k * eps ∧ X'.abs ≤ k * eps := by
      cases t with
      | true =>
        have ht' : t' = false := by cases t' <;> simp at ht ⊢
        have a1 := m2 rfl
        have a2 := m3' ht'
        exact ⟨abs_le_iff.2 ⟨by grind, by grind⟩, abs_le_iff.2 ⟨by grind, by grind⟩⟩
      | false =>
        have ht' : t' = true := by cases t' <;> simp at ht ⊢
        have a1 := m3 rfl
        have a2 := m2' ht'
        exact ⟨abs_le_iff.2 ⟨by grind, by grind⟩, abs_le_iff.2 ⟨by grind, by grind⟩⟩
    have y1 : 7 / 20 ≤ Y.abs := by rcases mx with h | h <;> grind
    have y2 : 7 / 20 ≤ Y'.abs := by rcases mx' with h | h <;> grind
    obtain ⟨c, z, i1, z1, z2, f1⟩ := base_tiny (abs_is iy) (abs_is ix) y1 aY (abs_nonneg X) tiny.1 hk0 hk
    obtain ⟨c', z', i1', z1', z2', f1'⟩ := base_tiny (abs_is iy') (abs_is ix') y2 aY' (abs_nonneg X') tiny.2 hk0 hk
    have near : ∀ {u u' K : Rat}, (u - (h2V + low2V)).abs ≤ K * eps → (u' - (h2V + low2V)).abs ≤ (K + 12) * eps → (u - u').abs ≤ (2 * K + 12) * eps := fun {u u' K} h h' => by
      rw [abs_sub_comm] at h'
      have := tri (x := u) (y := h2V + low2V) (z := u')
      grind
    cases t with
    | true =>
      have ht' : t' = false := by cases t' <;> simp at ht ⊢
      subst ht'
      obtain ⟨g, u, g1, g2, g3, g4⟩ := flip_near i1 z1 z2
      have hp : Pr (13 / 2) (53 / 5 * k + 101) g c' := ⟨u, z', g1, i1', g2, by grind, by
        have := near z2' g3
        rw [abs_sub_comm] at this
        have e := Rat.mul_le_mul_of_nonneg_right (show 2 * (53 / 10 * k + 42) + 12 ≤ 53 / 5 * k + 101 by grind) (Rat.le_of_lt eps_pos)
        grind⟩
      obtain ⟨w, w', h2, s1, s2⟩ := signed_pr hp iy iy' sg
      refine ⟨w, w', h2, fun R f => ?_, fun R f => ?_⟩
      · rw [angle_start iy ix nY, f1, restA_def, m1, forceB_eq]; simp only; rw [g4, s1]
      · rw [angle_start iy' ix' nY', f1', restA_def, m1', forceB_eq]; simp only; rw [s2]
    | false =>
      have ht' : t' = true := by cases t' <;> simp at ht ⊢
      subst ht'
      obtain ⟨g, u, g1, g2, g3, g4⟩ := flip_near i1' z1' z2'
      have hp : Pr (13 / 2) (53 / 5 * k + 101) c g := ⟨z, u, i1, g1, by grind, g2, by
        have := near z2 g3
        have e := Rat.mul_le_mul_of_nonneg_right (show 2 * (53 / 10 * k + 42) + 12 ≤ 53 / 5 * k + 101 by grind) (Rat.le_of_lt eps_pos)
        grind⟩
      obtain ⟨w, w', h2, s1, s2⟩ := signed_pr hp iy iy' sg
      refine ⟨w, w', h2, fun R f => ?_, fun R f => ?_⟩
      · rw [angle_start iy ix nY, f1, restA_def, m1, forceB_eq]; simp only; rw [s1]
      · rw [angle_start iy' ix' nY', f1', restA_def, m1', forceB_eq]; simp only; rw [g4, s2]
end Go.Vm
namespace Go.Vm
open Ieee
set_option linter.unusedVariables false
set_option linter.unusedSimpArgs false

/-! ### A number's parts, with their values -/
theorem frexpK_ex {a : Nat} {x : Rat} (h : Is a x) (hx : 0 < x) : ∃ (w : Nat) (n : Int) (v : Rat), Is w v ∧ v = x * (2 : Rat) ^ (-n) ∧ 1 / 2 ≤ v ∧ v ≤ 1 ∧ (2 : Rat) ^ (n - 1) ≤ x ∧ x < (2 : Rat) ^ n ∧ -1100 ≤ n ∧ n ≤ 1024 ∧
    ∀ (R : Type) (k : Nat → Int → Option R), frexpK R a k = k w n := by
  have hx0 : x ≠ 0 := by grind
  have hxa : x.abs = x := Rat.abs_of_nonneg (by grind)
  obtain ⟨y, e, he, hy, hn, hk⟩ := normK_is h hx0
  obtain ⟨s, E, f, rfl, b1, b2, b3, hv⟩ := normal_fields hy hn
  have hs : s = false := dv_sign (m := 2 ^ 52 + f) (i := (E : Int) - 1075) (by rw [← hv]; exact Rat.mul_pos hx (p2_pos _))
  subst hs
  obtain ⟨d1, d2⟩ := dv_band (s := false) (E := E) b3
  rw [← hv, abs_mul, p2_abs, hxa] at d1 d2
  obtain ⟨g1, g2⟩ := dv_band (s := false) (E := 1022) b3
  have hi := fields_is (s := false) (E := 1022) (f := f) (by decide) (by decide) b3
  have hp : 0 ≤ dv false (2 ^ 52 + f) (((1022 : Nat) : Int) - 1075) := by
    unfold dv sg
    have := Rat.mul_nonneg (show (0 : Rat) ≤ ((2 ^ 52 + f : Nat) : Rat) by exact_mod_cast Nat.zero_le _) (Rat.le_of_lt (p2_pos (((1022 : Nat) : Int) - 1075)))
    simp only [Bool.false_eq_true, if_false]
    grind
  rw [Rat.abs_of_nonneg hp] at g1 g2
  have q1 : (2 : Rat) ^ (((1022 : Nat) : Int) - 1023) = (2 : Rat) ^ (-1 : Int) := by rfl
  have q2 : (2 : Rat) ^ (((1022 : Nat) : Int) - 1022) = 1 := by rw [show (((1022 : Nat) : Int) - 1022) = 0 by decide]; simp
  rw [q1] at g1
  rw [q2] at g2
  have hh := p2_half 0
  rw [show (2 : Rat) ^ (0 : Int) = 1 by simp, show (0 - 1 : Int) = -1 by decide] at hh
  have hw : (orU (andNotU ((((if false then 2 ^ 63 else 0) + E * 2 ^ 52 + f : Nat)) : Int) 9218868437227405312) 4602678819172646912).toNat = (if false then 2 ^ 63 else 0) + 1022 * 2 ^ 52 + f := by
    rw [strip_eq b2 b3]
    exact lay_eq (s := false) (E := 1022) (by decide) b3
  refine ⟨(if false then 2 ^ 63 else 0) + 1022 * 2 ^ 52 + f, e + (E - 1022), dv false (2 ^ 52 + f) (((1022 : Nat) : Int) - 1075), hi, ?_, by grind, by grind, ?_, ?_, by omega, by omega, fun R k => ?_⟩
  · have e1 : x = x * (2 : Rat) ^ (-e) * (2 : Rat) ^ e := by rw [Rat.mul_assoc, Rat.mul_comm ((2 : Rat) ^ (-e)), p2_cancel, Rat.mul_one]
    have e2 : x * (2 : Rat) ^ (-(e + ((E : Int) - 1022))) = x * (2 : Rat) ^ (-e) * (2 : Rat) ^ (1022 - (E : Int)) := by
      rw [Rat.mul_assoc, ← p2_add]
      congr 2
      omega
    rw [e2, hv]
    unfold dv
    rw [Rat.mul_assoc, Rat.mul_assoc, ← p2_add]
    congr 3
    omega
  · have := Rat.mul_le_mul_of_nonneg_right d1 (Rat.le_of_lt (p2_pos e))
    rw [← p2_add, Rat.mul_assoc, Rat.mul_comm ((2 : Rat) ^ (-e)), p2_cancel, Rat.mul_one, show (E : Int) - 1023 + e = e + (E - 1022) - 1 by omega] at this
    exact this
  · have := Rat.mul_lt_mul_of_pos_right d2 (p2_pos e)
    rw [← p2_add, Rat.mul_assoc, Rat.mul_comm ((2 : Rat) ^ (-e)), p2_cancel, Rat.mul_one, show (E : Int) - 1022 + e = e + (E - 1022) by omega] at this
    exact this
  · unfold frexpK frexpB
    have h0 : ¬ (x = ((0 : Int) : Rat)) := by simpa using hx0
    rw [forceB_eq, eqF_is h is_zero]
    simp only [h0, decide_false]
    rw [isInfK_no h, forceB_eq]
    simp only
    rw [isNanK_no h, forceB_eq]
    simp only
    rw [hk]
    unfold frexpTail expoOf
    rw [expo_eq b2 b3]
    simp only [fiReal_fair R]
    rw [wrapI (n := (E : Int)) (by omega) (by omega), wrapI (n := (E : Int) - 1023) (by omega) (by omega), wrapI (n := (E : Int) - 1023 + 1) (by omega) (by omega)]
    rw [show (E : Int) - 1023 + 1 = (E : Int) - 1022 by omega, wrapI (by omega) (by omega), hw]
end Go.Vm
