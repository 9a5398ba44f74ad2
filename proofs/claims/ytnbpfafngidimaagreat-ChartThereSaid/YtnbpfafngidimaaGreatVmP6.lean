/- Length and nearness on words; no conditions. -/
import Derived.Test.YtnbpfafngidimaaGreatVmP4
namespace Go.Vm
open Ieee
set_option linter.unusedVariables false
set_option linter.unusedSimpArgs false

theorem sq_le {x m : Rat} (h : x.abs ≤ m) : x * x ≤ m * m := by
  obtain ⟨h1, h2⟩ := abs_le_iff.1 h
  have := Rat.mul_nonneg (show 0 ≤ m - x by grind) (show 0 ≤ m + x by grind)
  grind
theorem sq_nonneg (x : Rat) : 0 ≤ x * x := by
  rcases (Rat.le_total : 0 ≤ x ∨ x ≤ 0) with h | h
  · exact Rat.mul_nonneg h h
  · have := Rat.mul_nonneg (show 0 ≤ -x by grind) (show 0 ≤ -x by grind); grind
theorem sq_ge {x m : Rat} (h : m ≤ x.abs) (hm : 0 ≤ m) : m * m ≤ x * x := by
  rcases (Rat.le_total : 0 ≤ x ∨ x ≤ 0) with g | g
  · rw [Rat.abs_of_nonneg g] at h
    have h1 := Rat.mul_le_mul_of_nonneg_left h hm
    have h2 := Rat.mul_le_mul_of_nonneg_right h g
    grind
  · rw [Rat.abs_of_nonpos g] at h
    have h1 := Rat.mul_le_mul_of_nonneg_left h hm
    have h2 := Rat.mul_le_mul_of_nonneg_right h (show 0 ≤ -x by grind)
    grind

theorem e53_le : (2 : Rat) ^ (-53 : Int) ≤ 1 / 1000 := by
  have h6 := p2_le (show (-53 : Int) ≤ -10 by decide)
  have h7 : (2 : Rat) ^ (-10 : Int) * (2 : Rat) ^ (10 : Int) = 1 := by rw [← p2_add, show (-10 + 10 : Int) = 0 by decide, Rat.zpow_zero]
  have h8 : (2 : Rat) ^ (10 : Int) = 1024 := by rw [show (10 : Int) = ((10 : Nat) : Int) by rfl, p2_nat]; rfl
  rw [h8] at h7
  grind

/-- How far a rounded number is, coarsely. -/
theorem Rnd.coarse {x z : Rat} (h : Rnd x z) : (z - x).abs ≤ x.abs * (1 / 1000) + (2 : Rat) ^ (-1075 : Int) := by
  have h1 := Rat.mul_le_mul_of_nonneg_left e53_le (abs_nonneg x)
  have h2 := p2_pos (-1075)
  have h3 := abs_nonneg x
  rcases h.near with g | g <;> grind

theorem p2_small {q : Int} (h : q ≤ -53) : (2 : Rat) ^ q ≤ 1 / 1000 := Rat.le_trans (p2_le h) e53_le

theorem lt_p2_1023 {x : Rat} (h : x.abs ≤ 1000) : x.abs < (2 : Rat) ^ (1023 : Int) := by
  have h6 := p2_le (show (10 : Int) ≤ 1023 by decide)
  have h8 : (2 : Rat) ^ (10 : Int) = 1024 := by rw [show (10 : Int) = ((10 : Nat) : Int) by rfl, p2_nat]; rfl
  grind

theorem greatestK_is {a b : Nat} {x y : Rat} (ha : Is a x) (hb : Is b y) : ∃ (g : Nat) (G : Rat), Is g G ∧ x.abs ≤ G ∧ y.abs ≤ G ∧ (G = x.abs ∨ G = y.abs) ∧ ∀ (R : Type) (k : Nat → Option R), greatestK R a b k = k g := by
  have hdef : ∀ (R : Type) (k : Nat → Option R), greatestK R a b k = forceB (gtF (absW b) (absW a)) fun t => match t with
      | true => k (absW b)
      | false => k (absW a) := fun R k => rfl
  by_cases h : x.abs < y.abs
  · refine ⟨_, y.abs, abs_is hb, by grind, by grind, .inr rfl, fun R k => ?_⟩
    rw [hdef, forceB_eq, gtF_is (abs_is hb) (abs_is ha)]
    simp only [h, decide_true]
  · refine ⟨_, x.abs, abs_is ha, by grind, by grind, .inl rfl, fun R k => ?_⟩
    rw [hdef, forceB_eq, gtF_is (abs_is hb) (abs_is ha)]
    simp only [h, decide_false]

theorem lengthK_le {a b : Nat} {x y d : Rat} (ha : Is a x) (hb : Is b y) (hx : x.abs ≤ d) (hy : y.abs ≤ d) (d1 : (2 : Rat) ^ (-900 : Int) ≤ d) (d2 : d ≤ (2 : Rat) ^ (400 : Int)) :
    ∃ r L, Is r L ∧ L ≤ 2 * d ∧ ∀ (R : Type) (k : Nat → Option R), lengthK R a b k = k r := by
  have hd0 : 0 < d := by have := p2_pos (-900); grind
  obtain ⟨g, G, hg, gx, gy, hG, hgk⟩ := greatestK_is ha hb
  have hpre : ∀ (R : Type) (k : Nat → Option R), lengthK R a b k = forceB (eqF g 0) fun t => match t with
      | true => k 0
      | false => scaledK R a b fun x y e => squareK R x y fun s => sqrtK R s fun r => scaleK R r e k := fun R k => by
    unfold lengthK lengthB
    rw [isInfK_no ha, forceB_eq]
    simp only
    rw [isInfK_no hb, forceB_eq]
    simp only
    rw [isNanK_no ha, forceB_eq]
    simp only
    rw [isNanK_no hb, forceB_eq]
    simp only
    rw [hgk]
    rfl
  by_cases hG0 : G = 0
  · refine ⟨0, 0, by simpa using is_zero, by grind, fun R k => ?_⟩
    rw [hpre, forceB_eq, eqF_is hg is_zero]
    simp [hG0]
  have hGd : G ≤ d := by rcases hG with h | h <;> grind
  have hGp : 0 < G := by have := abs_nonneg x; grind
  have hGa : G.abs = G := Rat.abs_of_nonneg (Rat.le_of_lt hGp)
  obtain ⟨w, n, n1, n2, n3, n4, hfr⟩ := frexpK_is hg hG0
  rw [hGa] at n1 n2
  have n5 : n ≤ 401 := by
    refine Int.not_lt.1 fun h => ?_
    have h1 := p2_le (show (401 : Int) ≤ n - 1 by omega)
    have h2 := p2_half 401
    rw [show (401 - 1 : Int) = 400 by decide] at h2
    have := p2_pos 400
    grind
  have pn := p2_pos (-n)
  have hcan : (2 : Rat) ^ n * (2 : Rat) ^ (-n) = 1 := p2_cancel n
  have hhalf : (2 : Rat) ^ (n - 1) * (2 : Rat) ^ (-n) = 1 / 2 := by
    have := p2_half n
    have h3 : (2 : Rat) ^ n * (2 : Rat) ^ (-n) = 2 * ((2 : Rat) ^ (n - 1) * (2 : Rat) ^ (-n)) := by rw [this]; grind
    grind
  have hD : 1 / 2 ≤ d * (2 : Rat) ^ (-n) := by
    have := Rat.mul_le_mul_of_nonneg_right (Rat.le_trans n1 hGd) (Rat.le_of_lt pn)
    rwa [hhalf] at this
  have up : ∀ {u : Rat}, u.abs ≤ G → u.abs ≤ d → (u * (2 : Rat) ^ (-n)).abs < 1 ∧ (u * (2 : Rat) ^ (-n)).abs ≤ d * (2 : Rat) ^ (-n) := fun {u} h1 h2 => by
    rw [abs_mul, p2_abs]
    have g1 := Rat.mul_lt_mul_of_pos_right (show u.abs < (2 : Rat) ^ n by grind) pn
    have g2 := Rat.mul_le_mul_of_nonneg_right h2 (Rat.le_of_lt pn)
    rw [hcan] at g1
    exact ⟨g1, g2⟩
  obtain ⟨ux1, ux2⟩ := up gx hx
  obtain ⟨uy1, uy2⟩ := up gy hy
  have hlow : 1 / 2 ≤ (x * (2 : Rat) ^ (-n)).abs ∨ 1 / 2 ≤ (y * (2 : Rat) ^ (-n)).abs := by
    have := Rat.mul_le_mul_of_nonneg_right n1 (Rat.le_of_lt pn)
    rw [hhalf] at this
    rcases hG with h | h
    · left; rw [abs_mul, p2_abs, ← h]; exact this
    · right; rw [abs_mul, p2_abs, ← h]; exact this
  obtain ⟨r1, X, i1, q1, s1⟩ := scaleK_is (n := -n) ha (by omega) (by omega) (lt_p2_1023 (by grind))
  obtain ⟨r2, Y, i2, q2, s2⟩ := scaleK_is (n := -n) hb (by omega) (by omega) (lt_p2_1023 (by grind))
  have c1 := q1.coarse
  have c2 := q2.coarse
  have ht : (2 : Rat) ^ (-1075 : Int) ≤ 1 / 1000 := p2_small (by decide)
  have ht0 := p2_pos (-1075)
  generalize hDD : d * (2 : Rat) ^ (-n) = D at *
  generalize x * (2 : Rat) ^ (-n) = X0 at *
  generalize y * (2 : Rat) ^ (-n) = Y0 at *
  generalize htt : (2 : Rat) ^ (-1075 : Int) = t at *
  have aX : X.abs ≤ X0.abs + (X - X0).abs := by have := abs_add_le (X - X0) X0; rw [show X - X0 + X0 = X by grind] at this; grind
  have aY : Y.abs ≤ Y0.abs + (Y - Y0).abs := by have := abs_add_le (Y - Y0) Y0; rw [show Y - Y0 + Y0 = Y by grind] at this; grind
  have aX' : X0.abs ≤ X.abs + (X - X0).abs := by have := abs_add_le X (X0 - X); rw [show X + (X0 - X) = X0 by grind, abs_sub_comm X0 X] at this; exact this
  have aY' : Y0.abs ≤ Y.abs + (Y - Y0).abs := by have := abs_add_le Y (Y0 - Y); rw [show Y + (Y0 - Y) = Y0 by grind, abs_sub_comm Y0 Y] at this; exact this
  have bX : X.abs ≤ 51 / 50 * D := by grind
  have bY : Y.abs ≤ 51 / 50 * D := by grind
  have bX1 : X.abs ≤ 51 / 50 := by grind
  have bY1 : Y.abs ≤ 51 / 50 := by grind
  have sX := sq_le bX
  have sY := sq_le bY
  have sX1 := sq_le bX1
  have sY1 := sq_le bY1
  have zX := sq_nonneg X
  have zY := sq_nonneg Y
  have aXX : (X * X).abs = X * X := Rat.abs_of_nonneg zX
  have aYY : (Y * Y).abs = Y * Y := Rat.abs_of_nonneg zY
  obtain ⟨r3, Pp, e3, i3, q3⟩ := mul_is i1 i1 (lt_p2_1023 (by rw [aXX]; grind))
  obtain ⟨r4, Qq, e4, i4, q4⟩ := mul_is i2 i2 (lt_p2_1023 (by rw [aYY]; grind))
  have c3 := q3.coarse
  have c4 := q4.coarse
  rw [aXX] at c3
  rw [aYY] at c4
  rw [htt] at c3 c4
  have f3 := abs_le_iff.1 c3
  have f4 := abs_le_iff.1 c4
  have hDsq : 1 / 4 ≤ D * D := by have := Rat.mul_le_mul_of_nonneg_left hD (show (0 : Rat) ≤ D by grind); grind
  have low : 11 / 50 ≤ X * X ∨ 11 / 50 ≤ Y * Y := by
    rcases hlow with h | h
    · left
      have : 47 / 100 ≤ X.abs := by grind
      have := sq_ge this (by grind)
      grind
    · right
      have : 47 / 100 ≤ Y.abs := by grind
      have := sq_ge this (by grind)
      grind
  have hPQ1 : Pp + Qq ≤ 106 / 50 * (D * D) := by grind
  have hPQ2 : 1 / 5 ≤ Pp + Qq := by rcases low with h | h <;> grind
  have hPQ3 : Pp + Qq ≤ 3 := by grind
  have aPQ : (Pp + Qq).abs = Pp + Qq := Rat.abs_of_nonneg (by grind)
  obtain ⟨r5, S, e5, i5, q5⟩ := add_is i3 i4 (lt_p2_1023 (by rw [aPQ]; grind))
  have c5 := q5.coarse
  rw [aPQ, htt] at c5
  have f5 := abs_le_iff.1 c5
  have hS1 : S ≤ 108 / 50 * (D * D) := by grind
  have hS2 : 1 / 10 ≤ S := by grind
  have hS3 : S ≤ 4 := by grind
  obtain ⟨r6, T, e6, i6, t0, t1⟩ := sqrt_is i5 (by grind)
    (by have := lt_p2_1023 (x := 4) (by rw [Rat.abs_of_nonneg (by decide)]; decide)
        have h6 := p2_le (show (10 : Int) ≤ 1000 by decide)
        have h8 : (2 : Rat) ^ (10 : Int) = 1024 := by rw [show (10 : Int) = ((10 : Nat) : Int) by rfl, p2_nat]; rfl
        grind) (by have := p2_small (show (-1000 : Int) ≤ -53 by decide); grind)
  have f6 := abs_le_iff.1 t1
  have e51 : (2 : Rat) ^ (-51 : Int) ≤ 4 / 1000 := by
    have h6 := p2_half (-51)
    have h7 := p2_half (-52)
    rw [show (-51 - 1 : Int) = -52 by decide] at h6
    rw [show (-52 - 1 : Int) = -53 by decide] at h7
    have := e53_le
    grind
  have m51 := Rat.mul_le_mul_of_nonneg_left e51 (show (0 : Rat) ≤ S by grind)
  have hT2 : T * T ≤ 11 / 5 * (D * D) := by grind
  have hT : T ≤ 3 / 2 * D := by
    refine Rat.not_lt.1 fun h => ?_
    have g1 := Rat.mul_le_mul_of_nonneg_left (Rat.le_of_lt h) (show (0 : Rat) ≤ 3 / 2 * D by grind)
    have g2 := Rat.mul_le_mul_of_nonneg_right (Rat.le_of_lt h) (Rat.le_of_lt t0)
    grind
  have hTn : T * (2 : Rat) ^ n ≤ 3 / 2 * d := by
    have g1 := Rat.mul_le_mul_of_nonneg_right hT (Rat.le_of_lt (p2_pos n))
    have g2 : D * (2 : Rat) ^ n = d := by rw [← hDD, Rat.mul_assoc, Rat.mul_comm ((2 : Rat) ^ (-n)), hcan]; grind
    grind
  have hTn0 : 0 ≤ T * (2 : Rat) ^ n := Rat.mul_nonneg (Rat.le_of_lt t0) (Rat.le_of_lt (p2_pos n))
  have aTn : (T * (2 : Rat) ^ n).abs = T * (2 : Rat) ^ n := Rat.abs_of_nonneg hTn0
  obtain ⟨r7, L, i7, q7, s7⟩ := scaleK_is (n := n) i6 (by omega) (by omega) (by
    rw [aTn]
    have g1 := p2_le (show (401 : Int) ≤ 1023 by decide)
    have g2 := p2_half 401
    rw [show (401 - 1 : Int) = 400 by decide] at g2
    grind)
  have c7 := q7.coarse
  rw [aTn, htt] at c7
  have f7 := abs_le_iff.1 c7
  have htd : t ≤ d * (1 / 1000) := by
    have g1 := Rat.mul_le_mul_of_nonneg_right d1 (Rat.le_of_lt (p2_pos (-175)))
    rw [← p2_add, show (-900 + -175 : Int) = -1075 by decide, htt] at g1
    have g2 := Rat.mul_le_mul_of_nonneg_left (p2_small (show (-175 : Int) ≤ -53 by decide)) (Rat.le_of_lt hd0)
    grind
  refine ⟨r7, L, i7, by grind, fun R k => ?_⟩
  have hG0' : ¬ (G = ((0 : Int) : Rat)) := by simpa using hG0
  rw [hpre, forceB_eq, eqF_is hg is_zero]
  simp only [hG0', decide_false]
  unfold scaledK scaledB
  rw [hgk, hfr]
  rw [show (0 - n) = -n by omega, wrapI (by omega) (by omega), s1, s2]
  simp only [squareK, sqrtK]
  rw [bindF_eq e3, bindF_eq e4, bindF_eq e5, bindF_eq e6, s7]

/-- Near, from below. -/
theorem nearK_yes {a b c d m : Nat} {x y u v M e : Rat} (ha : Is a x) (hb : Is b y) (hc : Is c u) (hd : Is d v) (hm : Is m M) (hx : (x - u).abs ≤ e) (hy : (y - v).abs ≤ e) (e1 : (2 : Rat) ^ (-800 : Int) ≤ e) (e2 : e ≤ (2 : Rat) ^ (300 : Int)) (hM : 3 * e ≤ M) {R : Type} (k : Bool → Option R) :
    nearK R a b c d m k = k true := by
  have h300 := p2_le (show (300 : Int) ≤ 1022 by decide)
  have h1022 := p2_half 1023
  rw [show (1023 - 1 : Int) = 1022 by decide] at h1022
  have hp := p2_pos 1022
  have he0 : 0 < e := by have := p2_pos (-800); grind
  obtain ⟨p, X, f1, g1, r1⟩ := sub_is ha hc (by grind)
  obtain ⟨q, Y, f2, g2, r2⟩ := sub_is hb hd (by grind)
  have c1 := r1.coarse
  have c2 := r2.coarse
  have ht : (2 : Rat) ^ (-1075 : Int) ≤ e * (1 / 1000) := by
    have k1 := Rat.mul_le_mul_of_nonneg_right e1 (Rat.le_of_lt (p2_pos (-275)))
    rw [← p2_add, show (-800 + -275 : Int) = -1075 by decide] at k1
    have k2 := Rat.mul_le_mul_of_nonneg_left (p2_small (show (-275 : Int) ≤ -53 by decide)) (Rat.le_of_lt he0)
    grind
  have aX : X.abs ≤ 5 / 4 * e := by
    have := abs_add_le (X - (x - u)) (x - u)
    rw [show X - (x - u) + (x - u) = X by grind] at this
    grind
  have aY : Y.abs ≤ 5 / 4 * e := by
    have := abs_add_le (Y - (y - v)) (y - v)
    rw [show Y - (y - v) + (y - v) = Y by grind] at this
    grind
  have k900 := p2_le (show (-900 : Int) ≤ -800 by decide)
  have k400 := p2_le (show (301 : Int) ≤ 400 by decide)
  have k301 := p2_half 301
  rw [show (301 - 1 : Int) = 300 by decide] at k301
  obtain ⟨r, L, i1, l1, s1⟩ := lengthK_le g1 g2 aX aY (by grind) (by grind)
  unfold nearK nearB subK
  rw [bindF_eq f1, bindF_eq f2]
  simp only
  rw [s1, forceB_eq, leF_is i1 hm]
  have : L ≤ M := by grind
  simp only [this, decide_true]
end Go.Vm
