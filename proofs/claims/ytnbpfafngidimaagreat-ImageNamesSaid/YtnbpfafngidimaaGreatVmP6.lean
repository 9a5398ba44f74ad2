/- Length and nearness on words; no conditions. The quotient of complex numbers in fractions; no conditions. The quotient of complex numbers on words, how near it comes; no conditions. The map of three places of whole parts, exact; no conditions. What ChartThree computes is true for each two arrays of three places; no conditions. The square root of a complex number in fractions; no conditions. -/
import Derived.Test.YtnbpfafngidimaaGreatVmLS
import Derived.Test.YtnbpfafngidimaaGreatVmKC
namespace Go.Vm
open Ieee
set_option linter.unusedVariables false
set_option linter.unusedSimpArgs false

theorem sq_le {x m : Rat} (h : x.abs ≤ m) : x * x ≤ m * m := by
  obtain ⟨h1, h2⟩ := abs_le_iff.1 h
  have := Rat.mul_nonneg (show 0 ≤ m - x by grind) (show 0 ≤ m + x by grind)
  grind
theorem sq_nonneg (x : Rat) : 0 ≤ x * x := by
  rcases (Rat.le_total : 0 ≤ x ∨ x ≤ 0) with h | h
  · exact Rat.mul_nonneg h h
  · have := Rat.mul_nonneg (show 0 ≤ -x by grind) (show 0 ≤ -x by grind); grind
theorem sq_ge {x m : Rat} (h : m ≤ x.abs) (hm : 0 ≤ m) : m * m ≤ x * x := by
  rcases (Rat.le_total : 0 ≤ x ∨ x ≤ 0) with g | g
  · rw [Rat.abs_of_nonneg g] at h
    have h1 := Rat.mul_le_mul_of_nonneg_left h hm
    have h2 := Rat.mul_le_mul_of_nonneg_right h g
    grind
  · rw [Rat.abs_of_nonpos g] at h
    have h1 := Rat.mul_le_mul_of_nonneg_left h hm
    have h2 := Rat.mul_le_mul_of_nonneg_right h (show 0 ≤ -x by grind)
    grind

theorem e53_le : (2 : Rat) ^ (-53 : Int) ≤ 1 / 1000 := by
  have h6 := p2_le (show (-53 : Int) ≤ -10 by decide)
  have h7 : (2 : Rat) ^ (-10 : Int) * (2 : Rat) ^ (10 : Int) = 1 := by rw [← p2_add, show (-10 + 10 : Int) = 0 by decide, Rat.zpow_zero]
  have h8 : (2 : Rat) ^ (10 : Int) = 1024 := by rw [show (10 : Int) = ((10 : Nat) : Int) by rfl, p2_nat]; rfl
  rw [h8] at h7
  grind

/-- How far a rounded number is, coarsely. -/
theorem Rnd.coarse {x z : Rat} (h : Rnd x z) : (z - x).abs ≤ x.abs * (1 / 1000) + (2 : Rat) ^ (-1075 : Int) := by
  have h1 := Rat.mul_le_mul_of_nonneg_left e53_le (abs_nonneg x)
  have h2 := p2_pos (-1075)
  have h3 := abs_nonneg x
  rcases h.near with g | g <;> grind

theorem p2_small {q : Int} (h : q ≤ -53) : (2 : Rat) ^ q ≤ 1 / 1000 := Rat.le_trans (p2_le h) e53_le

theorem lt_p2_1023 {x : Rat} (h : x.abs ≤ 1000) : x.abs < (2 : Rat) ^ (1023 : Int) := by
  have h6 := p2_le (show (10 : Int) ≤ 1023 by decide)
  have h8 : (2 : Rat) ^ (10 : Int) = 1024 := by rw [show (10 : Int) = ((10 : Nat) : Int) by rfl, p2_nat]; rfl
  grind

theorem greatestK_is {a b : Nat} {x y : Rat} (ha : Is a x) (hb : Is b y) : ∃ (g : Nat) (G : Rat), Is g G ∧ x.abs ≤ G ∧ y.abs ≤ G ∧ (G = x.abs ∨ G = y.abs) ∧ ∀ (R : Type) (k : Nat → Option R), greatestK R a b k = k g := by
  have hdef : ∀ (R : Type) (k : Nat → Option R), greatestK R a b k = forceB (gtF (absW b) (absW a)) fun t => match t with
      | true => k (absW b)
      | false => k (absW a) := fun R k => rfl
  by_cases h : x.abs < y.abs
  · refine ⟨_, y.abs, abs_is hb, by grind, by grind, .inr rfl, fun R k => ?_⟩
    rw [hdef, forceB_eq, gtF_is (abs_is hb) (abs_is ha)]
    simp only [h, decide_true]
  · refine ⟨_, x.abs, abs_is ha, by grind, by grind, .inl rfl, fun R k => ?_⟩
    rw [hdef, forceB_eq, gtF_is (abs_is hb) (abs_is ha)]
    simp only [h, decide_false]

theorem lengthK_full {a b : Nat} {x y d : Rat} (ha : Is a x) (hb : Is b y) (hx : x.abs ≤ d) (hy : y.abs ≤ d) (d1 : (2 : Rat) ^ (-900 : Int) ≤ d) (d2 : d ≤ (2 : Rat) ^ (400 : Int)) :
    ∃ r L, Is r L ∧ L ≤ 2 * d ∧ (1 ≤ x.abs ∨ 1 ≤ y.abs → 1 / 4 ≤ L) ∧ ∀ (R : Type) (k : Nat → Option R), lengthK R a b k = k r := by
  have hd0 : 0 < d := by have := p2_pos (-900); grind
  obtain ⟨g, G, hg, gx, gy, hG, hgk⟩ := greatestK_is ha hb
  have hpre : ∀ (R : Type) (k : Nat → Option R), lengthK R a b k = forceB (eqF g 0) fun t => match t with
      | true => k 0
      | false => scaledK R a b fun x y e => squareK R x y fun s => sqrtK R s fun r => scaleK R r e k := fun R k => by
    unfold lengthK lengthB
    rw [isInfK_no ha, forceB_eq]
    simp only
    rw [isInfK_no hb, forceB_eq]
    simp only
    rw [isNanK_no ha, forceB_eq]
    simp only
    rw [isNanK_no hb, forceB_eq]
    simp only
    rw [hgk]
    rfl
  by_cases hG0 : G = 0
  · refine ⟨0, 0, by simpa using is_zero, by grind, fun h => absurd h (by grind), fun R k => ?_⟩
    rw [hpre, forceB_eq, eqF_is hg is_zero]
    simp [hG0]
  have hGd : G ≤ d := by rcases hG with h | h <;> grind
  have hGp : 0 < G := by have := abs_nonneg x; grind
  have hGa : G.abs = G := Rat.abs_of_nonneg (Rat.le_of_lt hGp)
  obtain ⟨w, n, n1, n2, n3, n4, hfr⟩ := frexpK_is hg hG0
  rw [hGa] at n1 n2
  have n5 : n ≤ 401 := by
    refine Int.not_lt.1 fun h => ?_
    have h1 := p2_le (show (401 : Int) ≤ n - 1 by omega)
    have h2 := p2_half 401
    rw [show (401 - 1 : Int) = 400 by decide] at h2
    have := p2_pos 400
    grind
  have pn := p2_pos (-n)
  have hcan : (2 : Rat) ^ n * (2 : Rat) ^ (-n) = 1 := p2_cancel n
  have hhalf : (2 : Rat) ^ (n - 1) * (2 : Rat) ^ (-n) = 1 / 2 := by
    have := p2_half n
    have h3 : (2 : Rat) ^ n * (2 : Rat) ^ (-n) = 2 * ((2 : Rat) ^ (n - 1) * (2 : Rat) ^ (-n)) := by rw [this]; grind
    grind
  have hD : 1 / 2 ≤ d * (2 : Rat) ^ (-n) := by
    have := Rat.mul_le_mul_of_nonneg_right (Rat.le_trans n1 hGd) (Rat.le_of_lt pn)
    rwa [hhalf] at this
  have up : ∀ {u : Rat}, u.abs ≤ G → u.abs ≤ d → (u * (2 : Rat) ^ (-n)).abs < 1 ∧ (u * (2 : Rat) ^ (-n)).abs ≤ d * (2 : Rat) ^ (-n) := fun {u} h1 h2 => by
    rw [abs_mul, p2_abs]
    have g1 := Rat.mul_lt_mul_of_pos_right (show u.abs < (2 : Rat) ^ n by grind) pn
    have g2 := Rat.mul_le_mul_of_nonneg_right h2 (Rat.le_of_lt pn)
    rw [hcan] at g1
    exact ⟨g1, g2⟩
  obtain ⟨ux1, ux2⟩ := up gx hx
  obtain ⟨uy1, uy2⟩ := up gy hy
  have hlow : 1 / 2 ≤ (x * (2 : Rat) ^ (-n)).abs ∨ 1 / 2 ≤ (y * (2 : Rat) ^ (-n)).abs := by
    have := Rat.mul_le_mul_of_nonneg_right n1 (Rat.le_of_lt pn)
    rw [hhalf] at this
    rcases hG with h | h
    · left; rw [abs_mul, p2_abs, ← h]; exact this
    · right; rw [abs_mul, p2_abs, ← h]; exact this
  obtain ⟨r1, X, i1, q1, s1⟩ := scaleK_is (n := -n) ha (by omega) (by omega) (lt_p2_1023 (by grind))
  obtain ⟨r2, Y, i2, q2, s2⟩ := scaleK_is (n := -n) hb (by omega) (by omega) (lt_p2_1023 (by grind))
  have c1 := q1.coarse
  have c2 := q2.coarse
  have ht : (2 : Rat) ^ (-1075 : Int) ≤ 1 / 1000 := p2_small (by decide)
  have ht0 := p2_pos (-1075)
  generalize hDD : d * (2 : Rat) ^ (-n) = D at *
  generalize x * (2 : Rat) ^ (-n) = X0 at *
  generalize y * (2 : Rat) ^ (-n) = Y0 at *
  generalize htt : (2 : Rat) ^ (-1075 : Int) = t at *
  have aX : X.abs ≤ X0.abs + (X - X0).abs := by have := abs_add_le (X - X0) X0; rw [show X - X0 + X0 = X by grind] at this; grind
  have aY : Y.abs ≤ Y0.abs + (Y - Y0).abs := by have := abs_add_le (Y - Y0) Y0; rw [show Y - Y0 + Y0 = Y by grind] at this; grind
  have aX' : X0.abs ≤ X.abs + (X - X0).abs := by have := abs_add_le X (X0 - X); rw [show X + (X0 - X) = X0 by grind, abs_sub_comm X0 X] at this; exact this
  have aY' : Y0.abs ≤ Y.abs + (Y - Y0).abs := by have := abs_add_le Y (Y0 - Y); rw [show Y + (Y0 - Y) = Y0 by grind, abs_sub_comm Y0 Y] at this; exact this
  have bX : X.abs ≤ 51 / 50 * D := by grind
  have bY : Y.abs ≤ 51 / 50 * D := by grind
  have bX1 : X.abs ≤ 51 / 50 := by grind
  have bY1 : Y.abs ≤ 51 / 50 := by grind
  have sX := sq_le bX
  have sY := sq_le bY
  have sX1 := sq_le bX1
  have sY1 := sq_le bY1
  have zX := sq_nonneg X
  have zY := sq_nonneg Y
  have aXX : (X * X).abs = X * X := Rat.abs_of_nonneg zX
  have aYY : (Y * Y).abs = Y * Y := Rat.abs_of_nonneg zY
  obtain ⟨r3, Pp, e3, i3, q3⟩ := mul_is i1 i1 (lt_p2_1023 (by rw [aXX]; grind))
  obtain ⟨r4, Qq, e4, i4, q4⟩ := mul_is i2 i2 (lt_p2_1023 (by rw [aYY]; grind))
  have c3 := q3.coarse
  have c4 := q4.coarse
  rw [aXX] at c3
  rw [aYY] at c4
  rw [htt] at c3 c4
  have f3 := abs_le_iff.1 c3
  have f4 := abs_le_iff.1 c4
  have hDsq : 1 / 4 ≤ D * D := by have := Rat.mul_le_mul_of_nonneg_left hD (show (0 : Rat) ≤ D by grind); grind
  have low : 11 / 50 ≤ X * X ∨ 11 / 50 ≤ Y * Y := by
    rcases hlow with h | h
    · left
      have : 47 / 100 ≤ X.abs := by grind
      have := sq_ge this (by grind)
      grind
    · right
      have : 47 / 100 ≤ Y.abs := by grind
      have := sq_ge this (by grind)
      grind
  have hPQ1 : Pp + Qq ≤ 106 / 50 * (D * D) := by grind
  have hPQ2 : 1 / 5 ≤ Pp + Qq := by rcases low with h | h <;> grind
  have hPQ3 : Pp + Qq ≤ 3 := by grind
  have aPQ : (Pp + Qq).abs = Pp + Qq := Rat.abs_of_nonneg (by grind)
  obtain ⟨r5, S, e5, i5, q5⟩ := add_is i3 i4 (lt_p2_1023 (by rw [aPQ]; grind))
  have c5 := q5.coarse
  rw [aPQ, htt] at c5
  have f5 := abs_le_iff.1 c5
  have hS1 : S ≤ 108 / 50 * (D * D) := by grind
  have hS2 : 1 / 10 ≤ S := by grind
  have hS3 : S ≤ 4 := by grind
  obtain ⟨r6, T, e6, i6, t0, t1⟩ := sqrt_is i5 (by grind)
    (by have := lt_p2_1023 (x := 4) (by rw [Rat.abs_of_nonneg (by decide)]; decide)
        have h6 := p2_le (show (10 : Int) ≤ 1000 by decide)
        have h8 : (2 : Rat) ^ (10 : Int) = 1024 := by rw [show (10 : Int) = ((10 : Nat) : Int) by rfl, p2_nat]; rfl
        grind) (by have := p2_small (show (-1000 : Int) ≤ -53 by decide); grind)
  have f6 := abs_le_iff.1 t1
  have e51 : (2 : Rat) ^ (-51 : Int) ≤ 4 / 1000 := by
    have h6 := p2_half (-51)
    have h7 := p2_half (-52)
    rw [show (-51 - 1 : Int) = -52 by decide] at h6
    rw [show (-52 - 1 : Int) = -53 by decide] at h7
    have := e53_le
    grind
  have m51 := Rat.mul_le_mul_of_nonneg_left e51 (show (0 : Rat) ≤ S by grind)
  have hT2 : T * T ≤ 11 / 5 * (D * D) := by grind
  have hT : T ≤ 3 / 2 * D := by
    refine Rat.not_lt.1 fun h => ?_
    have g1 := Rat.mul_le_mul_of_nonneg_left (Rat.le_of_lt h) (show (0 : Rat) ≤ 3 / 2 * D by grind)
    have g2 := Rat.mul_le_mul_of_nonneg_right (Rat.le_of_lt h) (Rat.le_of_lt t0)
    grind
  have hTn : T * (2 : Rat) ^ n ≤ 3 / 2 * d := by
    have g1 := Rat.mul_le_mul_of_nonneg_right hT (Rat.le_of_lt (p2_pos n))
    have g2 : D * (2 : Rat) ^ n = d := by rw [← hDD, Rat.mul_assoc, Rat.mul_comm ((2 : Rat) ^ (-n)), hcan]; grind
    grind
  have hTn0 : 0 ≤ T * (2 : Rat) ^ n := Rat.mul_nonneg (Rat.le_of_lt t0) (Rat.le_of_lt (p2_pos n))
  have aTn : (T * (2 : Rat) ^ n).abs = T * (2 : Rat) ^ n := Rat.abs_of_nonneg hTn0
  obtain ⟨r7, L, i7, q7, s7⟩ := scaleK_is (n := n) i6 (by omega) (by omega) (by
    rw [aTn]
    have g1 := p2_le (show (401 : Int) ≤ 1023 by decide)
    have g2 := p2_half 401
    rw [show (401 - 1 : Int) = 400 by decide] at g2
    grind)
  have c7 := q7.coarse
  rw [aTn, htt] at c7
  have f7 := abs_le_iff.1 c7
  have htd : t ≤ d * (1 / 1000) := by
    have g1 := Rat.mul_le_mul_of_nonneg_right d1 (Rat.le_of_lt (p2_pos (-175)))
    rw [← p2_add, show (-900 + -175 : Int) = -1075 by decide, htt] at g1
    have g2 := Rat.mul_le_mul_of_nonneg_left (p2_small (show (-175 : Int) ≤ -53 by decide)) (Rat.le_of_lt hd0)
    grind
  have hpos : 1 ≤ x.abs ∨ 1 ≤ y.abs → 1 / 4 ≤ L := fun h => by
    have hG1 : 1 ≤ G := by rcases h with h | h <;> grind
    have hn1 : 0 < n := by
      refine Int.not_le.1 fun h => ?_
      have g1 := p2_le h
      rw [show (2 : Rat) ^ (0 : Int) = 1 by simp] at g1
      grind
    have g1 := p2_le (show (1 : Int) ≤ n by omega)
    rw [p2_one] at g1
    have hT4 : 1 / 4 ≤ T := by
      refine Rat.not_lt.1 fun h => ?_
      have g2 := Rat.mul_le_mul_of_nonneg_left (Rat.le_of_lt h) (Rat.le_of_lt t0)
      grind
    have g3 := Rat.mul_le_mul_of_nonneg_left g1 (Rat.le_of_lt t0)
    grind
  refine ⟨r7, L, i7, by grind, hpos, fun R k => ?_⟩
  have hG0' : ¬ (G = ((0 : Int) : Rat)) := by simpa using hG0
  rw [hpre, forceB_eq, eqF_is hg is_zero]
  simp only [hG0', decide_false]
  unfold scaledK scaledB
  rw [hgk, hfr]
  rw [show (0 - n) = -n by omega, wrapI (by omega) (by omega), s1, s2]
  simp only [squareK, sqrtK]
  rw [bindF_eq e3, bindF_eq e4, bindF_eq e5, bindF_eq e6, s7]

theorem lengthK_le {a b : Nat} {x y d : Rat} (ha : Is a x) (hb : Is b y) (hx : x.abs ≤ d) (hy : y.abs ≤ d) (d1 : (2 : Rat) ^ (-900 : Int) ≤ d) (d2 : d ≤ (2 : Rat) ^ (400 : Int)) :
    ∃ r L, Is r L ∧ L ≤ 2 * d ∧ ∀ (R : Type) (k : Nat → Option R), lengthK R a b k = k r :=
  let ⟨r, L, h1, h2, _, h3⟩ := lengthK_full ha hb hx hy d1 d2
  ⟨r, L, h1, h2, h3⟩

/-- Near, from below. -/
theorem nearK_yes {a b c d m : Nat} {x y u v M e : Rat} (ha : Is a x) (hb : Is b y) (hc : Is c u) (hd : Is d v) (hm : Is m M) (hx : (x - u).abs ≤ e) (hy : (y - v).abs ≤ e) (e1 : (2 : Rat) ^ (-800 : Int) ≤ e) (e2 : e ≤ (2 : Rat) ^ (300 : Int)) (hM : 3 * e ≤ M) {R : Type} (k : Bool → Option R) :
    nearK R a b c d m k = k true := by
  have h300 := p2_le (show (300 : Int) ≤ 1022 by decide)
  have h1022 := p2_half 1023
  rw [show (1023 - 1 : Int) = 1022 by decide] at h1022
  have hp := p2_pos 1022
  have he0 : 0 < e := by have := p2_pos (-800); grind
  obtain ⟨p, X, f1, g1, r1⟩ := sub_is ha hc (by grind)
  obtain ⟨q, Y, f2, g2, r2⟩ := sub_is hb hd (by grind)
  have c1 := r1.coarse
  have c2 := r2.coarse
  have ht : (2 : Rat) ^ (-1075 : Int) ≤ e * (1 / 1000) := by
    have k1 := Rat.mul_le_mul_of_nonneg_right e1 (Rat.le_of_lt (p2_pos (-275)))
    rw [← p2_add, show (-800 + -275 : Int) = -1075 by decide] at k1
    have k2 := Rat.mul_le_mul_of_nonneg_left (p2_small (show (-275 : Int) ≤ -53 by decide)) (Rat.le_of_lt he0)
    grind
  have aX : X.abs ≤ 5 / 4 * e := by
    have := abs_add_le (X - (x - u)) (x - u)
    rw [show X - (x - u) + (x - u) = X by grind] at this
    grind
  have aY : Y.abs ≤ 5 / 4 * e := by
    have := abs_add_le (Y - (y - v)) (y - v)
    rw [show Y - (y - v) + (y - v) = Y by grind] at this
    grind
  have k900 := p2_le (show (-900 : Int) ≤ -800 by decide)
  have k400 := p2_le (show (301 : Int) ≤ 400 by decide)
  have k301 := p2_half 301
  rw [show (301 - 1 : Int) = 300 by decide] at k301
  obtain ⟨r, L, i1, l1, s1⟩ := lengthK_le g1 g2 aX aY (by grind) (by grind)
  unfold nearK nearB subK
  rw [bindF_eq f1, bindF_eq f2]
  simp only
  rw [s1, forceB_eq, leF_is i1 hm]
  have : L ≤ M := by grind
  simp only [this, decide_true]
end Go.Vm
namespace Go.Vm
open Ieee
set_option linter.unusedVariables false
set_option linter.unusedSimpArgs false

theorem abs_mul_le {a b A B : Rat} (h1 : a.abs ≤ A) (h2 : b.abs ≤ B) : (a * b).abs ≤ A * B := by
  rw [abs_mul]
  have h3 := Rat.mul_le_mul_of_nonneg_right h1 (abs_nonneg b)
  have h4 := Rat.mul_le_mul_of_nonneg_left h2 (show 0 ≤ A by have := abs_nonneg a; grind)
  grind

theorem e51_le : (2 : Rat) ^ (-51 : Int) ≤ 1 / 1000 := by
  have h6 := p2_le (show (-51 : Int) ≤ -10 by decide)
  have h7 : (2 : Rat) ^ (-10 : Int) * (2 : Rat) ^ (10 : Int) = 1 := by rw [← p2_add, show (-10 + 10 : Int) = 0 by decide, Rat.zpow_zero]
  have h8 : (2 : Rat) ^ (10 : Int) = 1024 := by rw [show (10 : Int) = ((10 : Nat) : Int) by rfl, p2_nat]; rfl
  rw [h8] at h7
  grind

/-- the unit of roundings -/
def eps : Rat := (2 : Rat) ^ (-51 : Int)
theorem eps_pos : 0 < eps := p2_pos _
theorem eps_le : eps ≤ 1 / 1000 := e51_le

theorem Rnd.le {x z B : Rat} (h : Rnd x z) (hx : x.abs ≤ B) (hB : (2 : Rat) ^ (-1000 : Int) ≤ B) : (z - x).abs ≤ eps * B := by
  have h1 := p2_le (show (-53 : Int) ≤ -51 by decide)
  have h2 := Rat.mul_le_mul_of_nonneg_left h1 (abs_nonneg x)
  have h3 := Rat.mul_le_mul_of_nonneg_right hx (Rat.le_of_lt eps_pos)
  have h4 := Rat.mul_le_mul_of_nonneg_right hB (Rat.le_of_lt eps_pos)
  have h5 : (2 : Rat) ^ (-1075 : Int) ≤ (2 : Rat) ^ (-1000 : Int) * eps := by
    unfold eps; rw [← p2_add]; exact p2_le (by decide)
  unfold eps at *
  rcases h.near with g | g <;> grind

theorem Rnd2.le {x z B : Rat} (h : Rnd2 x z) (hx : x.abs ≤ B) (hB : (2 : Rat) ^ (-1000 : Int) ≤ B) : (z - x).abs ≤ eps * B := by
  have h1 := p2_le (show (-52 : Int) ≤ -51 by decide)
  have h2 := Rat.mul_le_mul_of_nonneg_left h1 (abs_nonneg x)
  have h3 := Rat.mul_le_mul_of_nonneg_right hx (Rat.le_of_lt eps_pos)
  have h4 := Rat.mul_le_mul_of_nonneg_right hB (Rat.le_of_lt eps_pos)
  have h5 : (2 : Rat) ^ (-1074 : Int) ≤ (2 : Rat) ^ (-1000 : Int) * eps := by
    unfold eps; rw [← p2_add]; exact p2_le (by decide)
  unfold eps at *
  rcases h.near with g | g <;> grind

theorem abs_div_le {a b B : Rat} (hb : b ≠ 0) (h : a.abs ≤ B * b.abs) : (a / b).abs ≤ B := by
  have h1 : (a / b * b) = a := Rat.div_mul_cancel hb
  have h2 : (a / b).abs * b.abs = a.abs := by rw [← abs_mul, h1]
  have hb0 : 0 < b.abs := by
    rcases (Rat.le_total : 0 ≤ b ∨ b ≤ 0) with g | g
    · rw [Rat.abs_of_nonneg g]; grind
    · rw [Rat.abs_of_nonpos g]; grind
  refine Rat.not_lt.1 fun hlt => ?_
  have := Rat.mul_lt_mul_of_pos_right hlt hb0
  grind

/-- SMITH'S QUOTIENT, one part, in fractions. -/
theorem smith {p q r s u v W M K m1 T m2 n U : Rat} (hr : r ≠ 0) (hW : r.abs = W) (hs : s.abs ≤ W) (hM : 0 ≤ M) (hu : u.abs ≤ M) (hv : v.abs ≤ M)
    (hp : p = u * r - v * s) (hq : q = u * s + v * r)
    (hK : (K - s / r).abs ≤ eps) (h1 : (m1 - s * K).abs ≤ eps * (2 * W)) (hT : (T - (r + m1)).abs ≤ eps * (3 * W))
    (h2 : (m2 - q * K).abs ≤ eps * (3 * (M * W))) (hn : (n - (p + m2)).abs ≤ eps * (5 * (M * W))) (hT0 : T ≠ 0) (hU : (U - n / T).abs ≤ eps * (2 * M)) :
    (U - u).abs ≤ 32 * (M * eps) ∧ W * (9 / 10) ≤ T.abs ∧ n.abs ≤ 2 * M * T.abs := by
  have he := eps_pos
  have he2 := eps_le
  have hW0 : 0 < W := by
    rw [← hW]
    rcases (Rat.le_total : 0 ≤ r ∨ r ≤ 0) with g | g
    · rw [Rat.abs_of_nonneg g]; grind
    · rw [Rat.abs_of_nonpos g]; grind
  -- the true ratio
  have hk : (s / r).abs ≤ 1 := abs_div_le hr (by rw [hW]; grind)
  have hkr : s / r * r = s := Rat.div_mul_cancel hr
  generalize s / r = k at *
  have t0 : W ≤ (r + s * k).abs := by
    -- r + s k = r (1 + k k)
    have e : r + s * k = r * (1 + k * k) := by rw [← hkr]; grind
    rw [e, abs_mul, hW, Rat.abs_of_nonneg (by have := sq_nonneg k; grind)]
    have := Rat.mul_nonneg (Rat.le_of_lt hW0) (sq_nonneg k)
    grind
  have a1 : (s * K - s * k).abs ≤ W * eps := by
    rw [show s * K - s * k = s * (K - k) by grind]; exact abs_mul_le hs hK
  have a2 : (T - (r + s * k)).abs ≤ 6 * (W * eps) := by
    have g1 := abs_add_le (T - (r + m1)) (m1 - s * K)
    have g2 := abs_add_le (T - (r + m1) + (m1 - s * K)) (s * K - s * k)
    rw [show T - (r + m1) + (m1 - s * K) + (s * K - s * k) = T - (r + s * k) by grind] at g2
    grind
  have qa : q.abs ≤ 2 * (M * W) := by
    have g1 := abs_mul_le hu hs
    have g2 := abs_mul_le hv (show r.abs ≤ W by grind)
    have g3 := abs_add_le (u * s) (v * r)
    rw [hq]; grind
  have hMW := Rat.mul_nonneg hM (Rat.le_of_lt hW0)
  have hMWe := Rat.mul_nonneg hMW (Rat.le_of_lt he)
  have a3 : (q * K - q * k).abs ≤ 2 * (M * W) * eps := by
    rw [show q * K - q * k = q * (K - k) by grind]; exact abs_mul_le qa hK
  have a4 : (n - (p + q * k)).abs ≤ 10 * (M * W * eps) := by
    have g1 := abs_add_le (n - (p + m2)) (m2 - q * K)
    have g2 := abs_add_le (n - (p + m2) + (m2 - q * K)) (q * K - q * k)
    rw [show n - (p + m2) + (m2 - q * K) + (q * K - q * k) = n - (p + q * k) by grind] at g2
    grind
  have a5 : p + q * k = u * (r + s * k) := by
    rw [hp, hq]
    have : v * r * k = v * s := by rw [← hkr]; grind
    grind
  have a6 : (u * (T - (r + s * k))).abs ≤ M * (6 * (W * eps)) := abs_mul_le hu a2
  have a7 : (n - u * T).abs ≤ 16 * (M * W * eps) := by
    have g1 := abs_add_le (n - (p + q * k)) (-(u * (T - (r + s * k))))
    rw [abs_neg] at g1
    rw [show n - (p + q * k) + -(u * (T - (r + s * k))) = n - u * T by rw [a5]; grind] at g1
    grind
  have hWe := Rat.mul_le_mul_of_nonneg_left he2 (Rat.le_of_lt hW0)
  have a8 : W * (9 / 10) ≤ T.abs := by
    have g1 := abs_add_le ((r + s * k) - T) T
    rw [show r + s * k - T + T = r + s * k by grind, abs_sub_comm] at g1
    grind
  have hMe := Rat.mul_nonneg hM (Rat.le_of_lt he)
  have a9 : (n / T - u).abs ≤ 18 * (M * eps) := by
    have e : n / T - u = (n - u * T) / T := by
      have g1 : n / T * T = n := Rat.div_mul_cancel hT0
      have g2 : (n - u * T) / T * T = n - u * T := Rat.div_mul_cancel hT0
      have g3 : (n / T - u - (n - u * T) / T) * T = 0 := by grind
      rcases Rat.mul_eq_zero.1 g3 with h | h
      · grind
      · exact absurd h hT0
    rw [e]
    refine abs_div_le hT0 ?_
    have := Rat.mul_le_mul_of_nonneg_left a8 hMe
    grind
  refine ⟨?_, a8, ?_⟩
  · have g1 := abs_add_le (U - n / T) (n / T - u)
    rw [show U - n / T + (n / T - u) = U - u by grind] at g1
    grind
  · have g1 := abs_add_le (n - u * T) (u * T)
    rw [show n - u * T + u * T = n by grind] at g1
    have g2 := abs_mul_le hu (show T.abs ≤ T.abs from Rat.le_refl)
    have g3 := Rat.mul_le_mul_of_nonneg_left a8 hM
    have g4 := Rat.mul_le_mul_of_nonneg_left he2 hMW
    grind
end Go.Vm
namespace Go.Vm
open Ieee
set_option linter.unusedVariables false
set_option linter.unusedSimpArgs false

theorem smith_T {r s W K m1 T : Rat} (hr : r ≠ 0) (hW : r.abs = W) (hs : s.abs ≤ W)
    (hK : (K - s / r).abs ≤ eps) (h1 : (m1 - s * K).abs ≤ eps * (2 * W)) (hT : (T - (r + m1)).abs ≤ eps * (3 * W)) : W * (9 / 10) ≤ T.abs ∧ T ≠ 0 := by
  have he := eps_pos
  have he2 := eps_le
  have hW0 : 0 < W := by
    rw [← hW]
    rcases (Rat.le_total : 0 ≤ r ∨ r ≤ 0) with g | g
    · rw [Rat.abs_of_nonneg g]; grind
    · rw [Rat.abs_of_nonpos g]; grind
  have hkr : s / r * r = s := Rat.div_mul_cancel hr
  generalize s / r = k at *
  have t0 : W ≤ (r + s * k).abs := by
    have e : r + s * k = r * (1 + k * k) := by rw [← hkr]; grind
    rw [e, abs_mul, hW, Rat.abs_of_nonneg (by have := sq_nonneg k; grind)]
    have := Rat.mul_nonneg (Rat.le_of_lt hW0) (sq_nonneg k)
    grind
  have a1 : (s * K - s * k).abs ≤ W * eps := by
    rw [show s * K - s * k = s * (K - k) by grind]; exact abs_mul_le hs hK
  have a2 : (T - (r + s * k)).abs ≤ 6 * (W * eps) := by
    have g1 := abs_add_le (T - (r + m1)) (m1 - s * K)
    have g2 := abs_add_le (T - (r + m1) + (m1 - s * K)) (s * K - s * k)
    rw [show T - (r + m1) + (m1 - s * K) + (s * K - s * k) = T - (r + s * k) by grind] at g2
    grind
  have hWe := Rat.mul_le_mul_of_nonneg_left he2 (Rat.le_of_lt hW0)
  have a8 : W * (9 / 10) ≤ T.abs := by
    have g1 := abs_add_le ((r + s * k) - T) T
    rw [show r + s * k - T + T = r + s * k by grind, abs_sub_comm] at g1
    grind
  refine ⟨a8, fun h => ?_⟩
  rw [h, abs_zero] at a8
  grind

theorem abs_near {x y e : Rat} (h : (x - y).abs ≤ e) : x.abs ≤ y.abs + e := by
  have := abs_add_le (x - y) y
  rw [show x - y + y = x by grind] at this
  grind

/-- the numerator, rounded, over the divisor, rounded -/
theorem smith_part {hb tb nb : Nat} {p q r s u v W M K m1 T m2 n : Rat} (hr : r ≠ 0) (hW : r.abs = W) (hs : s.abs ≤ W) (hu : u.abs ≤ M) (hv : v.abs ≤ M)
    (hp : p = u * r - v * s) (hq : q = u * s + v * r) (M1 : (2 : Rat) ^ (-300 : Int) ≤ M) (M2 : M ≤ (2 : Rat) ^ (300 : Int))
    (hK : (K - s / r).abs ≤ eps) (h1 : (m1 - s * K).abs ≤ eps * (2 * W)) (hT : (T - (r + m1)).abs ≤ eps * (3 * W))
    (h2 : (m2 - q * K).abs ≤ eps * (3 * (M * W))) (hn : (n - (p + m2)).abs ≤ eps * (5 * (M * W))) (it : Is tb T) (inn : Is nb n) :
    ∃ w U, fbF .quo nb tb = some w ∧ Is w U ∧ (U - u).abs ≤ 32 * (M * eps) := by
  have hM0 : 0 < M := by have := p2_pos (-300); grind
  obtain ⟨_, hT0⟩ := smith_T hr hW hs hK h1 hT
  have z : (n / T - n / T).abs ≤ eps * (2 * M) := by
    rw [Rat.sub_self, abs_zero]
    exact Rat.mul_nonneg (Rat.le_of_lt eps_pos) (by grind)
  obtain ⟨_, b1, b2⟩ := smith hr hW hs (Rat.le_of_lt hM0) hu hv hp hq hK h1 hT h2 hn hT0 z
  have hq' : (n / T).abs ≤ 2 * M := abs_div_le hT0 b2
  obtain ⟨w, U, e1, i1, q1⟩ := div_is inn it hT0 (by
    have g1 := p2_le (show (301 : Int) ≤ 1021 by decide)
    have g2 := p2_half 301
    rw [show (301 - 1 : Int) = 300 by decide] at g2
    have g3 := p2_half 1022
    rw [show (1022 - 1 : Int) = 1021 by decide] at g3
    have := p2_pos 1021
    grind)
  have hB : (2 : Rat) ^ (-1000 : Int) ≤ 2 * M := by have := p2_le (show (-1000 : Int) ≤ -300 by decide); grind
  have := q1.le hq' hB
  exact ⟨w, U, e1, i1, (smith hr hW hs (Rat.le_of_lt hM0) hu hv hp hq hK h1 hT h2 hn hT0 this).1⟩

theorem divK_near {a b c d : Nat} {p q r s u v W M : Rat} (ip : Is a p) (iq : Is b q) (ir : Is c r) (is_ : Is d s)
    (hr : r.abs ≤ W) (hs : s.abs ≤ W) (hW : W = r.abs ∨ W = s.abs) (W1 : (2 : Rat) ^ (-300 : Int) ≤ W) (W2 : W ≤ (2 : Rat) ^ (300 : Int))
    (hu : u.abs ≤ M) (hv : v.abs ≤ M) (M1 : (2 : Rat) ^ (-300 : Int) ≤ M) (M2 : M ≤ (2 : Rat) ^ (300 : Int)) (hp : p = u * r - v * s) (hq : q = u * s + v * r) :
    ∃ w1 w2 U V, Is w1 U ∧ Is w2 V ∧ (U - u).abs ≤ 32 * (M * eps) ∧ (V - v).abs ≤ 32 * (M * eps) ∧ ∀ (R : Type) (k : Nat → Nat → Option R), divK R a b c d k = k w1 w2 := by
  have he := eps_pos
  have he2 := eps_le
  have hW0 : 0 < W := by have := p2_pos (-300); grind
  have hM0 : 0 < M := by have := p2_pos (-300); grind
  have hMW0 := Rat.mul_pos hM0 hW0
  have hMWlo : (2 : Rat) ^ (-600 : Int) ≤ M * W := by
    have g1 := Rat.mul_le_mul_of_nonneg_left W1 (Rat.le_of_lt hM0)
    have g2 := Rat.mul_le_mul_of_nonneg_right M1 (Rat.le_of_lt (p2_pos (-300)))
    rw [← p2_add, show (-300 + -300 : Int) = -600 by decide] at g2
    grind
  have hMWhi : M * W ≤ (2 : Rat) ^ (600 : Int) := by
    have g1 := Rat.mul_le_mul_of_nonneg_left W2 (Rat.le_of_lt hM0)
    have g2 := Rat.mul_le_mul_of_nonneg_right M2 (Rat.le_of_lt (p2_pos 300))
    rw [← p2_add, show (300 + 300 : Int) = 600 by decide] at g2
    grind
  have p600 := p2_le (show (-1000 : Int) ≤ -600 by decide)
  have p300 := p2_le (show (-1000 : Int) ≤ -300 by decide)
  have big : ∀ {x : Rat}, x.abs ≤ 10 * (2 : Rat) ^ (600 : Int) → x.abs < (2 : Rat) ^ (1023 : Int) := fun {x} h => by
    have g1 := p2_le (show (604 : Int) ≤ 1022 by decide)
    have g2 : (2 : Rat) ^ (604 : Int) = 16 * (2 : Rat) ^ (600 : Int) := by
      rw [show (604 : Int) = ((4 : Nat) : Int) + 600 by decide, p2_add, p2_nat]; rfl
    have g3 := p2_half 1023
    rw [show (1023 - 1 : Int) = 1022 by decide] at g3
    have := p2_pos 600
    have := p2_pos 1022
    grind
  have p300b : W ≤ (2 : Rat) ^ (600 : Int) := Rat.le_trans W2 (p2_le (by decide))
  have pa : p.abs ≤ 2 * (M * W) := by
    have g1 := abs_mul_le hu hr
    have g2 := abs_mul_le hv hs
    have g3 := abs_add_le (u * r) (-(v * s))
    rw [abs_neg, show u * r + -(v * s) = p by grind] at g3
    grind
  have qa : q.abs ≤ 2 * (M * W) := by
    have g1 := abs_mul_le hu hs
    have g2 := abs_mul_le hv hr
    have g3 := abs_add_le (u * s) (v * r)
    rw [← hq] at g3
    grind
  have hMWe := Rat.mul_le_mul_of_nonneg_left he2 (Rat.le_of_lt hMW0)
  have hWe := Rat.mul_le_mul_of_nonneg_left he2 (Rat.le_of_lt hW0)
  have small1 : (1 : Rat) < (2 : Rat) ^ (1022 : Int) := by
    have g1 := p2_le (show (1 : Int) ≤ 1022 by decide)
    rw [p2_one] at g1
    grind
  have hdef : ∀ (R : Type) (k : Nat → Nat → Option R), divK R a b c d k = forceB (geF (absW c) (absW d)) fun t => match t with
    | true => bindF (fbF .quo d c) fun h => bindF (fbF .mul d h) fun sh => bindF (fbF .add c sh) fun t =>
        bindF (fbF .mul b h) fun qh => bindF (fbF .add a qh) fun n1 => bindF (fbF .quo n1 t) fun re =>
        bindF (fbF .mul a h) fun ph => bindF (fbF .sub b ph) fun n2 => bindF (fbF .quo n2 t) fun im => k re im
    | false => bindF (fbF .quo c d) fun h => bindF (fbF .mul c h) fun rh => bindF (fbF .add rh d) fun t =>
        bindF (fbF .mul a h) fun ph => bindF (fbF .add ph b) fun n1 => bindF (fbF .quo n1 t) fun re =>
        bindF (fbF .mul b h) fun qh => bindF (fbF .sub qh a) fun n2 => bindF (fbF .quo n2 t) fun im => k re im := fun R k => rfl
  -- a product with the ratio
  have prod : ∀ {w h : Nat} {x K : Rat} {B : Rat}, Is w x → Is h K → K.abs ≤ 1001 / 1000 → x.abs ≤ B → (2 : Rat) ^ (-600 : Int) ≤ B → B ≤ 2 * (2 : Rat) ^ (600 : Int) →
      ∃ o m, fbF .mul w h = some o ∧ Is o m ∧ (m - x * K).abs ≤ eps * (3 / 2 * B) ∧ m.abs ≤ 101 / 100 * B := fun {w h x K B} i1 i2 hK hx hB hB2 => by
    have g1 := abs_mul_le hx hK
    have hB0 : 0 < B := by have := p2_pos (-600); grind
    obtain ⟨o, m, e1, e2, e3⟩ := mul_is i1 i2 (big (by grind))
    have g2 := e3.le (B := 3 / 2 * B) (by grind) (by grind)
    have g3 := Rat.mul_le_mul_of_nonneg_left he2 (show (0 : Rat) ≤ 3 / 2 * B by grind)
    have g4 := abs_near g2
    exact ⟨o, m, e1, e2, g2, by grind⟩
  by_cases hc : s.abs ≤ r.abs
  · have hWr : W = r.abs := by rcases hW with h | h <;> grind
    have hr0 : r ≠ 0 := by rintro rfl; rw [abs_zero] at hWr; grind
    have hk1 : (s / r).abs ≤ 1 := abs_div_le hr0 (by grind)
    obtain ⟨h, K, e1, i1, q1⟩ := div_is is_ ir hr0 (by grind)
    have hK := q1.le hk1 (by have := p2_le (show (-1000 : Int) ≤ 0 by decide); rwa [Rat.zpow_zero] at this)
    rw [Rat.mul_one] at hK
    have hKa : K.abs ≤ 1001 / 1000 := by have := abs_near hK; grind
    obtain ⟨sh, m1, e2, i2, q2, b2⟩ := prod is_ i1 hKa hs (by have := p2_le (show (-600 : Int) ≤ -300 by decide); grind) (by have := p2_pos 600; grind)
    have hrm : (r + m1).abs ≤ 3 * W := by have := abs_add_le r m1; grind
    obtain ⟨t, T, e3, i3, q3⟩ := add_is ir i2 (big (by grind))
    have hT := q3.le hrm (by grind)
    obtain ⟨qh, m2, e4, i4, q4, b4⟩ := prod iq i1 hKa qa (by grind) (by grind)
    have hpm : (p + m2).abs ≤ 5 * (M * W) := by have := abs_add_le p m2; grind
    obtain ⟨n1, N1, e5, i5, q5⟩ := add_is ip i4 (big (by grind))
    have hn1 := q5.le hpm (by grind)
    have epW := Rat.mul_nonneg (Rat.le_of_lt he) (Rat.le_of_lt hW0)
    have epMW := Rat.mul_nonneg (Rat.le_of_lt he) (Rat.le_of_lt hMW0)
    obtain ⟨w1, U, e6, i6, g6⟩ := smith_part (hb := h) hr0 hWr.symm hs hu hv hp hq M1 M2 hK (by grind) hT (by grind) hn1 i3 i5
    obtain ⟨ph, m3, e7, i7, q7, b7⟩ := prod ip i1 hKa pa (by grind) (by grind)
    have hqm : (q - m3).abs ≤ 5 * (M * W) := by
      have := abs_add_le q (-m3)
      rw [abs_neg, show q + -m3 = q - m3 by grind] at this
      grind
    obtain ⟨n2, N2, e8, i8, q8⟩ := sub_is iq i7 (big (by grind))
    have hn2 := q8.le hqm (by grind)
    obtain ⟨w2, V, e9, i9, g9⟩ := smith_part (hb := h) (p := q) (q := -p) (u := v) (v := -u) (m2 := -m3) hr0 hWr.symm hs hv (by rw [abs_neg]; exact hu) (by rw [hq]; grind) (by rw [hp]; grind) M1 M2 hK (by grind) hT
      (by rw [show -m3 - -p * K = -(m3 - p * K) by grind, abs_neg]; grind) (by rw [show q + -m3 = q - m3 by grind]; exact hn2) i3 i8
    refine ⟨w1, w2, U, V, i6, i9, g6, g9, fun R k => ?_⟩
    rw [hdef, forceB_eq, geF_is (abs_is ir) (abs_is is_)]
    simp only [hc, decide_true]
    rw [bindF_eq e1, bindF_eq e2, bindF_eq e3, bindF_eq e4, bindF_eq e5, bindF_eq e6, bindF_eq e7, bindF_eq e8, bindF_eq e9]
  · have hWs : W = s.abs := by rcases hW with h | h <;> grind
    have hs0 : s ≠ 0 := by rintro rfl; rw [abs_zero] at hWs; grind
    have hk1 : (r / s).abs ≤ 1 := abs_div_le hs0 (by grind)
    obtain ⟨h, K, e1, i1, q1⟩ := div_is ir is_ hs0 (by grind)
    have hK := q1.le hk1 (by have := p2_le (show (-1000 : Int) ≤ 0 by decide); rwa [Rat.zpow_zero] at this)
    rw [Rat.mul_one] at hK
    have hKa : K.abs ≤ 1001 / 1000 := by have := abs_near hK; grind
    obtain ⟨rh, m1, e2, i2, q2, b2⟩ := prod ir i1 hKa hr (by have := p2_le (show (-600 : Int) ≤ -300 by decide); grind) (by have := p2_pos 600; grind)
    have hrm : (m1 + s).abs ≤ 3 * W := by have := abs_add_le m1 s; grind
    obtain ⟨t, T, e3, i3, q3⟩ := add_is i2 is_ (big (by grind))
    have hT := q3.le hrm (by grind)
    obtain ⟨ph, m2, e4, i4, q4, b4⟩ := prod ip i1 hKa pa (by grind) (by grind)
    have hpm : (m2 + q).abs ≤ 5 * (M * W) := by have := abs_add_le m2 q; grind
    obtain ⟨n1, N1, e5, i5, q5⟩ := add_is i4 iq (big (by grind))
    have hn1 := q5.le hpm (by grind)
    have epW := Rat.mul_nonneg (Rat.le_of_lt he) (Rat.le_of_lt hW0)
    have epMW := Rat.mul_nonneg (Rat.le_of_lt he) (Rat.le_of_lt hMW0)
    have hK' : (-K - -r / s).abs ≤ eps := by
      have : -K - -r / s = -(K - r / s) := by
        have g1 : -r / s * s = -r := Rat.div_mul_cancel hs0
        have g2 : r / s * s = r := Rat.div_mul_cancel hs0
        have g3 : (-r / s + r / s) * s = 0 := by grind
        rcases Rat.mul_eq_zero.1 g3 with h | h
        · grind
        · exact absurd h hs0
      rw [this, abs_neg]; exact hK
    have h1' : (m1 - -r * -K).abs ≤ eps * (2 * W) := by rw [show m1 - -r * -K = m1 - r * K by grind]; grind
    have hT' : (T - (s + m1)).abs ≤ eps * (3 * W) := by rw [show s + m1 = m1 + s by grind]; exact hT
    obtain ⟨w1, U, e6, i6, g6⟩ := smith_part (hb := h) (p := q) (q := -p) (r := s) (s := -r) (u := u) (v := v) (K := -K) hs0 hWs.symm (by rw [abs_neg]; exact hr) hu hv (by rw [hq]; grind) (by rw [hp]; grind) M1 M2 hK' h1' hT'
      (by rw [show m2 - -p * -K = m2 - p * K by grind]; grind) (by rw [show q + m2 = m2 + q by grind]; exact hn1) i3 i5
    obtain ⟨qh, m3, e7, i7, q7, b7⟩ := prod iq i1 hKa qa (by grind) (by grind)
    have hqm : (m3 - p).abs ≤ 5 * (M * W) := by
      have := abs_add_le m3 (-p)
      rw [abs_neg, show m3 + -p = m3 - p by grind] at this
      grind
    obtain ⟨n2, N2, e8, i8, q8⟩ := sub_is i7 ip (big (by grind))
    have hn2 := q8.le hqm (by grind)
    obtain ⟨w2, V, e9, i9, g9⟩ := smith_part (hb := h) (p := -p) (q := -q) (r := s) (s := -r) (u := v) (v := -u) (K := -K) (m2 := m3) hs0 hWs.symm (by rw [abs_neg]; exact hr) hv (by rw [abs_neg]; exact hu) (by rw [hp]; grind) (by rw [hq]; grind) M1 M2 hK' h1' hT'
      (by rw [show m3 - -q * -K = m3 - q * K by grind]; grind) (by rw [show -p + m3 = m3 - p by grind]; exact hn2) i3 i8
    refine ⟨w1, w2, U, V, i6, i9, g6, g9, fun R k => ?_⟩
    rw [hdef, forceB_eq, geF_is (abs_is ir) (abs_is is_)]
    simp only [hc, decide_false]
    rw [bindF_eq e1, bindF_eq e2, bindF_eq e3, bindF_eq e4, bindF_eq e5, bindF_eq e6, bindF_eq e7, bindF_eq e8, bindF_eq e9]
end Go.Vm
namespace Go.Vm
open Ieee
set_option linter.unusedVariables false
set_option linter.unusedSimpArgs false

structure IsT (t : T3) (l : I3) : Prop where
  a : IsC t.a1 t.a2 l.a1 l.a2
  b : IsC t.b1 t.b2 l.b1 l.b2
  c : IsC t.c1 t.c2 l.c1 l.c2
structure I3.Le (l : I3) (n : Nat) : Prop where
  a1 : l.a1.natAbs ≤ n
  a2 : l.a2.natAbs ≤ n
  b1 : l.b1.natAbs ≤ n
  b2 : l.b2.natAbs ≤ n
  c1 : l.c1.natAbs ≤ n
  c2 : l.c2.natAbs ≤ n
def I3.Two (l : I3) : Prop := (l.a1 = l.b1 ∧ l.a2 = l.b2) ∨ (l.b1 = l.c1 ∧ l.b2 = l.c2) ∨ (l.c1 = l.a1 ∧ l.c2 = l.a2)
instance (l : I3) : Decidable l.Two := by unfold I3.Two; infer_instance

def unlikeK : KTB := unlikeB LikeK
def threeK : KTM := threeB subK mulK negK toldK
def ThreeK : KTTM := ThreeB placeK unlikeK threeK turnedK thenK
def underK : KMZC := underB mulK addK
def moebK : KMZ := moebB underK noughtK mulK addK divK
def atK : KMZ := atB chkK placeK moebK FiniteK
def threeLawK := threeLaw upG ofG ThreeK atK nearK

theorem eq2_eq {R : Type} (a b c d : Int) (k : Bool → Option R) : eq2 a b c d k = k (decide (a = c ∧ b = d)) := by
  unfold eq2
  rw [forceB_eq]
  by_cases h1 : a = c
  · subst h1
    simp only [beq_self_eq_true]
    rw [forceB_eq]
    by_cases h2 : b = d
    · subst h2; simp
    · have : (b == d) = false := by simpa using h2
      simp [this, h2]
  · have : (a == c) = false := by simpa using h1
    simp [this, h1]
theorem twoLike_eq {R : Type} (l : I3) (k : Bool → Option R) : twoLike l k = k (decide l.Two) := by
  unfold twoLike I3.Two
  rw [eq2_eq]
  by_cases h1 : l.a1 = l.b1 ∧ l.a2 = l.b2
  · simp [h1]
  · simp only [h1, decide_false, false_or]
    rw [eq2_eq]
    by_cases h2 : l.b1 = l.c1 ∧ l.b2 = l.c2
    · simp [h2]
    · simp only [h2, decide_false, false_or]
      rw [eq2_eq]

theorem unlikeK_int {t : T3} {l : I3} (h : IsT t l) {R : Type} (k : Bool → Option R) : unlikeK R t k = k (!decide l.Two) := by
  unfold unlikeK unlikeB I3.Two
  rw [LikeK_int h.a h.b, forceB_eq]
  by_cases h1 : l.a1 = l.b1 ∧ l.a2 = l.b2
  · simp [h1]
  · simp only [h1, decide_false, false_or]
    rw [LikeK_int h.b h.c, forceB_eq]
    by_cases h2 : l.b1 = l.c1 ∧ l.b2 = l.c2
    · simp [h2]
    · simp only [h2, decide_false, false_or]
      rw [LikeK_int h.c h.a, forceB_eq]

def I3.gm (l : I3) : GM where
  a1 := l.b1 - l.c1
  a2 := l.b2 - l.c2
  b1 := -(l.a1 * (l.b1 - l.c1) - l.a2 * (l.b2 - l.c2))
  b2 := -(l.a1 * (l.b2 - l.c2) + l.a2 * (l.b1 - l.c1))
  c1 := l.b1 - l.a1
  c2 := l.b2 - l.a2
  d1 := -(l.c1 * (l.b1 - l.a1) - l.c2 * (l.b2 - l.a2))
  d2 := -(l.c1 * (l.b2 - l.a2) + l.c2 * (l.b1 - l.a1))

theorem gm_no {l : I3} (h : ¬ l.Two) : ¬ l.gm.No := by
  intro g
  have g1 : l.gm.x = 0 := g.1
  have g2 : l.gm.y = 0 := g.2
  -- the determinant is a c (l0 - l2)
  have e1 : l.gm.x = ((l.b1 - l.c1) * (l.b1 - l.a1) - (l.b2 - l.c2) * (l.b2 - l.a2)) * (l.a1 - l.c1) - ((l.b1 - l.c1) * (l.b2 - l.a2) + (l.b2 - l.c2) * (l.b1 - l.a1)) * (l.a2 - l.c2) := by
    unfold GM.x I3.gm; grind
  have e2 : l.gm.y = ((l.b1 - l.c1) * (l.b1 - l.a1) - (l.b2 - l.c2) * (l.b2 - l.a2)) * (l.a2 - l.c2) + ((l.b1 - l.c1) * (l.b2 - l.a2) + (l.b2 - l.c2) * (l.b1 - l.a1)) * (l.a1 - l.c1) := by
    unfold GM.y I3.gm; grind
  rw [e1] at g1
  rw [e2] at g2
  refine h ?_
  unfold I3.Two
  rcases gauss_domain g1 g2 with ⟨h1, h2⟩ | ⟨h1, h2⟩
  · rcases gauss_domain h1 h2 with ⟨h3, h4⟩ | ⟨h3, h4⟩
    · right; left; omega
    · left; omega
  · right; right; omega

theorem gm_le {l : I3} (h : l.Le 8) : l.gm.Le 256 := by
  obtain ⟨h1, h2, h3, h4, h5, h6⟩ := h
  have p : ∀ {x y : Int}, x.natAbs ≤ 8 → y.natAbs ≤ 16 → (x * y).natAbs ≤ 128 := fun hx hy => natAbs_mul_le hx hy
  have a1 : (l.b1 - l.c1).natAbs ≤ 16 := by omega
  have a2 : (l.b2 - l.c2).natAbs ≤ 16 := by omega
  have c1 : (l.b1 - l.a1).natAbs ≤ 16 := by omega
  have c2 : (l.b2 - l.a2).natAbs ≤ 16 := by omega
  have q1 := p h1 a1
  have q2 := p h2 a2
  have q3 := p h1 a2
  have q4 := p h2 a1
  have q5 := p h5 c1
  have q6 := p h6 c2
  have q7 := p h5 c2
  have q8 := p h6 c1
  constructor <;> simp only [I3.gm] <;> omega

theorem threeK_int {t : T3} {l : I3} (h : IsT t l) (hl : l.Le 8) (hd : ¬ l.Two) : ∃ m, IsM m l.gm ∧ ∀ (R : Type) (ke : Int → Option R) (k : Mp → Option R), threeK R t ke k = k m := by
  obtain ⟨h1, h2, h3, h4, h5, h6⟩ := hl
  obtain ⟨a1, a2, ia, ea⟩ := subK_int h.b h.c (by omega) (by omega)
  obtain ⟨c1, c2, ic, ec⟩ := subK_int h.b h.a (by omega) (by omega)
  obtain ⟨x1, x2, ix, _, _, ex⟩ := mulK_int (p := 8) (q := 16) h.a ia h1 h2 (by omega) (by omega) (by decide)
  obtain ⟨b1, b2, ib, eb⟩ := negK_int ix
  obtain ⟨y1, y2, iy, _, _, ey⟩ := mulK_int (p := 8) (q := 16) h.c ic h5 h6 (by omega) (by omega) (by decide)
  obtain ⟨d1, d2, id_, ed⟩ := negK_int iy
  have hm : IsM ⟨a1, a2, b1, b2, c1, c2, d1, d2, 0⟩ l.gm := ⟨ia, ib, ic, id_, rfl⟩
  refine ⟨_, hm, fun R ke k => ?_⟩
  unfold threeK threeB
  rw [ea, ec, ex, eb, ey, ed]
  exact toldK_int hm (gm_le ⟨h1, h2, h3, h4, h5, h6⟩) (by decide) (by decide) (gm_no hd) ke k

theorem placesB_int {t : T3} {l : I3} (h : IsT t l) (hl : l.Le 8) {R : Type} (ke : Int → Option R) (k : Option R) : placesB placeK t ke k = k := by
  obtain ⟨h1, h2, h3, h4, h5, h6⟩ := hl
  unfold placesB
  rw [placeK_int h.a (by omega) (by omega), forceB_eq]
  simp only
  rw [placeK_int h.b (by omega) (by omega), forceB_eq]
  simp only
  rw [placeK_int h.c (by omega) (by omega), forceB_eq]

theorem ThreeK_two {t u : T3} {l n : I3} (h : IsT t l) (g : IsT u n) (hl : l.Le 8) (hn : n.Le 8) (h2 : l.Two ∨ n.Two) {R : Type} (ke : Int → Option R) (k : Mp → Option R) : ThreeK R t u ke k = ke 180 := by
  unfold ThreeK ThreeB
  rw [placesB_int h hl, placesB_int g hn, unlikeK_int h, forceB_eq]
  by_cases c : l.Two
  · simp [c]
  · have c2 : n.Two := by rcases h2 with h | h; exact absurd h c; exact h
    simp only [c, decide_false, Bool.not_false]
    rw [unlikeK_int g, forceB_eq]
    simp [c2]

theorem ThreeK_int {t u : T3} {l n : I3} (h : IsT t l) (g : IsT u n) (hl : l.Le 8) (hn : n.Le 8) (h1 : ¬ l.Two) (h2 : ¬ n.Two) :
    ∃ m, IsM m (l.gm.cat n.gm.back) ∧ ∀ (R : Type) (ke : Int → Option R) (k : Mp → Option R), ThreeK R t u ke k = k m := by
  obtain ⟨m1, i1, e1⟩ := threeK_int h hl h1
  obtain ⟨m2, i2, e2⟩ := threeK_int g hn h2
  obtain ⟨m3, i3, e3⟩ := turnedK_int i2 (gm_le hn) (by decide) (gm_no h2)
  have lb : n.gm.back.Le 256 := by
    have := gm_le hn
    exact ⟨this.d1, this.d2, by simp [GM.back]; exact this.b1, by simp [GM.back]; exact this.b2, by simp [GM.back]; exact this.c1, by simp [GM.back]; exact this.c2, this.a1, this.a2⟩
  obtain ⟨m4, i4, e4⟩ := thenK_int i1 i3 (gm_le hl) lb (by decide) (by decide) (by decide) (gm_no h1) (back_no (gm_no h2))
  refine ⟨m4, i4, fun R ke k => ?_⟩
  unfold ThreeK ThreeB
  rw [placesB_int h hl, placesB_int g hn, unlikeK_int h, forceB_eq]
  simp only [h1, decide_false, Bool.not_false]
  rw [unlikeK_int g, forceB_eq]
  simp only [h2, decide_false, Bool.not_false]
  rw [e1, e2, e3, e4]
end Go.Vm
namespace Go.Vm
open Ieee
set_option linter.unusedVariables false
set_option linter.unusedSimpArgs false

/-- A place and where the map takes it: numerator and denominator. -/
def GM.n1 (M : GM) (x y : Int) : Int := M.a1 * x - M.a2 * y + M.b1
def GM.n2 (M : GM) (x y : Int) : Int := M.a1 * y + M.a2 * x + M.b2
def GM.e1 (M : GM) (x y : Int) : Int := M.c1 * x - M.c2 * y + M.d1
def GM.e2 (M : GM) (x y : Int) : Int := M.c1 * y + M.c2 * x + M.d2

/-- One map behind the other, at a place. -/
theorem cat_at (M N : GM) (x y : Int) :
    (M.cat N).n1 x y = N.a1 * M.n1 x y - N.a2 * M.n2 x y + (N.b1 * M.e1 x y - N.b2 * M.e2 x y) ∧ (M.cat N).n2 x y = N.a1 * M.n2 x y + N.a2 * M.n1 x y + (N.b1 * M.e2 x y + N.b2 * M.e1 x y) ∧
    (M.cat N).e1 x y = N.c1 * M.n1 x y - N.c2 * M.n2 x y + (N.d1 * M.e1 x y - N.d2 * M.e2 x y) ∧ (M.cat N).e2 x y = N.c1 * M.n2 x y + N.c2 * M.n1 x y + (N.d1 * M.e2 x y + N.d2 * M.e1 x y) := by
  unfold GM.cat GM.n1 GM.n2 GM.e1 GM.e2
  refine ⟨?_, ?_, ?_, ?_⟩ <;> grind

/-- what the map at a place gives: u + i v times the denominator, which is not nought -/
def Takes (M : GM) (x y u v : Int) : Prop := M.n1 x y = u * M.e1 x y - v * M.e2 x y ∧ M.n2 x y = u * M.e2 x y + v * M.e1 x y ∧ ¬ (M.e1 x y = 0 ∧ M.e2 x y = 0)

theorem not_both {a b c d : Int} (h1 : ¬ (a = 0 ∧ b = 0)) (h2 : ¬ (c = 0 ∧ d = 0)) : ¬ (a * c - b * d = 0 ∧ a * d + b * c = 0) := fun ⟨g1, g2⟩ => by
  rcases gauss_domain g1 g2 with h | h
  · exact h1 h
  · exact h2 h

theorem takes_a {l n : I3} (h1 : ¬ l.Two) (h2 : ¬ n.Two) : Takes (l.gm.cat n.gm.back) l.a1 l.a2 n.a1 n.a2 := by
  obtain ⟨c1, c2, c3, c4⟩ := cat_at l.gm n.gm.back l.a1 l.a2
  have z1 : l.gm.n1 l.a1 l.a2 = 0 := by unfold GM.n1 I3.gm; grind
  have z2 : l.gm.n2 l.a1 l.a2 = 0 := by unfold GM.n2 I3.gm; grind
  have w1 : l.gm.e1 l.a1 l.a2 = (l.b1 - l.a1) * (l.a1 - l.c1) - (l.b2 - l.a2) * (l.a2 - l.c2) := by unfold GM.e1 I3.gm; grind
  have w2 : l.gm.e2 l.a1 l.a2 = (l.b1 - l.a1) * (l.a2 - l.c2) + (l.b2 - l.a2) * (l.a1 - l.c1) := by unfold GM.e2 I3.gm; grind
  have hw : ¬ (l.gm.e1 l.a1 l.a2 = 0 ∧ l.gm.e2 l.a1 l.a2 = 0) := by
    rw [w1, w2]
    unfold I3.Two at h1
    exact not_both (by omega) (by omega)
  rw [z1, z2] at c1 c2 c3 c4
  generalize l.gm.e1 l.a1 l.a2 = p at *
  generalize l.gm.e2 l.a1 l.a2 = q at *
  unfold Takes
  rw [c1, c2, c3, c4]
  have nb1 : n.gm.back.b1 = n.a1 * n.gm.a1 - n.a2 * n.gm.a2 := by unfold GM.back I3.gm; grind
  have nb2 : n.gm.back.b2 = n.a1 * n.gm.a2 + n.a2 * n.gm.a1 := by unfold GM.back I3.gm; grind
  have nd1 : n.gm.back.d1 = n.gm.a1 := rfl
  have nd2 : n.gm.back.d2 = n.gm.a2 := rfl
  have na : ¬ (n.gm.a1 = 0 ∧ n.gm.a2 = 0) := by unfold I3.Two at h2; unfold I3.gm; simp only; omega
  rw [nb1, nb2, nd1, nd2]
  generalize n.gm.a1 = a at *
  generalize n.gm.a2 = b at *
  refine ⟨by grind, by grind, ?_⟩
  have := not_both na hw
  grind

theorem takes_b {l n : I3} (h1 : ¬ l.Two) (h2 : ¬ n.Two) : Takes (l.gm.cat n.gm.back) l.b1 l.b2 n.b1 n.b2 := by
  obtain ⟨c1, c2, c3, c4⟩ := cat_at l.gm n.gm.back l.b1 l.b2
  have z1 : l.gm.n1 l.b1 l.b2 = (l.b1 - l.c1) * (l.b1 - l.a1) - (l.b2 - l.c2) * (l.b2 - l.a2) := by unfold GM.n1 I3.gm; grind
  have z2 : l.gm.n2 l.b1 l.b2 = (l.b1 - l.c1) * (l.b2 - l.a2) + (l.b2 - l.c2) * (l.b1 - l.a1) := by unfold GM.n2 I3.gm; grind
  have w1 : l.gm.e1 l.b1 l.b2 = l.gm.n1 l.b1 l.b2 := by rw [z1]; unfold GM.e1 I3.gm; grind
  have w2 : l.gm.e2 l.b1 l.b2 = l.gm.n2 l.b1 l.b2 := by rw [z2]; unfold GM.e2 I3.gm; grind
  have hw : ¬ (l.gm.n1 l.b1 l.b2 = 0 ∧ l.gm.n2 l.b1 l.b2 = 0) := by
    rw [z1, z2]
    unfold I3.Two at h1
    exact not_both (by omega) (by omega)
  rw [w1, w2] at c1 c2 c3 c4
  generalize l.gm.n1 l.b1 l.b2 = p at *
  generalize l.gm.n2 l.b1 l.b2 = q at *
  unfold Takes
  rw [c1, c2, c3, c4]
  have hn : ¬ (n.a1 - n.c1 = 0 ∧ n.a2 - n.c2 = 0) := by unfold I3.Two at h2; omega
  have := not_both hn hw
  unfold GM.back I3.gm
  simp only
  refine ⟨by grind, by grind, ?_⟩
  grind

theorem takes_c {l n : I3} (h1 : ¬ l.Two) (h2 : ¬ n.Two) : Takes (l.gm.cat n.gm.back) l.c1 l.c2 n.c1 n.c2 := by
  obtain ⟨c1, c2, c3, c4⟩ := cat_at l.gm n.gm.back l.c1 l.c2
  have z1 : l.gm.e1 l.c1 l.c2 = 0 := by unfold GM.e1 I3.gm; grind
  have z2 : l.gm.e2 l.c1 l.c2 = 0 := by unfold GM.e2 I3.gm; grind
  have w1 : l.gm.n1 l.c1 l.c2 = (l.b1 - l.c1) * (l.c1 - l.a1) - (l.b2 - l.c2) * (l.c2 - l.a2) := by unfold GM.n1 I3.gm; grind
  have w2 : l.gm.n2 l.c1 l.c2 = (l.b1 - l.c1) * (l.c2 - l.a2) + (l.b2 - l.c2) * (l.c1 - l.a1) := by unfold GM.n2 I3.gm; grind
  have hw : ¬ (l.gm.n1 l.c1 l.c2 = 0 ∧ l.gm.n2 l.c1 l.c2 = 0) := by
    rw [w1, w2]
    unfold I3.Two at h1
    exact not_both (by omega) (by omega)
  rw [z1, z2] at c1 c2 c3 c4
  generalize l.gm.n1 l.c1 l.c2 = p at *
  generalize l.gm.n2 l.c1 l.c2 = q at *
  unfold Takes
  rw [c1, c2, c3, c4]
  have hn : ¬ (n.a1 - n.b1 = 0 ∧ n.a2 - n.b2 = 0) := by unfold I3.Two at h2; omega
  have := not_both hn hw
  unfold GM.back I3.gm
  simp only
  refine ⟨by grind, by grind, ?_⟩
  grind

theorem is_m30 : Is 4472074429978902528 ((2 : Rat) ^ (-30 : Int)) := by
  have := fields_is (s := false) (E := 993) (f := 0) (by decide) (by decide) (by decide)
  have e : dv false (2 ^ 52 + 0) (((993 : Nat) : Int) - 1075) = (2 : Rat) ^ (-30 : Int) := by
    unfold dv sg
    rw [if_neg (by decide), Rat.one_mul, Nat.add_zero, ← p2_nat, ← p2_add]
    rfl
  rw [e] at this
  exact this

theorem near_a : (2 : Rat) ^ (-800 : Int) ≤ 32 * (8 * eps) := by
  have h1 := p2_le (show (-800 : Int) ≤ -51 by decide)
  have h2 := eps_pos
  have h3 : (2 : Rat) ^ (-51 : Int) = eps := rfl
  rw [h3] at h1
  generalize (2 : Rat) ^ (-800 : Int) = w at *
  grind
theorem near_b : 32 * (8 * eps) ≤ (2 : Rat) ^ (300 : Int) := by
  have h1 := p2_le (show (0 : Int) ≤ 300 by decide)
  rw [Rat.zpow_zero] at h1
  have := eps_le
  generalize (2 : Rat) ^ (300 : Int) = w at *
  grind
theorem near_c : 3 * (32 * (8 * eps)) ≤ (2 : Rat) ^ (-30 : Int) := by
  have h1 : eps * (2 : Rat) ^ (21 : Int) = (2 : Rat) ^ (-30 : Int) := by unfold eps; rw [← p2_add]; rfl
  have h2 : (2 : Rat) ^ (21 : Int) = 2097152 := by rw [show (21 : Int) = ((21 : Nat) : Int) by rfl, p2_nat]; rfl
  have := eps_pos
  rw [h2] at h1
  generalize (2 : Rat) ^ (-30 : Int) = w at *
  grind

theorem int_abs_nat (n : Int) : ((n : Rat)).abs = ((n.natAbs : Nat) : Rat) := int_abs n

set_option maxHeartbeats 2000000 in
/-- A Moebius map of whole parts at a place of whole parts, where the answer is whole. -/
theorem atK_int {m : Mp} {M : GM} {a b c d : Nat} {x y u v : Int} {n : Nat} (hm : IsM m M) (lm : M.Le n) (hn : n ≤ 2 ^ 20) (hd : ¬ M.No) (hz : IsC a b x y) (hx : x.natAbs ≤ 8) (hy : y.natAbs ≤ 8) (hw : IsC c d u v) (hu : u.natAbs ≤ 8) (hv : v.natAbs ≤ 8)
    (ht : Takes M x y u v) {R : Type} (k : Bool → Option R) (next : Option R) :
    threeTail atK nearK m a b c d k next = next := by
  have sq : 4 * (n * n) < 2 ^ 53 ∧ n ≤ 2 ^ 40 := by
    have := Nat.mul_le_mul hn hn
    omega
  obtain ⟨s1, t1, i1, b1, b2, e1⟩ := mulK_int (p := n) (q := 8) hm.c hz lm.c1 lm.c2 hx hy (by omega)
  have bd1 := lm.d1
  have bd2 := lm.d2
  obtain ⟨s2, t2, i2, e2⟩ := addK_int i1 hm.d (by omega) (by omega)
  obtain ⟨s3, t3, i3, b3, b4, e3⟩ := mulK_int (p := n) (q := 8) hm.a hz lm.a1 lm.a2 hx hy (by omega)
  have bb1 := lm.b1
  have bb2 := lm.b2
  obtain ⟨s4, t4, i4, e4⟩ := addK_int i3 hm.b (by omega) (by omega)
  obtain ⟨g1, g2, g3⟩ := ht
  have E1 : M.c1 * x - M.c2 * y + M.d1 = M.e1 x y := rfl
  have E2 : M.c1 * y + M.c2 * x + M.d2 = M.e2 x y := rfl
  have N1 : M.a1 * x - M.a2 * y + M.b1 = M.n1 x y := rfl
  have N2 : M.a1 * y + M.a2 * x + M.b2 = M.n2 x y := rfl
  rw [E1, E2] at i2
  rw [N1, N2] at i4
  have be1 : (M.e1 x y).natAbs ≤ 2 ^ 25 := by rw [← E1]; omega
  have be2 : (M.e2 x y).natAbs ≤ 2 ^ 25 := by rw [← E2]; omega
  -- the greater part
  have q1 := int_abs_nat (M.e1 x y)
  have q2 := int_abs_nat (M.e2 x y)
  have hW : ∃ W : Nat, (M.e1 x y).natAbs ≤ W ∧ (M.e2 x y).natAbs ≤ W ∧ (W = (M.e1 x y).natAbs ∨ W = (M.e2 x y).natAbs) ∧ 1 ≤ W ∧ W ≤ 2 ^ 25 := by
    rcases Nat.le_total (M.e1 x y).natAbs (M.e2 x y).natAbs with h | h
    · exact ⟨_, h, Nat.le_refl _, .inr rfl, by omega, be2⟩
    · exact ⟨_, Nat.le_refl _, h, .inl rfl, by omega, be1⟩
  obtain ⟨W, w1, w2, w3, w4, w5⟩ := hW
  have r1 : ((1 : Nat) : Rat) ≤ (W : Rat) := nat_cast_le w4
  have r2 : (W : Rat) ≤ ((2 ^ 25 : Nat) : Rat) := nat_cast_le w5
  have r3 : (2 : Rat) ^ ((25 : Nat) : Int) = ((2 ^ 25 : Nat) : Rat) := p2_nat 25
  have r4 := p2_le (show ((25 : Nat) : Int) ≤ 300 by decide)
  have r5 : (2 : Rat) ^ (-300 : Int) ≤ 1 := by have := p2_le (show (-300 : Int) ≤ 0 by decide); rwa [Rat.zpow_zero] at this
  have r6 : ((8 : Nat) : Rat) = 8 := rfl
  have r7 := p2_le (show ((3 : Nat) : Int) ≤ 300 by decide)
  have r8 : (2 : Rat) ^ ((3 : Nat) : Int) = 8 := by rw [p2_nat]; rfl
  have one : ((1 : Nat) : Rat) = 1 := rfl
  obtain ⟨o1, o2, U, V, j1, j2, j3, j4, j5⟩ := divK_near (W := (W : Rat)) (M := 8) i4.1 i4.2 i2.1 i2.2
    (by rw [q1]; exact nat_cast_le w1) (by rw [q2]; exact nat_cast_le w2)
    (by rcases w3 with h | h
        · left; rw [q1, h]
        · right; rw [q2, h])
    (by grind) (by grind) (by rw [int_abs_nat]; exact nat_cast_le hu) (by rw [int_abs_nat]; exact nat_cast_le hv) (by grind) (by grind)
    (u := (u : Rat)) (v := (v : Rat))
    (by rw [g1]; push_cast; rfl) (by rw [g2]; push_cast; rfl)
  have hnear : ∀ (k : Bool → Option R), nearK R o1 o2 c d 4472074429978902528 k = k true := fun k => by
    exact nearK_yes j1 j2 hw.1 hw.2 is_m30 j3 j4 near_a near_b near_c k
  have hat : ∀ (ke : Int → Option R) (k : Nat → Nat → Option R), atK R m a b ke k = k o1 o2 := fun ke k => by
    unfold atK atB
    rw [chkK_int hm lm sq.1 sq.2, if_neg hd, forceB_eq]
    simp only [bne_self_eq_false]
    rw [placeK_int hz (by omega) (by omega), forceB_eq]
    simp only
    have hmo : ∀ (ke : Int → Option R) (k : Nat → Nat → Option R), moebK R m a b ke k = k o1 o2 := fun ke k => by
      unfold moebK moebB
      have hun : ∀ (k : Nat → Nat → Option R), underK R m a b k = k s2 t2 := fun k => by
        unfold underK underB
        rw [e1, e2]
      rw [hun, noughtK_int i2, forceB_eq]
      simp only [g3, decide_false]
      rw [e3, e4, j5]
    rw [hmo, FiniteK_yes j1 j2, forceB_eq]
  unfold threeTail
  rw [hat, hnear, forceB_eq]

def I3.t3 (l : I3) : T3 := ⟨floatOfInt .f64 l.a1, floatOfInt .f64 l.a2, floatOfInt .f64 l.b1, floatOfInt .f64 l.b2, floatOfInt .f64 l.c1, floatOfInt .f64 l.c2⟩
theorem t3_is {l : I3} (h : l.Le 8) : IsT l.t3 l := by
  have g : ∀ {x : Int}, x.natAbs ≤ 8 → Is (floatOfInt .f64 x) x := fun h => ofInt_is (Nat.lt_of_le_of_lt h (by decide))
  exact ⟨⟨g h.a1, g h.a2⟩, ⟨g h.b1, g h.b2⟩, ⟨g h.c1, g h.c2⟩⟩

theorem threeLawK_true {R : Type} (f g : I3) (k : Bool → Option R) : threeLawK R f g k = k true := by
  unfold threeLawK threeLaw
  simp only [upG_eq, ofG_eq, forceB_eq]
  by_cases a1 : f.a1.natAbs ≤ 8 ∧ f.a2.natAbs ≤ 8
  case neg => simp [a1]
  by_cases a2 : g.a1.natAbs ≤ 8 ∧ g.a2.natAbs ≤ 8
  case neg => simp [a1, a2]
  by_cases a3 : f.b1.natAbs ≤ 8 ∧ f.b2.natAbs ≤ 8
  case neg => simp [a1, a2, a3]
  by_cases a4 : g.b1.natAbs ≤ 8 ∧ g.b2.natAbs ≤ 8
  case neg => simp [a1, a2, a3, a4]
  by_cases a5 : f.c1.natAbs ≤ 8 ∧ f.c2.natAbs ≤ 8
  case neg => simp [a1, a2, a3, a4, a5]
  by_cases a6 : g.c1.natAbs ≤ 8 ∧ g.c2.natAbs ≤ 8
  case neg => simp [a1, a2, a3, a4, a5, a6]
  simp only [a1, a2, a3, a4, a5, a6, and_self, decide_true, twoLike_eq]
  have lf : f.Le 8 := ⟨a1.1, a1.2, a3.1, a3.2, a5.1, a5.2⟩
  have lg : g.Le 8 := ⟨a2.1, a2.2, a4.1, a4.2, a6.1, a6.2⟩
  have hf := t3_is lf
  have hg := t3_is lg
  show ThreeK R f.t3 g.t3 _ _ = _
  by_cases t1 : f.Two
  · rw [ThreeK_two hf hg lf lg (.inl t1), errIn_eq _ (by decide)]
    simp [t1]
  by_cases t2 : g.Two
  · rw [ThreeK_two hf hg lf lg (.inr t2), errIn_eq _ (by decide)]
    simp [t1, t2]
  obtain ⟨m, im, em⟩ := ThreeK_int hf hg lf lg t1 t2
  rw [em]
  simp only [t1, t2, decide_false]
  have lb : g.gm.back.Le 256 := by
    have := gm_le lg
    exact ⟨this.d1, this.d2, by simp [GM.back]; exact this.b1, by simp [GM.back]; exact this.b2, by simp [GM.back]; exact this.c1, by simp [GM.back]; exact this.c2, this.a1, this.a2⟩
  have lm := cat_le (gm_le lf) lb
  have dm := cat_no (gm_no t1) (back_no (gm_no t2))
  rw [show floatOfInt .f64 f.a1 = f.t3.a1 from rfl, show floatOfInt .f64 f.a2 = f.t3.a2 from rfl, show floatOfInt .f64 g.a1 = g.t3.a1 from rfl, show floatOfInt .f64 g.a2 = g.t3.a2 from rfl]
  rw [atK_int im lm (by decide) dm hf.a lf.a1 lf.a2 hg.a lg.a1 lg.a2 (takes_a t1 t2)]
  rw [show floatOfInt .f64 f.b1 = f.t3.b1 from rfl, show floatOfInt .f64 f.b2 = f.t3.b2 from rfl, show floatOfInt .f64 g.b1 = g.t3.b1 from rfl, show floatOfInt .f64 g.b2 = g.t3.b2 from rfl]
  rw [atK_int im lm (by decide) dm hf.b lf.b1 lf.b2 hg.b lg.b1 lg.b2 (takes_b t1 t2)]
  rw [show floatOfInt .f64 f.c1 = f.t3.c1 from rfl, show floatOfInt .f64 f.c2 = f.t3.c2 from rfl, show floatOfInt .f64 g.c1 = g.t3.c1 from rfl, show floatOfInt .f64 g.c2 = g.t3.c2 from rfl]
  rw [atK_int im lm (by decide) dm hf.c lf.c1 lf.c2 hg.c lg.c1 lg.c2 (takes_c t1 t2)]
end Go.Vm
namespace Go.Vm
open Ieee
set_option linter.unusedVariables false
set_option linter.unusedSimpArgs false

/-! ### The square root of a complex number, in fractions -/
theorem eps_tiny : eps * 1000000000 ≤ 1 := by
  have h6 := p2_le (show (-51 : Int) ≤ -30 by decide)
  have h7 : (2 : Rat) ^ (-30 : Int) * (2 : Rat) ^ (30 : Int) = 1 := by rw [← p2_add, show (-30 + 30 : Int) = 0 by decide, Rat.zpow_zero]
  have h8 : (2 : Rat) ^ (30 : Int) = 1073741824 := by rw [show (30 : Int) = ((30 : Nat) : Int) by rfl, p2_nat]; rfl
  rw [h8] at h7
  unfold eps
  grind

theorem root_scaled {x y m1 m2 q r t h s : Rat} (hx0 : 0 ≤ x) (hx : x ≤ 2) (hy : y.abs ≤ 2) (big : 1 / 2 ≤ x ∨ 1 / 2 ≤ y.abs)
    (h1 : (m1 - x * x).abs ≤ 30 * eps) (h2 : (m2 - y * y).abs ≤ 30 * eps) (hq : (q - (m1 + m2)).abs ≤ 20 * eps) (hr0 : 0 < r) (hr : (r * r - q).abs ≤ 20 * eps)
    (ht : (t - (x + r)).abs ≤ 12 * eps) (hh : (h - t / 2).abs ≤ 4 * eps) (hs0 : 0 < s) (hs : (s * s - h).abs ≤ 24 * eps) :
    6 / 25 ≤ s * s ∧ s ≤ 2 ∧ 1 / 3 ≤ s ∧ (4 * (s * s) * (s * s) - y * y - 4 * (s * s) * x).abs ≤ 600 * eps := by
  have he := eps_pos
  have he2 := eps_tiny
  generalize eps = e at *
  obtain ⟨a1, b1⟩ := abs_le_iff.1 h1
  obtain ⟨a2, b2⟩ := abs_le_iff.1 h2
  obtain ⟨a3, b3⟩ := abs_le_iff.1 hq
  obtain ⟨a4, b4⟩ := abs_le_iff.1 hr
  obtain ⟨a5, b5⟩ := abs_le_iff.1 ht
  obtain ⟨a6, b6⟩ := abs_le_iff.1 hh
  obtain ⟨a7, b7⟩ := abs_le_iff.1 hs
  have xx : x * x ≤ 4 := by have := sq_le (x := x) (m := 2) (by rw [Rat.abs_of_nonneg hx0]; exact hx); grind
  have yy : y * y ≤ 4 := by have := sq_le hy; grind
  have xn := sq_nonneg x
  have yn := sq_nonneg y
  have lo : 1 / 4 ≤ x * x + y * y := by
    rcases big with g | g
    · have := sq_ge (x := x) (m := 1 / 2) (by rw [Rat.abs_of_nonneg hx0]; exact g) (by grind); grind
    · have := sq_ge g (by grind); grind
  have e1 : (r * r - (x * x + y * y)).abs ≤ 100 * e := by rw [abs_le_iff]; grind
  have e2 : (2 * (s * s) - (x + r)).abs ≤ 68 * e := by rw [abs_le_iff]; grind
  have r3 : r ≤ 3 := by
    rcases (Rat.le_total : r ≤ 3 ∨ 3 ≤ r) with g | g
    · exact g
    · have := sq_ge (x := r) (m := 3) (by rw [Rat.abs_of_nonneg (Rat.le_of_lt hr0)]; exact g) (by grind)
      obtain ⟨c1, c2⟩ := abs_le_iff.1 e1
      grind
  have r4 : 49 / 100 ≤ r := by
    rcases (Rat.le_total : r ≤ 49 / 100 ∨ 49 / 100 ≤ r) with g | g
    · have := sq_le (x := r) (m := 49 / 100) (by rw [Rat.abs_of_nonneg (Rat.le_of_lt hr0)]; exact g)
      obtain ⟨c1, c2⟩ := abs_le_iff.1 e1
      grind
    · exact g
  obtain ⟨c1, c2⟩ := abs_le_iff.1 e1
  obtain ⟨c3, c4⟩ := abs_le_iff.1 e2
  have ss : 6 / 25 ≤ s * s := by grind
  have s2 : s ≤ 2 := by
    rcases (Rat.le_total : s ≤ 2 ∨ 2 ≤ s) with g | g
    · exact g
    · have := sq_ge (x := s) (m := 2) (by rw [Rat.abs_of_nonneg (Rat.le_of_lt hs0)]; exact g) (by grind)
      grind
  have s3 : 1 / 3 ≤ s := by
    rcases (Rat.le_total : s ≤ 1 / 3 ∨ 1 / 3 ≤ s) with g | g
    · have := sq_le (x := s) (m := 1 / 3) (by rw [Rat.abs_of_nonneg (Rat.le_of_lt hs0)]; exact g)
      grind
    · exact g
  refine ⟨ss, s2, s3, ?_⟩
  have id : 4 * (s * s) * (s * s) - y * y - 4 * (s * s) * x = (r * r - (x * x + y * y)) + (2 * (s * s) - (x + r)) * (2 * r + (2 * (s * s) - (x + r))) := by grind
  rw [id]
  have g1 : (2 * r + (2 * (s * s) - (x + r))).abs ≤ 7 := by
    rw [abs_le_iff]; grind
  have g2 := abs_mul_le e2 g1
  have g3 := abs_add_le (r * r - (x * x + y * y)) ((2 * (s * s) - (x + r)) * (2 * r + (2 * (s * s) - (x + r))))
  grind

/-- both parts of the root, scaled -/
theorem root_parts {x y s Q : Rat} (hx0 : 0 ≤ x) (hx : x ≤ 2) (hy : y.abs ≤ 2) (ss : 6 / 25 ≤ s * s) (s2 : s ≤ 2) (s3 : 1 / 3 ≤ s)
    (hE : (4 * (s * s) * (s * s) - y * y - 4 * (s * s) * x).abs ≤ 600 * eps) (hQ : (Q - y / (2 * s)).abs ≤ 10 * eps) :
    (s * s - Q * Q - x).abs ≤ 700 * eps ∧ (2 * s * Q - y).abs ≤ 40 * eps := by
  have he := eps_pos
  have he2 := eps_tiny
  have hs : 2 * s ≠ 0 := by grind
  have ty : y / (2 * s) * (2 * s) = y := Rat.div_mul_cancel hs
  have ta : (y / (2 * s)).abs ≤ 3 := abs_div_le hs (by
    rw [Rat.abs_of_nonneg (show 0 ≤ 2 * s by grind)]
    grind)
  generalize y / (2 * s) = τ at *
  generalize eps = e at *
  have k1 : (s * s - τ * τ - x).abs ≤ 625 * e := by
    have id : 4 * (s * s) * (s * s) - y * y - 4 * (s * s) * x = (4 * (s * s)) * (s * s - τ * τ - x) := by rw [← ty]; grind
    rw [id, abs_mul, Rat.abs_of_nonneg (show 0 ≤ 4 * (s * s) by grind)] at hE
    have := Rat.mul_le_mul_of_nonneg_right (show 24 / 25 ≤ 4 * (s * s) by grind) (abs_nonneg (s * s - τ * τ - x))
    grind
  have k2 : (Q + τ).abs ≤ 7 := by
    have g1 := abs_add_le (Q - τ) (2 * τ)
    rw [show Q - τ + 2 * τ = Q + τ by grind] at g1
    have g2 := abs_mul_le (show ((2 : Rat)).abs ≤ 2 by rw [Rat.abs_of_nonneg (by decide)]; exact Rat.le_refl) ta
    grind
  have k3 := abs_mul_le hQ k2
  refine ⟨?_, ?_⟩
  · have g := abs_add_le (s * s - τ * τ - x) (-((Q - τ) * (Q + τ)))
    rw [abs_neg, show s * s - τ * τ - x + -((Q - τ) * (Q + τ)) = s * s - Q * Q - x by grind] at g
    grind
  · rw [show 2 * s * Q - y = (2 * s) * (Q - τ) by rw [← ty]; grind]
    have := abs_mul_le (show (2 * s).abs ≤ 4 by rw [Rat.abs_of_nonneg (by grind)]; grind) hQ
    grind
end Go.Vm
