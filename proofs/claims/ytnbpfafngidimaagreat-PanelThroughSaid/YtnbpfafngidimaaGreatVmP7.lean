/- The quotient of complex numbers in fractions; no conditions. The quotient of complex numbers on words, how near it comes; no conditions. What logarithms and angles compute, as functions of words; no conditions. Products, sums and quotients of words of bounded magnitude come and are bounded; no conditions. What ChartThree's functions compute, in Lean; no conditions. The square root of a complex number in fractions; no conditions. Complex numbers of fractions and the squares of their lengths; no conditions. The square root of a complex number on words, its second part; no conditions. What ChartThere's functions compute, in Lean; no conditions. The square root of a complex number on words; no conditions. The series of the arctangent and the logarithm come; no conditions. What the speeds of elements, and sines and cosines, compute as functions of words; no conditions. What logarithms and angles of powers compute, joined; no conditions. The word of a whole number from 1 on is the only one of its value; no conditions. Whole powers to the tenth, and quotients by them, come; no conditions. -/
import Derived.Test.YtnbpfafngidimaaGreatVmP1
import Derived.Test.YtnbpfafngidimaaGreatVmM
namespace Go.Vm
open Ieee
set_option linter.unusedVariables false
set_option linter.unusedSimpArgs false

theorem abs_mul_le {a b A B : Rat} (h1 : a.abs ≤ A) (h2 : b.abs ≤ B) : (a * b).abs ≤ A * B := by
  rw [abs_mul]
  have h3 := Rat.mul_le_mul_of_nonneg_right h1 (abs_nonneg b)
  have h4 := Rat.mul_le_mul_of_nonneg_left h2 (show 0 ≤ A by have := abs_nonneg a; grind)
  grind

theorem e51_le : (2 : Rat) ^ (-51 : Int) ≤ 1 / 1000 := by
  have h6 := p2_le (show (-51 : Int) ≤ -10 by decide)
  have h7 : (2 : Rat) ^ (-10 : Int) * (2 : Rat) ^ (10 : Int) = 1 := by rw [← p2_add, show (-10 + 10 : Int) = 0 by decide, Rat.zpow_zero]
  have h8 : (2 : Rat) ^ (10 : Int) = 1024 := by rw [show (10 : Int) = ((10 : Nat) : Int) by rfl, p2_nat]; rfl
  rw [h8] at h7
  grind

/-- the unit of roundings -/
def eps : Rat := (2 : Rat) ^ (-51 : Int)
theorem eps_pos : 0 < eps := p2_pos _
theorem eps_le : eps ≤ 1 / 1000 := e51_le

theorem Rnd.le {x z B : Rat} (h : Rnd x z) (hx : x.abs ≤ B) (hB : (2 : Rat) ^ (-1000 : Int) ≤ B) : (z - x).abs ≤ eps * B := by
  have h1 := p2_le (show (-53 : Int) ≤ -51 by decide)
  have h2 := Rat.mul_le_mul_of_nonneg_left h1 (abs_nonneg x)
  have h3 := Rat.mul_le_mul_of_nonneg_right hx (Rat.le_of_lt eps_pos)
  have h4 := Rat.mul_le_mul_of_nonneg_right hB (Rat.le_of_lt eps_pos)
  have h5 : (2 : Rat) ^ (-1075 : Int) ≤ (2 : Rat) ^ (-1000 : Int) * eps := by
    unfold eps; rw [← p2_add]; exact p2_le (by decide)
  unfold eps at *
  rcases h.near with g | g <;> grind

theorem Rnd2.le {x z B : Rat} (h : Rnd2 x z) (hx : x.abs ≤ B) (hB : (2 : Rat) ^ (-1000 : Int) ≤ B) : (z - x).abs ≤ eps * B := by
  have h1 := p2_le (show (-52 : Int) ≤ -51 by decide)
  have h2 := Rat.mul_le_mul_of_nonneg_left h1 (abs_nonneg x)
  have h3 := Rat.mul_le_mul_of_nonneg_right hx (Rat.le_of_lt eps_pos)
  have h4 := Rat.mul_le_mul_of_nonneg_right hB (Rat.le_of_lt eps_pos)
  have h5 : (2 : Rat) ^ (-1074 : Int) ≤ (2 : Rat) ^ (-1000 : Int) * eps := by
    unfold eps; rw [← p2_add]; exact p2_le (by decide)
  unfold eps at *
  rcases h.near with g | g <;> grind

theorem abs_div_le {a b B : Rat} (hb : b ≠ 0) (h : a.abs ≤ B * b.abs) : (a / b).abs ≤ B := by
  have h1 : (a / b * b) = a := Rat.div_mul_cancel hb
  have h2 : (a / b).abs * b.abs = a.abs := by rw [← abs_mul, h1]
  have hb0 : 0 < b.abs := by
    rcases (Rat.le_total : 0 ≤ b ∨ b ≤ 0) with g | g
    · rw [Rat.abs_of_nonneg g]; grind
    · rw [Rat.abs_of_nonpos g]; grind
  refine Rat.not_lt.1 fun hlt => ?_
  have := Rat.mul_lt_mul_of_pos_right hlt hb0
  grind

/-- SMITH'S QUOTIENT, one part, in fractions. -/
theorem smith {p q r s u v W M K m1 T m2 n U : Rat} (hr : r ≠ 0) (hW : r.abs = W) (hs : s.abs ≤ W) (hM : 0 ≤ M) (hu : u.abs ≤ M) (hv : v.abs ≤ M)
    (hp : p = u * r - v * s) (hq : q = u * s + v * r)
    (hK : (K - s / r).abs ≤ eps) (h1 : (m1 - s * K).abs ≤ eps * (2 * W)) (hT : (T - (r + m1)).abs ≤ eps * (3 * W))
    (h2 : (m2 - q * K).abs ≤ eps * (3 * (M * W))) (hn : (n - (p + m2)).abs ≤ eps * (5 * (M * W))) (hT0 : T ≠ 0) (hU : (U - n / T).abs ≤ eps * (2 * M)) :
    (U - u).abs ≤ 32 * (M * eps) ∧ W * (9 / 10) ≤ T.abs ∧ n.abs ≤ 2 * M * T.abs := by
  have he := eps_pos
  have he2 := eps_le
  have hW0 : 0 < W := by
    rw [← hW]
    rcases (Rat.le_total : 0 ≤ r ∨ r ≤ 0) with g | g
    · rw [Rat.abs_of_nonneg g]; grind
    · rw [Rat.abs_of_nonpos g]; grind
  -- the true ratio
  have hk : (s / r).abs ≤ 1 := abs_div_le hr (by rw [hW]; grind)
  have hkr : s / r * r = s := Rat.div_mul_cancel hr
  generalize s / r = k at *
  have t0 : W ≤ (r + s * k).abs := by
    -- r + s k = r (1 + k k)
    have e : r + s * k = r * (1 + k * k) := by rw [← hkr]; grind
    rw [e, abs_mul, hW, Rat.abs_of_nonneg (by have := sq_nonneg k; grind)]
    have := Rat.mul_nonneg (Rat.le_of_lt hW0) (sq_nonneg k)
    grind
  have a1 : (s * K - s * k).abs ≤ W * eps := by
    rw [show s * K - s * k = s * (K - k) by grind]; exact abs_mul_le hs hK
  have a2 : (T - (r + s * k)).abs ≤ 6 * (W * eps) := by
    have g1 := abs_add_le (T - (r + m1)) (m1 - s * K)
    have g2 := abs_add_le (T - (r + m1) + (m1 - s * K)) (s * K - s * k)
    rw [show T - (r + m1) + (m1 - s * K) + (s * K - s * k) = T - (r + s * k) by grind] at g2
    grind
  have qa : q.abs ≤ 2 * (M * W) := by
    have g1 := abs_mul_le hu hs
    have g2 := abs_mul_le hv (show r.abs ≤ W by grind)
    have g3 := abs_add_le (u * s) (v * r)
    rw [hq]; grind
  have hMW := Rat.mul_nonneg hM (Rat.le_of_lt hW0)
  have hMWe := Rat.mul_nonneg hMW (Rat.le_of_lt he)
  have a3 : (q * K - q * k).abs ≤ 2 * (M * W) * eps := by
    rw [show q * K - q * k = q * (K - k) by grind]; exact abs_mul_le qa hK
  have a4 : (n - (p + q * k)).abs ≤ 10 * (M * W * eps) := by
    have g1 := abs_add_le (n - (p + m2)) (m2 - q * K)
    have g2 := abs_add_le (n - (p + m2) + (m2 - q * K)) (q * K - q * k)
    rw [show n - (p + m2) + (m2 - q * K) + (q * K - q * k) = n - (p + q * k) by grind] at g2
    grind
  have a5 : p + q * k = u * (r + s * k) := by
    rw [hp, hq]
    have : v * r * k = v * s := by rw [← hkr]; grind
    grind
  have a6 : (u * (T - (r + s * k))).abs ≤ M * (6 * (W * eps)) := abs_mul_le hu a2
  have a7 : (n - u * T).abs ≤ 16 * (M * W * eps) := by
    have g1 := abs_add_le (n - (p + q * k)) (-(u * (T - (r + s * k))))
    rw [abs_neg] at g1
    rw [show n - (p + q * k) + -(u * (T - (r + s * k))) = n - u * T by rw [a5]; grind] at g1
    grind
  have hWe := Rat.mul_le_mul_of_nonneg_left he2 (Rat.le_of_lt hW0)
  have a8 : W * (9 / 10) ≤ T.abs := by
    have g1 := abs_add_le ((r + s * k) - T) T
    rw [show r + s * k - T + T = r + s * k by grind, abs_sub_comm] at g1
    grind
  have hMe := Rat.mul_nonneg hM (Rat.le_of_lt he)
  have a9 : (n / T - u).abs ≤ 18 * (M * eps) := by
    have e : n / T - u = (n - u * T) / T := by
      have g1 : n / T * T = n := Rat.div_mul_cancel hT0
      have g2 : (n - u * T) / T * T = n - u * T := Rat.div_mul_cancel hT0
      have g3 : (n / T - u - (n - u * T) / T) * T = 0 := by grind
      rcases Rat.mul_eq_zero.1 g3 with h | h
      · grind
      · exact absurd h hT0
    rw [e]
    refine abs_div_le hT0 ?_
    have := Rat.mul_le_mul_of_nonneg_left a8 hMe
    grind
  refine ⟨?_, a8, ?_⟩
  · have g1 := abs_add_le (U - n / T) (n / T - u)
    rw [show U - n / T + (n / T - u) = U - u by grind] at g1
    grind
  · have g1 := abs_add_le (n - u * T) (u * T)
    rw [show n - u * T + u * T = n by grind] at g1
    have g2 := abs_mul_le hu (show T.abs ≤ T.abs from Rat.le_refl)
    have g3 := Rat.mul_le_mul_of_nonneg_left a8 hM
    have g4 := Rat.mul_le_mul_of_nonneg_left he2 hMW
    grind
end Go.Vm
namespace Go.Vm
open Ieee
set_option linter.unusedVariables false
set_option linter.unusedSimpArgs false

theorem smith_T {r s W K m1 T : Rat} (hr : r ≠ 0) (hW : r.abs = W) (hs : s.abs ≤ W)
    (hK : (K - s / r).abs ≤ eps) (h1 : (m1 - s * K).abs ≤ eps * (2 * W)) (hT : (T - (r + m1)).abs ≤ eps * (3 * W)) : W * (9 / 10) ≤ T.abs ∧ T ≠ 0 := by
  have he := eps_pos
  have he2 := eps_le
  have hW0 : 0 < W := by
    rw [← hW]
    rcases (Rat.le_total : 0 ≤ r ∨ r ≤ 0) with g | g
    · rw [Rat.abs_of_nonneg g]; grind
    · rw [Rat.abs_of_nonpos g]; grind
  have hkr : s / r * r = s := Rat.div_mul_cancel hr
  generalize s / r = k at *
  have t0 : W ≤ (r + s * k).abs := by
    have e : r + s * k = r * (1 + k * k) := by rw [← hkr]; grind
    rw [e, abs_mul, hW, Rat.abs_of_nonneg (by have := sq_nonneg k; grind)]
    have := Rat.mul_nonneg (Rat.le_of_lt hW0) (sq_nonneg k)
    grind
  have a1 : (s * K - s * k).abs ≤ W * eps := by
    rw [show s * K - s * k = s * (K - k) by grind]; exact abs_mul_le hs hK
  have a2 : (T - (r + s * k)).abs ≤ 6 * (W * eps) := by
    have g1 := abs_add_le (T - (r + m1)) (m1 - s * K)
    have g2 := abs_add_le (T - (r + m1) + (m1 - s * K)) (s * K - s * k)
    rw [show T - (r + m1) + (m1 - s * K) + (s * K - s * k) = T - (r + s * k) by grind] at g2
    grind
  have hWe := Rat.mul_le_mul_of_nonneg_left he2 (Rat.le_of_lt hW0)
  have a8 : W * (9 / 10) ≤ T.abs := by
    have g1 := abs_add_le ((r + s * k) - T) T
    rw [show r + s * k - T + T = r + s * k by grind, abs_sub_comm] at g1
    grind
  refine ⟨a8, fun h => ?_⟩
  rw [h, abs_zero] at a8
  grind

theorem abs_near {x y e : Rat} (h : (x - y).abs ≤ e) : x.abs ≤ y.abs + e := by
  have := abs_add_le (x - y) y
  rw [show x - y + y = x by grind] at this
  grind

/-- the numerator, rounded, over the divisor, rounded -/
theorem smith_part {hb tb nb : Nat} {p q r s u v W M K m1 T m2 n : Rat} (hr : r ≠ 0) (hW : r.abs = W) (hs : s.abs ≤ W) (hu : u.abs ≤ M) (hv : v.abs ≤ M)
    (hp : p = u * r - v * s) (hq : q = u * s + v * r) (M1 : (2 : Rat) ^ (-300 : Int) ≤ M) (M2 : M ≤ (2 : Rat) ^ (300 : Int))
    (hK : (K - s / r).abs ≤ eps) (h1 : (m1 - s * K).abs ≤ eps * (2 * W)) (hT : (T - (r + m1)).abs ≤ eps * (3 * W))
    (h2 : (m2 - q * K).abs ≤ eps * (3 * (M * W))) (hn : (n - (p + m2)).abs ≤ eps * (5 * (M * W))) (it : Is tb T) (inn : Is nb n) :
    ∃ w U, fbF .quo nb tb = some w ∧ Is w U ∧ (U - u).abs ≤ 32 * (M * eps) := by
  have hM0 : 0 < M := by have := p2_pos (-300); grind
  obtain ⟨_, hT0⟩ := smith_T hr hW hs hK h1 hT
  have z : (n / T - n / T).abs ≤ eps * (2 * M) := by
    rw [Rat.sub_self, abs_zero]
    exact Rat.mul_nonneg (Rat.le_of_lt eps_pos) (by grind)
  obtain ⟨_, b1, b2⟩ := smith hr hW hs (Rat.le_of_lt hM0) hu hv hp hq hK h1 hT h2 hn hT0 z
  have hq' : (n / T).abs ≤ 2 * M := abs_div_le hT0 b2
  obtain ⟨w, U, e1, i1, q1⟩ := div_is inn it hT0 (by
    have g1 := p2_le (show (301 : Int) ≤ 1021 by decide)
    have g2 := p2_half 301
    rw [show (301 - 1 : Int) = 300 by decide] at g2
    have g3 := p2_half 1022
    rw [show (1022 - 1 : Int) = 1021 by decide] at g3
    have := p2_pos 1021
    grind)
  have hB : (2 : Rat) ^ (-1000 : Int) ≤ 2 * M := by have := p2_le (show (-1000 : Int) ≤ -300 by decide); grind
  have := q1.le hq' hB
  exact ⟨w, U, e1, i1, (smith hr hW hs (Rat.le_of_lt hM0) hu hv hp hq hK h1 hT h2 hn hT0 this).1⟩

theorem divK_near {a b c d : Nat} {p q r s u v W M : Rat} (ip : Is a p) (iq : Is b q) (ir : Is c r) (is_ : Is d s)
    (hr : r.abs ≤ W) (hs : s.abs ≤ W) (hW : W = r.abs ∨ W = s.abs) (W1 : (2 : Rat) ^ (-300 : Int) ≤ W) (W2 : W ≤ (2 : Rat) ^ (300 : Int))
    (hu : u.abs ≤ M) (hv : v.abs ≤ M) (M1 : (2 : Rat) ^ (-300 : Int) ≤ M) (M2 : M ≤ (2 : Rat) ^ (300 : Int)) (hp : p = u * r - v * s) (hq : q = u * s + v * r) :
    ∃ w1 w2 U V, Is w1 U ∧ Is w2 V ∧ (U - u).abs ≤ 32 * (M * eps) ∧ (V - v).abs ≤ 32 * (M * eps) ∧ ∀ (R : Type) (k : Nat → Nat → Option R), divK R a b c d k = k w1 w2 := by
  have he := eps_pos
  have he2 := eps_le
  have hW0 : 0 < W := by have := p2_pos (-300); grind
  have hM0 : 0 < M := by have := p2_pos (-300); grind
  have hMW0 := Rat.mul_pos hM0 hW0
  have hMWlo : (2 : Rat) ^ (-600 : Int) ≤ M * W := by
    have g1 := Rat.mul_le_mul_of_nonneg_left W1 (Rat.le_of_lt hM0)
    have g2 := Rat.mul_le_mul_of_nonneg_right M1 (Rat.le_of_lt (p2_pos (-300)))
    rw [← p2_add, show (-300 + -300 : Int) = -600 by decide] at g2
    grind
  have hMWhi : M * W ≤ (2 : Rat) ^ (600 : Int) := by
    have g1 := Rat.mul_le_mul_of_nonneg_left W2 (Rat.le_of_lt hM0)
    have g2 := Rat.mul_le_mul_of_nonneg_right M2 (Rat.le_of_lt (p2_pos 300))
    rw [← p2_add, show (300 + 300 : Int) = 600 by decide] at g2
    grind
  have p600 := p2_le (show (-1000 : Int) ≤ -600 by decide)
  have p300 := p2_le (show (-1000 : Int) ≤ -300 by decide)
  have big : ∀ {x : Rat}, x.abs ≤ 10 * (2 : Rat) ^ (600 : Int) → x.abs < (2 : Rat) ^ (1023 : Int) := fun {x} h => by
    have g1 := p2_le (show (604 : Int) ≤ 1022 by decide)
    have g2 : (2 : Rat) ^ (604 : Int) = 16 * (2 : Rat) ^ (600 : Int) := by
      rw [show (604 : Int) = ((4 : Nat) : Int) + 600 by decide, p2_add, p2_nat]; rfl
    have g3 := p2_half 1023
    rw [show (1023 - 1 : Int) = 1022 by decide] at g3
    have := p2_pos 600
    have := p2_pos 1022
    grind
  have p300b : W ≤ (2 : Rat) ^ (600 : Int) := Rat.le_trans W2 (p2_le (by decide))
  have pa : p.abs ≤ 2 * (M * W) := by
    have g1 := abs_mul_le hu hr
    have g2 := abs_mul_le hv hs
    have g3 := abs_add_le (u * r) (-(v * s))
    rw [abs_neg, show u * r + -(v * s) = p by grind] at g3
    grind
  have qa : q.abs ≤ 2 * (M * W) := by
    have g1 := abs_mul_le hu hs
    have g2 := abs_mul_le hv hr
    have g3 := abs_add_le (u * s) (v * r)
    rw [← hq] at g3
    grind
  have hMWe := Rat.mul_le_mul_of_nonneg_left he2 (Rat.le_of_lt hMW0)
  have hWe := Rat.mul_le_mul_of_nonneg_left he2 (Rat.le_of_lt hW0)
  have small1 : (1 : Rat) < (2 : Rat) ^ (1022 : Int) := by
    have g1 := p2_le (show (1 : Int) ≤ 1022 by decide)
    rw [p2_one] at g1
    grind
  have hdef : ∀ (R : Type) (k : Nat → Nat → Option R), divK R a b c d k = forceB (geF (absW c) (absW d)) fun t => match t with
    | true => bindF (fbF .quo d c) fun h => bindF (fbF .mul d h) fun sh => bindF (fbF .add c sh) fun t =>
        bindF (fbF .mul b h) fun qh => bindF (fbF .add a qh) fun n1 => bindF (fbF .quo n1 t) fun re =>
        bindF (fbF .mul a h) fun ph => bindF (fbF .sub b ph) fun n2 => bindF (fbF .quo n2 t) fun im => k re im
    | false => bindF (fbF .quo c d) fun h => bindF (fbF .mul c h) fun rh => bindF (fbF .add rh d) fun t =>
        bindF (fbF .mul a h) fun ph => bindF (fbF .add ph b) fun n1 => bindF (fbF .quo n1 t) fun re =>
        bindF (fbF .mul b h) fun qh => bindF (fbF .sub qh a) fun n2 => bindF (fbF .quo n2 t) fun im => k re im := fun R k => rfl
  -- a product with the ratio
  have prod : ∀ {w h : Nat} {x K : Rat} {B : Rat}, Is w x → Is h K → K.abs ≤ 1001 / 1000 → x.abs ≤ B → (2 : Rat) ^ (-600 : Int) ≤ B → B ≤ 2 * (2 : Rat) ^ (600 : Int) →
      ∃ o m, fbF .mul w h = some o ∧ Is o m ∧ (m - x * K).abs ≤ eps * (3 / 2 * B) ∧ m.abs ≤ 101 / 100 * B := fun {w h x K B} i1 i2 hK hx hB hB2 => by
    have g1 := abs_mul_le hx hK
    have hB0 : 0 < B := by have := p2_pos (-600); grind
    obtain ⟨o, m, e1, e2, e3⟩ := mul_is i1 i2 (big (by grind))
    have g2 := e3.le (B := 3 / 2 * B) (by grind) (by grind)
    have g3 := Rat.mul_le_mul_of_nonneg_left he2 (show (0 : Rat) ≤ 3 / 2 * B by grind)
    have g4 := abs_near g2
    exact ⟨o, m, e1, e2, g2, by grind⟩
  by_cases hc : s.abs ≤ r.abs
  · have hWr : W = r.abs := by rcases hW with h | h <;> grind
    have hr0 : r ≠ 0 := by rintro rfl; rw [abs_zero] at hWr; grind
    have hk1 : (s / r).abs ≤ 1 := abs_div_le hr0 (by grind)
    obtain ⟨h, K, e1, i1, q1⟩ := div_is is_ ir hr0 (by grind)
    have hK := q1.le hk1 (by have := p2_le (show (-1000 : Int) ≤ 0 by decide); rwa [Rat.zpow_zero] at this)
    rw [Rat.mul_one] at hK
    have hKa : K.abs ≤ 1001 / 1000 := by have := abs_near hK; grind
    obtain ⟨sh, m1, e2, i2, q2, b2⟩ := prod is_ i1 hKa hs (by have := p2_le (show (-600 : Int) ≤ -300 by decide); grind) (by have := p2_pos 600; grind)
    have hrm : (r + m1).abs ≤ 3 * W := by have := abs_add_le r m1; grind
    obtain ⟨t, T, e3, i3, q3⟩ := add_is ir i2 (big (by grind))
    have hT := q3.le hrm (by grind)
    obtain ⟨qh, m2, e4, i4, q4, b4⟩ := prod iq i1 hKa qa (by grind) (by grind)
    have hpm : (p + m2).abs ≤ 5 * (M * W) := by have := abs_add_le p m2; grind
    obtain ⟨n1, N1, e5, i5, q5⟩ := add_is ip i4 (big (by grind))
    have hn1 := q5.le hpm (by grind)
    have epW := Rat.mul_nonneg (Rat.le_of_lt he) (Rat.le_of_lt hW0)
    have epMW := Rat.mul_nonneg (Rat.le_of_lt he) (Rat.le_of_lt hMW0)
    obtain ⟨w1, U, e6, i6, g6⟩ := smith_part (hb := h) hr0 hWr.symm hs hu hv hp hq M1 M2 hK (by grind) hT (by grind) hn1 i3 i5
    obtain ⟨ph, m3, e7, i7, q7, b7⟩ := prod ip i1 hKa pa (by grind) (by grind)
    have hqm : (q - m3).abs ≤ 5 * (M * W) := by
      have := abs_add_le q (-m3)
      rw [abs_neg, show q + -m3 = q - m3 by grind] at this
      grind
    obtain ⟨n2, N2, e8, i8, q8⟩ := sub_is iq i7 (big (by grind))
    have hn2 := q8.le hqm (by grind)
    obtain ⟨w2, V, e9, i9, g9⟩ := smith_part (hb := h) (p := q) (q := -p) (u := v) (v := -u) (m2 := -m3) hr0 hWr.symm hs hv (by rw [abs_neg]; exact hu) (by rw [hq]; grind) (by rw [hp]; grind) M1 M2 hK (by grind) hT
      (by rw [show -m3 - -p * K = -(m3 - p * K) by grind, abs_neg]; grind) (by rw [show q + -m3 = q - m3 by grind]; exact hn2) i3 i8
    refine ⟨w1, w2, U, V, i6, i9, g6, g9, fun R k => ?_⟩
    rw [hdef, forceB_eq, geF_is (abs_is ir) (abs_is is_)]
    simp only [hc, decide_true]
    rw [bindF_eq e1, bindF_eq e2, bindF_eq e3, bindF_eq e4, bindF_eq e5, bindF_eq e6, bindF_eq e7, bindF_eq e8, bindF_eq e9]
  · have hWs : W = s.abs := by rcases hW with h | h <;> grind
    have hs0 : s ≠ 0 := by rintro rfl; rw [abs_zero] at hWs; grind
    have hk1 : (r / s).abs ≤ 1 := abs_div_le hs0 (by grind)
    obtain ⟨h, K, e1, i1, q1⟩ := div_is ir is_ hs0 (by grind)
    have hK := q1.le hk1 (by have := p2_le (show (-1000 : Int) ≤ 0 by decide); rwa [Rat.zpow_zero] at this)
    rw [Rat.mul_one] at hK
    have hKa : K.abs ≤ 1001 / 1000 := by have := abs_near hK; grind
    obtain ⟨rh, m1, e2, i2, q2, b2⟩ := prod ir i1 hKa hr (by have := p2_le (show (-600 : Int) ≤ -300 by decide); grind) (by have := p2_pos 600; grind)
    have hrm : (m1 + s).abs ≤ 3 * W := by have := abs_add_le m1 s; grind
    obtain ⟨t, T, e3, i3, q3⟩ := add_is i2 is_ (big (by grind))
    have hT := q3.le hrm (by grind)
    obtain ⟨ph, m2, e4, i4, q4, b4⟩ := prod ip i1 hKa pa (by grind) (by grind)
    have hpm : (m2 + q).abs ≤ 5 * (M * W) := by have := abs_add_le m2 q; grind
    obtain ⟨n1, N1, e5, i5, q5⟩ := add_is i4 iq (big (by grind))
    have hn1 := q5.le hpm (by grind)
    have epW := Rat.mul_nonneg (Rat.le_of_lt he) (Rat.le_of_lt hW0)
    have epMW := Rat.mul_nonneg (Rat.le_of_lt he) (Rat.le_of_lt hMW0)
    have hK' : (-K - -r / s).abs ≤ eps := by
      have : -K - -r / s = -(K - r / s) := by
        have g1 : -r / s * s = -r := Rat.div_mul_cancel hs0
        have g2 : r / s * s = r := Rat.div_mul_cancel hs0
        have g3 : (-r / s + r / s) * s = 0 := by grind
        rcases Rat.mul_eq_zero.1 g3 with h | h
        · grind
        · exact absurd h hs0
      rw [this, abs_neg]; exact hK
    have h1' : (m1 - -r * -K).abs ≤ eps * (2 * W) := by rw [show m1 - -r * -K = m1 - r * K by grind]; grind
    have hT' : (T - (s + m1)).abs ≤ eps * (3 * W) := by rw [show s + m1 = m1 + s by grind]; exact hT
    obtain ⟨w1, U, e6, i6, g6⟩ := smith_part (hb := h) (p := q) (q := -p) (r := s) (s := -r) (u := u) (v := v) (K := -K) hs0 hWs.symm (by rw [abs_neg]; exact hr) hu hv (by rw [hq]; grind) (by rw [hp]; grind) M1 M2 hK' h1' hT'
      (by rw [show m2 - -p * -K = m2 - p * K by grind]; grind) (by rw [show q + m2 = m2 + q by grind]; exact hn1) i3 i5
    obtain ⟨qh, m3, e7, i7, q7, b7⟩ := prod iq i1 hKa qa (by grind) (by grind)
    have hqm : (m3 - p).abs ≤ 5 * (M * W) := by
      have := abs_add_le m3 (-p)
      rw [abs_neg, show m3 + -p = m3 - p by grind] at this
      grind
    obtain ⟨n2, N2, e8, i8, q8⟩ := sub_is i7 ip (big (by grind))
    have hn2 := q8.le hqm (by grind)
    obtain ⟨w2, V, e9, i9, g9⟩ := smith_part (hb := h) (p := -p) (q := -q) (r := s) (s := -r) (u := v) (v := -u) (K := -K) (m2 := m3) hs0 hWs.symm (by rw [abs_neg]; exact hr) hv (by rw [abs_neg]; exact hu) (by rw [hp]; grind) (by rw [hq]; grind) M1 M2 hK' h1' hT'
      (by rw [show m3 - -q * -K = m3 - q * K by grind]; grind) (by rw [show -p + m3 = m3 - p by grind]; exact hn2) i3 i8
    refine ⟨w1, w2, U, V, i6, i9, g6, g9, fun R k => ?_⟩
    rw [hdef, forceB_eq, geF_is (abs_is ir) (abs_is is_)]
    simp only [hc, decide_false]
    rw [bindF_eq e1, bindF_eq e2, bindF_eq e3, bindF_eq e4, bindF_eq e5, bindF_eq e6, bindF_eq e7, bindF_eq e8, bindF_eq e9]
end Go.Vm
namespace Go.Vm
open Ieee
set_option linter.unusedVariables false
set_option linter.unusedSimpArgs false

/-! ### Logarithms and angles -/
def sPi : Sum := fun R args k => match args with
  | [] => k (.tuple ⟨[.float .f64 4614256656552045848, .float .f64 4368955796522032135]⟩)
  | _ => none
def sInfW2 : Sum := fun R args k => match args with
  | [.int .i64 s] => bif s == 1 then k (.float .f64 9218868437227405312) else bif s == -1 then k (.float .f64 18442240474082181120) else none
  | _ => none
/-- s := r - z s, for each r -/
def series {R : Type} (z : Nat) : List Nat → Nat → (Nat → Option R) → Option R
  | [], s, k => k s
  | r :: rs, s, k => bindF (fbF .mul z s) fun p => bindF (fbF .sub r p) fun s => series z rs s k
def seriesP {R : Type} (z : Nat) : List Nat → Nat → (Nat → Option R) → Option R
  | [], s, k => k s
  | r :: rs, s, k => bindF (fbF .mul z s) fun p => bindF (fbF .add r p) fun s => seriesP z rs s k
def coreList : List Nat := [4581539473982948665, 4581789782603141207, 4582062340878461975, 4582360253411952116, 4582687230582855930, 4583047743873852442, 4583447231574686416, 4583892375012758557, 4584391475231203080, 4584809698070499460, 4585130310279789462, 4585498420594159464, 4585925428558828667, 4586426698778222948, 4587023449039406616, 4587745830934523688, 4588638185040256542, 4589468260265693457, 4590207312512236308, 4591215111030249286, 4592670820000712476, 4594314991293244562, 4596373779694328218, 4599676419421066581, 4607182418800017408]
def oddList : List Nat := [4586426698778222948, 4587023449039406616, 4587745830934523688, 4588638185040256542, 4589468260265693457, 4590207312512236308, 4591215111030249286, 4592670820000712476, 4594314991293244562, 4596373779694328218, 4599676419421066581]
def coreK : KFF := fun R t k => forceB (gtF t 4601130706800738304) fun far => match far with
  | true => bindF (fbF .sub t 4607182418800017408) fun d => bindF (fbF .add t 4607182418800017408) fun e => bindF (fbF .quo d e) fun u =>
      bindF (fbF .mul u u) fun z => series z coreList 0 fun s => bindF (fbF .mul u s) fun v => bindF (fbF .add v 4359948597267291143) fun x => bindF (fbF .add 4605249457297304856 x) k
  | false => bindF (fbF .mul t t) fun z => series z coreList 0 fun s => bindF (fbF .mul t s) k
def oddK : KFF := fun R f k => bindF (fbF .mul f f) fun s => seriesP s oddList 4585925428558828667 fun q =>
  bindF (fbF .mul 4611686018427387904 f) fun a => bindF (fbF .mul s q) fun x => bindF (fbF .mul a x) fun y => bindF (fbF .add a y) k
def logB (fi : Fi) (infP : KFB) (pa : KFFI) (odd : KFF) : KFF := fun R x k => forceB (neF x x) fun t => match t with
  | true => k x
  | false => infP R x fun t => forceB t fun t => match t with
    | true => k x
    | false => forceB (ltF x 0) fun t => match t with
      | true => none
      | false => forceB (eqF x 0) fun t => match t with
        | true => k 18442240474082181120
        | false => pa R x fun m e =>
          let rest : Nat → Int → Option R := fun m e => forceN (floatOfInt .f64 e) fun n => bindF (fbF .mul n 4604418534311723008) fun h => bindF (fbF .mul n 4461442080421002358) fun l =>
            bindF (fbF .sub m 4607182418800017408) fun p => bindF (fbF .add m 4607182418800017408) fun q => bindF (fbF .quo p q) fun f => odd R f fun o => bindF (fbF .add l o) fun x => bindF (fbF .add h x) k
          forceB (ltF m 4604544271217802189) fun t => match t with
          | true => bindF (fbF .mul 4611686018427387904 m) fun m => fi R (IntKind.i64.wrap (e - 1)) fun e => rest m e
          | false => rest m e
def signB (fi : Fi) : KFB := fun R x k => fi R (IntKind.i64.wrap (x : Int)) fun n => forceB (decide (n < 0)) fun t => k t
def minusB (sg : KFB) : KFB := fun R x k => forceB (eqF x x) fun t => match t with
  | true => sg R x fun t => forceB t fun t => k t
  | false => k false
def signedB (mi : KFB) (ab : KFF) : KFFF := fun R a b k => mi R b fun t => forceB t fun t => match t with
  | true => ab R a fun x => forceN (Op.negFloat .f64 x) k
  | false => ab R a k
def angleB (ab : KFF) (infP : KFB) (core : KFF) (mi : KFB) (sd : KFFF) : KFFF := fun R y x k => forceB (neF y y) fun t => match t with
  | true => none
  | false => forceB (neF x x) fun t => match t with
    | true => none
    | false => ab R y fun p => ab R x fun q =>
      let rest : Nat → Option R := fun b => mi R x fun t => forceB t fun t => match t with
        | true => bindF (fbF .sub b 4368955796522032135) fun c => bindF (fbF .sub 4614256656552045848 c) fun b => sd R b y k
        | false => sd R b y k
      let three : Option R := forceB (leF p q) fun t => match t with
        | true => bindF (fbF .quo p q) fun t => core R t rest
        | false => bindF (fbF .quo q p) fun t => core R t fun c => bindF (fbF .sub c 4364452196894661639) fun d => bindF (fbF .sub 4609753056924675352 d) rest
      forceB (eqF p 0) fun t => match t with
      | true => rest 0
      | false => forceB (eqF p q) fun t => match t with
        | true => infP R p fun t => forceB t fun t => match t with
          | true => rest 4605249457297304856
          | false => three
        | false => three
def powLogB (len : KCF) (lg : KFF) (an : KFFF) : KCC := fun R a b k => len R a b fun l => lg R l fun x => an R b a fun y => k x y
end Go.Vm
namespace Go.Vm
open Ieee
set_option linter.unusedVariables false
set_option linter.unusedSimpArgs false

/-! ### Magnitudes: floats that are at most a power of two -/
def Mag (e : Int) (w : Nat) : Prop := ∃ x, Is w x ∧ x.abs ≤ (2 : Rat) ^ e

theorem mul_mono' {x y a b : Rat} (h1 : x ≤ a) (h2 : y ≤ b) (hy : 0 ≤ y) (ha : 0 ≤ a) : x * y ≤ a * b :=
  Rat.le_trans (Rat.mul_le_mul_of_nonneg_right h1 hy) (Rat.mul_le_mul_of_nonneg_left h2 ha)

/-- a word that is written out -/
theorem mag_word {w : Nat} {e : Int} (h1 : w < 2 ^ 64) (h2 : w % 2 ^ 63 < 2047 * 2 ^ 52) (h3 : ((w % 2 ^ 63 / 2 ^ 52 : Nat) : Int) - 1022 ≤ e) (h4 : -1022 ≤ e) : Mag e w := by
  have e1 : double.signWeight = 2 ^ 63 := by decide
  have e2 : double.binade = 2 ^ 52 := by decide
  have e3 : double.infRung = 2047 * 2 ^ 52 := by decide
  have e4 : double.leastPlace = -1074 := by decide
  by_cases hs : w % 2 ^ 63 < 2 ^ 52
  · refine ⟨dv (w / 2 ^ 63 % 2 == 1) (w % 2 ^ 63) (-1074), ⟨h1, _, _, _, ?_, rfl⟩, ?_⟩
    · unfold Format.read
      simp only [e1, e2, e3, e4]
      rw [if_pos hs]
    · rw [dv_abs]
      have : ((w % 2 ^ 63 : Nat) : Rat) * (2 : Rat) ^ (-1074 : Int) ≤ ((2 ^ 52 : Nat) : Rat) * (2 : Rat) ^ (-1074 : Int) := Rat.mul_le_mul_of_nonneg_right (nat_cast_le (Nat.le_of_lt hs)) (Rat.le_of_lt (p2_pos _))
      rw [← p2_nat, ← p2_add] at this
      exact Rat.le_trans this (p2_le (by omega))
  · refine ⟨dv (w / 2 ^ 63 % 2 == 1) (2 ^ 52 + w % 2 ^ 63 % 2 ^ 52) (-1074 + (w % 2 ^ 63 / 2 ^ 52 - 1 : Nat)), ⟨h1, _, _, _, ?_, rfl⟩, ?_⟩
    · unfold Format.read
      simp only [e1, e2, e3, e4]
      rw [if_neg hs, if_pos h2]
    · rw [dv_abs]
      have hlt : 2 ^ 52 + w % 2 ^ 63 % 2 ^ 52 ≤ 2 ^ 53 := by have := Nat.mod_lt (w % 2 ^ 63) (show 0 < 2 ^ 52 by decide); omega
      have := Rat.mul_le_mul_of_nonneg_right (nat_cast_le hlt) (Rat.le_of_lt (p2_pos (-1074 + (w % 2 ^ 63 / 2 ^ 52 - 1 : Nat))))
      rw [← p2_nat, ← p2_add] at this
      exact Rat.le_trans this (p2_le (by omega))

def magB (e : Int) (w : Nat) : Bool := decide (w < 2 ^ 64) && decide (w % 2 ^ 63 < 2047 * 2 ^ 52) && decide (((w % 2 ^ 63 / 2 ^ 52 : Nat) : Int) - 1022 ≤ e) && decide (-1022 ≤ e)
theorem mag_lit {e : Int} {w : Nat} (h : magB e w = true) : Mag e w := by
  unfold magB at h
  simp only [Bool.and_eq_true, decide_eq_true_eq] at h
  exact mag_word h.1.1.1 h.1.1.2 h.1.2 h.2
theorem mag_lits {e : Int} {l : List Nat} (h : l.all (magB e) = true) : ∀ r ∈ l, Mag e r := fun r hr => mag_lit (List.all_eq_true.1 h r hr)

/-! ### Series -/
end Go.Vm
namespace Go.Vm
open Ieee
set_option linter.unusedVariables false
set_option linter.unusedSimpArgs false

/-! ### Three places -/
/-- an error's number, told from a list -/
def errIn {R : Type} : List Int → Int → (Int → Option R) → Option R
  | [], _, _ => none
  | c :: cs, e, ke => forceB (e == c) fun t => match t with
    | true => ke c
    | false => errIn cs e ke
def zOk {R : Type} (k : Value → Option R) (x y : Nat) : Option R := k (.tuple ⟨[.complex .f64 x y, .int .i64 0]⟩)

abbrev KMZ := ∀ R : Type, Mp → Nat → Nat → (Int → Option R) → (Nat → Nat → Option R) → Option R
/-! ### Three places of whole parts -/
end Go.Vm
namespace Go.Vm
open Ieee
set_option linter.unusedVariables false
set_option linter.unusedSimpArgs false

/-! ### The square root of a complex number, in fractions -/
theorem eps_tiny : eps * 1000000000 ≤ 1 := by
  have h6 := p2_le (show (-51 : Int) ≤ -30 by decide)
  have h7 : (2 : Rat) ^ (-30 : Int) * (2 : Rat) ^ (30 : Int) = 1 := by rw [← p2_add, show (-30 + 30 : Int) = 0 by decide, Rat.zpow_zero]
  have h8 : (2 : Rat) ^ (30 : Int) = 1073741824 := by rw [show (30 : Int) = ((30 : Nat) : Int) by rfl, p2_nat]; rfl
  rw [h8] at h7
  unfold eps
  grind

end Go.Vm
namespace Go.Vm
open Ieee
set_option linter.unusedVariables false
set_option linter.unusedSimpArgs false

/-! ### Complex numbers of fractions, and the squares of their lengths -/
structure Cq where
  x : Rat
  y : Rat
namespace Cq
end Cq

open Cq

end Go.Vm
namespace Go.Vm
open Ieee Cq
set_option linter.unusedVariables false
set_option linter.unusedSimpArgs false

theorem is_fun {w : Nat} {x y : Rat} (h : Is w x) (g : Is w y) : x = y := by
  obtain ⟨_, s, m, i, h1, rfl⟩ := h
  obtain ⟨_, t, n, j, h2, rfl⟩ := g
  rw [h1] at h2
  cases h2
  rfl

end Go.Vm
namespace Go.Vm
open Ieee
set_option linter.unusedVariables false
set_option linter.unusedSimpArgs false

/-! ### Roots, Joukowski's map, the way back -/
def sInf3 (g0 gp gm : KFB) : Sum := fun R args k => match args with
  | [.float .f64 a, .int .i64 s] => bif s == 0 then g0 R a fun t => forceB t fun t => k (.bool t) else bif s == 1 then gp R a fun t => forceB t fun t => k (.bool t) else
      bif s == -1 then gm R a fun t => forceB t fun t => k (.bool t) else none
  | _ => none
def isInfPK : KFB := fun R a k => forceB (gtF a 9218868437227405311) fun t => k t
def isInfMK : KFB := fun R a k => forceN (Op.negFloat .f64 a) fun x => forceB (gtF x 9218868437227405311) fun t => k t
abbrev KCFC := ∀ R : Type, Nat → Nat → Nat → (Nat → Nat → Option R) → Option R
def sCFC (g : KCFC) : Sum := fun R args k => match args with
  | [.complex .f64 a b, .float .f64 c] => g R a b c fun x y => k (.complex .f64 x y)
  | _ => none
def sclK : KCFC := fun R a b c k => bindF (fbF .mul a c) fun x => bindF (fbF .mul b c) fun y => k x y

def zErrL {R : Type} (L : List Int) (k : Value → Option R) (e : Int) : Option R := errIn L e fun e => k (.tuple ⟨[.complex .f64 0 0, .int .i64 e]⟩)
end Go.Vm
namespace Go.Vm
open Ieee Cq
set_option linter.unusedVariables false
set_option linter.unusedSimpArgs false

theorem is0 : Is 0 0 := ⟨by decide, false, 0, -1074, by decide, dv_zero _ _⟩
theorem absK_ok {x : Nat} {R : Type} (k : Nat → Option R) : absK R x k = k (absW x) := rfl
theorem isInfPK_no {a : Nat} {x : Rat} (h : Is a x) {R : Type} (k : Bool → Option R) : isInfPK R a k = k false := by
  show forceB (gtF a 9218868437227405311) (fun t => k t) = k false
  rw [forceB_eq, gtF_is h is_max]
  have := abs_le_max h
  have := abs_le_self x
  have : ¬ (((2 ^ 53 - 1 : Nat) : Rat) * (2 : Rat) ^ (971 : Int) < x) := by grind
  simp only [this, decide_false]
end Go.Vm
namespace Go.Vm
open Ieee
set_option linter.unusedVariables false
set_option linter.unusedSimpArgs false

/-! ### Angles always come -/
theorem core_all : coreList.all (magB 1) = true := by kernel_rfl
theorem odd_all : oddList.all (magB 1) = true := by kernel_rfl
end Go.Vm
namespace Go.Vm
set_option linter.unusedVariables false

/-! ### Elements -/
def el (kind : Int) (a1 a2 s1 s2 p : Nat) : Value := .agg ⟨[.int .u8 kind, .complex .f64 a1 a2, .complex .f64 s1 s2, .float .f64 p]⟩
abbrev KEI := ∀ R : Type, Int → Nat → Nat → Nat → Nat → Nat → (Int → Option R) → Option R
def sEI (g : KEI) : Sum := fun R args k => match args with
  | [.agg ⟨[.int .u8 kind, .complex .f64 a1 a2, .complex .f64 s1 s2, .float .f64 p]⟩] => g R kind a1 a2 s1 s2 p fun e => k (.int .i64 e)
  | _ => none

/-- Check -/
def checkB (re : KCB) (wi : KFFB) (no : KCB) (wh : KFB) : KEI := fun R kind a1 a2 s1 s2 p k =>
  forceB (decide (kind < 1)) fun t => match t with
  | true => k 150
  | false => forceB (decide (kind > 4)) fun t => match t with
    | true => k 150
    | false => re R a1 a2 fun t => forceB t fun t => match t with
      | false => k 5
      | true => re R s1 s2 fun t => forceB t fun t => match t with
        | false => k 5
        | true => wi R p 4787326403894837248 fun t => forceB t fun t => match t with
          | false => k 5
          | true => forceB (kind == 1) fun t => match t with
            | true => no R a1 a2 fun t => forceB t fun t => match t with
              | true => forceB (eqF p 0) fun t => match t with | true => k 0 | false => k 150
              | false => k 150
            | false => forceB (kind == 2) fun t => match t with
              | true => forceB (eqF p 0) fun t => match t with | true => k 0 | false => k 150
              | false => forceB (kind == 3) fun t => match t with
                | true => wh R p fun t => forceB t fun t => match t with
                  | true => forceB (geF p 4607182418800017408) fun t => match t with
                    | true => forceB (leF p 4620693217682128896) fun t => match t with | true => k 0 | false => k 150
                    | false => k 150
                  | false => k 150
                | false => forceB (kind == 4) fun t => match t with
                  | true => forceB (geF p 4598175219545276416) fun t => match t with
                    | true => forceB (leF p 4616189618054758400) fun t => match t with | true => k 0 | false => k 150
                    | false => k 150
                  | false => k 150

/-- a value, if it is finite -/
def toldE {R : Type} (fin : KCB) (er : Int → Option R) (k : Nat → Nat → Option R) (x y : Nat) : Option R :=
  fin R x y fun t => forceB t fun t => match t with | true => k x y | false => er 6

/-- Speed, of a stream -/
def spS (chk : KEI) (re no fin : KCB) (sub : KCCC) : ∀ R : Type, Nat → Nat → Nat → Nat → Nat → Nat → (Int → Option R) → (Nat → Nat → Option R) → Option R := fun R a1 a2 s1 s2 z1 z2 er k =>
  chk R 1 a1 a2 s1 s2 0 fun e => match decide (e = 0) with
    | false => er e
    | true => re R z1 z2 fun t => forceB t fun t => match t with
      | false => er 5
      | true => sub R z1 z2 a1 a2 fun d1 d2 => no R d1 d2 fun t => forceB t fun t => match t with
        | true => toldE fin er k s1 s2
        | false => toldE fin er k s1 s2
/-- of a source -/
def spO (chk : KEI) (re no fin : KCB) (sub div : KCCC) (scl : KCFC) : ∀ R : Type, Nat → Nat → Nat → Nat → Nat → Nat → (Int → Option R) → (Nat → Nat → Option R) → Option R := fun R a1 a2 s1 s2 z1 z2 er k =>
  chk R 2 a1 a2 s1 s2 0 fun e => match decide (e = 0) with
    | false => er e
    | true => re R z1 z2 fun t => forceB t fun t => match t with
      | false => er 5
      | true => scl R s1 s2 4594902181429758083 fun c1 c2 => sub R z1 z2 a1 a2 fun d1 d2 => no R d1 d2 fun t => forceB t fun t => match t with
        | true => er 6
        | false => div R c1 c2 d1 d2 (toldE fin er k)
/-- of a doublet -/
def spD (chk : KEI) (re no fin : KCB) (sub div mul : KCCC) (scl : KCFC) : ∀ R : Type, Nat → Nat → Nat → Nat → Nat → Nat → (Int → Option R) → (Nat → Nat → Option R) → Option R := fun R a1 a2 s1 s2 z1 z2 er k =>
  chk R 3 a1 a2 s1 s2 4607182418800017408 fun e => match decide (e = 0) with
    | false => er e
    | true => re R z1 z2 fun t => forceB t fun t => match t with
      | false => er 5
      | true => sub R z1 z2 a1 a2 fun d1 d2 => no R d1 d2 fun t => forceB t fun t => match t with
        | true => er 6
        | false => scl R s1 s2 13830554455654793216 fun t1 t2 => mul R d1 d2 d1 d2 fun q1 q2 => div R t1 t2 q1 q2 (toldE fin er k)

def vErr {R : Type} (k : Value → Option R) (e : Int) : Option R := k (.tuple ⟨[.complex .f64 0 0, .int .i64 e]⟩)
def sSp (f1 f2 f3 : ∀ R : Type, Nat → Nat → Nat → Nat → Nat → Nat → (Int → Option R) → (Nat → Nat → Option R) → Option R) : Sum := fun R args k => match args with
  | [.agg ⟨[.int .u8 kind, .complex .f64 a1 a2, .complex .f64 s1 s2, .float .f64 p]⟩, .complex .f64 z1 z2] =>
    bif kind == 1 && Nat.beq p 0 then f1 R a1 a2 s1 s2 z1 z2 (vErr k) (zOk k)
    else bif kind == 2 && Nat.beq p 0 then f2 R a1 a2 s1 s2 z1 z2 (vErr k) (zOk k)
    else bif kind == 3 && Nat.beq p 4607182418800017408 then f3 R a1 a2 s1 s2 z1 z2 (vErr k) (zOk k)
    else none
  | _ => none

/-- whole, of 1 and of nought -/
def sWh1 : Sum := fun R args k => match args with
  | [.float .f64 p] => bif Nat.beq p 4607182418800017408 then k (.bool true) else none
  | _ => none
def wh1 : KFB := fun R p k => bif Nat.beq p 4607182418800017408 then k true else none
/-- Whole, of the power 2 -/
def sW2 (mul : KCCC) : Sum := fun R args k => match args with
  | [.complex .f64 a b, .int .i64 n] => bif n == 2 then mul R a b a b fun x y => k (.complex .f64 x y) else none
  | _ => none

/-! ### Sines and cosines -/
abbrev KFF2 := ∀ R : Type, Nat → (Nat → Nat → Option R) → Option R
def sFF2 (g : KFF2) : Sum := fun R args k => match args with
  | [.float .f64 y] => g R y fun s c => k (.tuple ⟨[.float .f64 s, .float .f64 c]⟩)
  | _ => none
def stepsR {R : Type} (z : Nat) : List (Nat × Nat) → Nat → Nat → (Nat → Nat → Option R) → Option R
  | [], s, c, k => k s c
  | (a, b) :: r, s, c, k => bindF (fbF .quo z a) fun x => bindF (fbF .mul x s) fun x => bindF (fbF .sub 4607182418800017408 x) fun s =>
      bindF (fbF .quo z b) fun x => bindF (fbF .mul x c) fun x => bindF (fbF .sub 4607182418800017408 x) fun c => stepsR z r s c k
def stepsL : List (Nat × Nat) := [(4644724143818801152, 4644090825121202176), (4643492690795692032, 4642648265865560064), (4641592734702895104, 4640607572284407808), (4639692778610098176, 4638848353679966208), (4637440978796412928, 4636033603912859648), (4634766966517661696, 4633078116657397760), (4631107791820423168, 4629137466983448576), (4626322717216342016, 4622945017495814144), (4618441417868443648, 4611686018427387904)]
def stepsK : KFF2 := fun R y k => bindF (fbF .mul y y) fun z => stepsR z stepsL 4607182418800017408 4607182418800017408 fun s c => bindF (fbF .mul y s) fun s => k s c

/-! ### Functions without a body -/
def xFrom : Sum := fun R args k => match args with
  | [.int .u64 n] => forceN n.toNat fun x => k (.float .f64 x)
  | _ => none
def xBits : Sum := fun R args k => match args with
  | [.float .f64 b] => fiReal R (b : Int) fun n => k (.int .u64 n)
  | _ => none
def xWhole (way : Ieee.Toward) : Sum := fun R args k => match args with
  | [.float .f64 x] => match Ieee.double.read x with
    | .nan _ _ => none
    | d => forceN (Ieee.double.write (d.integral way)) fun y => k (.float .f64 y)
  | _ => none
end Go.Vm
namespace Go.Vm
set_option linter.unusedVariables false

/-! ### What logarithms and angles compute -/
def logK : KFF := logB fiReal isInfPK frexpK oddK
def signK : KFB := signB fiReal
def minusK : KFB := minusB signK
def signedK : KFFF := signedB minusK absK
def angleK : KFFF := angleB absK isInfPK coreK minusK signedK
def powLogK : KCC := powLogB lengthK logK angleK
end Go.Vm
namespace Go.Vm
open Ieee
set_option linter.unusedVariables false
set_option linter.unusedSimpArgs false

/-! ### Words of numbers that are not small are the only ones -/
theorem dv_sign {s : Bool} {m : Nat} {i : Int} (h : 0 < dv s m i) : s = false := by
  cases s with
  | false => rfl
  | true =>
    have h1 : dv true m i ≤ 0 := by
      unfold dv sg
      have := Rat.mul_nonneg (show (0 : Rat) ≤ (m : Rat) by exact_mod_cast Nat.zero_le m) (Rat.le_of_lt (p2_pos i))
      simp only [if_true]
      grind
    grind
/-! ### Sums that come to nought -/
end Go.Vm
namespace Go.Vm
open Ieee
set_option linter.unusedVariables false
set_option linter.unusedSimpArgs false

/-! ### Whole powers always come, and are not nought -/
theorem is_oneI : Is 4607182418800017408 ((1 : Int) : Rat) := by
  have := ofInt_is (n := 1) (by decide)
  rw [show floatOfInt .f64 1 = 4607182418800017408 by decide] at this
  exact this
end Go.Vm
