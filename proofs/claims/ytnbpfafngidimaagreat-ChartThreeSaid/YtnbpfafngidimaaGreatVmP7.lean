/- The quotient of complex numbers in fractions; no conditions. -/
import Derived.Test.YtnbpfafngidimaaGreatVmP6
namespace Go.Vm
open Ieee
set_option linter.unusedVariables false
set_option linter.unusedSimpArgs false

theorem abs_mul_le {a b A B : Rat} (h1 : a.abs ≤ A) (h2 : b.abs ≤ B) : (a * b).abs ≤ A * B := by
  rw [abs_mul]
  have h3 := Rat.mul_le_mul_of_nonneg_right h1 (abs_nonneg b)
  have h4 := Rat.mul_le_mul_of_nonneg_left h2 (show 0 ≤ A by have := abs_nonneg a; grind)
  grind

theorem e51_le : (2 : Rat) ^ (-51 : Int) ≤ 1 / 1000 := by
  have h6 := p2_le (show (-51 : Int) ≤ -10 by decide)
  have h7 : (2 : Rat) ^ (-10 : Int) * (2 : Rat) ^ (10 : Int) = 1 := by rw [← p2_add, show (-10 + 10 : Int) = 0 by decide, Rat.zpow_zero]
  have h8 : (2 : Rat) ^ (10 : Int) = 1024 := by rw [show (10 : Int) = ((10 : Nat) : Int) by rfl, p2_nat]; rfl
  rw [h8] at h7
  grind

/-- the unit of roundings -/
def eps : Rat := (2 : Rat) ^ (-51 : Int)
theorem eps_pos : 0 < eps := p2_pos _
theorem eps_le : eps ≤ 1 / 1000 := e51_le

theorem Rnd.le {x z B : Rat} (h : Rnd x z) (hx : x.abs ≤ B) (hB : (2 : Rat) ^ (-1000 : Int) ≤ B) : (z - x).abs ≤ eps * B := by
  have h1 := p2_le (show (-53 : Int) ≤ -51 by decide)
  have h2 := Rat.mul_le_mul_of_nonneg_left h1 (abs_nonneg x)
  have h3 := Rat.mul_le_mul_of_nonneg_right hx (Rat.le_of_lt eps_pos)
  have h4 := Rat.mul_le_mul_of_nonneg_right hB (Rat.le_of_lt eps_pos)
  have h5 : (2 : Rat) ^ (-1075 : Int) ≤ (2 : Rat) ^ (-1000 : Int) * eps := by
    unfold eps; rw [← p2_add]; exact p2_le (by decide)
  unfold eps at *
  rcases h.near with g | g <;> grind

theorem Rnd2.le {x z B : Rat} (h : Rnd2 x z) (hx : x.abs ≤ B) (hB : (2 : Rat) ^ (-1000 : Int) ≤ B) : (z - x).abs ≤ eps * B := by
  have h1 := p2_le (show (-52 : Int) ≤ -51 by decide)
  have h2 := Rat.mul_le_mul_of_nonneg_left h1 (abs_nonneg x)
  have h3 := Rat.mul_le_mul_of_nonneg_right hx (Rat.le_of_lt eps_pos)
  have h4 := Rat.mul_le_mul_of_nonneg_right hB (Rat.le_of_lt eps_pos)
  have h5 : (2 : Rat) ^ (-1074 : Int) ≤ (2 : Rat) ^ (-1000 : Int) * eps := by
    unfold eps; rw [← p2_add]; exact p2_le (by decide)
  unfold eps at *
  rcases h.near with g | g <;> grind

theorem abs_div_le {a b B : Rat} (hb : b ≠ 0) (h : a.abs ≤ B * b.abs) : (a / b).abs ≤ B := by
  have h1 : (a / b * b) = a := Rat.div_mul_cancel hb
  have h2 : (a / b).abs * b.abs = a.abs := by rw [← abs_mul, h1]
  have hb0 : 0 < b.abs := by
    rcases (Rat.le_total : 0 ≤ b ∨ b ≤ 0) with g | g
    · rw [Rat.abs_of_nonneg g]; grind
    · rw [Rat.abs_of_nonpos g]; grind
  refine Rat.not_lt.1 fun hlt => ?_
  have := Rat.mul_lt_mul_of_pos_right hlt hb0
  grind

/-- SMITH'S QUOTIENT, one part, in fractions. -/
theorem smith {p q r s u v W M K m1 T m2 n U : Rat} (hr : r ≠ 0) (hW : r.abs = W) (hs : s.abs ≤ W) (hM : 0 ≤ M) (hu : u.abs ≤ M) (hv : v.abs ≤ M)
    (hp : p = u * r - v * s) (hq : q = u * s + v * r)
    (hK : (K - s / r).abs ≤ eps) (h1 : (m1 - s * K).abs ≤ eps * (2 * W)) (hT : (T - (r + m1)).abs ≤ eps * (3 * W))
    (h2 : (m2 - q * K).abs ≤ eps * (3 * (M * W))) (hn : (n - (p + m2)).abs ≤ eps * (5 * (M * W))) (hT0 : T ≠ 0) (hU : (U - n / T).abs ≤ eps * (2 * M)) :
    (U - u).abs ≤ 32 * (M * eps) ∧ W * (9 / 10) ≤ T.abs ∧ n.abs ≤ 2 * M * T.abs := by
  have he := eps_pos
  have he2 := eps_le
  have hW0 : 0 < W := by
    rw [← hW]
    rcases (Rat.le_total : 0 ≤ r ∨ r ≤ 0) with g | g
    · rw [Rat.abs_of_nonneg g]; grind
    · rw [Rat.abs_of_nonpos g]; grind
  -- the true ratio
  have hk : (s / r).abs ≤ 1 := abs_div_le hr (by rw [hW]; grind)
  have hkr : s / r * r = s := Rat.div_mul_cancel hr
  generalize s / r = k at *
  have t0 : W ≤ (r + s * k).abs := by
    -- r + s k = r (1 + k k)
    have e : r + s * k = r * (1 + k * k) := by rw [← hkr]; grind
    rw [e, abs_mul, hW, Rat.abs_of_nonneg (by have := sq_nonneg k; grind)]
    have := Rat.mul_nonneg (Rat.le_of_lt hW0) (sq_nonneg k)
    grind
  have a1 : (s * K - s * k).abs ≤ W * eps := by
    rw [show s * K - s * k = s * (K - k) by grind]; exact abs_mul_le hs hK
  have a2 : (T - (r + s * k)).abs ≤ 6 * (W * eps) := by
    have g1 := abs_add_le (T - (r + m1)) (m1 - s * K)
    have g2 := abs_add_le (T - (r + m1) + (m1 - s * K)) (s * K - s * k)
    rw [show T - (r + m1) + (m1 - s * K) + (s * K - s * k) = T - (r + s * k) by grind] at g2
    grind
  have qa : q.abs ≤ 2 * (M * W) := by
    have g1 := abs_mul_le hu hs
    have g2 := abs_mul_le hv (show r.abs ≤ W by grind)
    have g3 := abs_add_le (u * s) (v * r)
    rw [hq]; grind
  have hMW := Rat.mul_nonneg hM (Rat.le_of_lt hW0)
  have hMWe := Rat.mul_nonneg hMW (Rat.le_of_lt he)
  have a3 : (q * K - q * k).abs ≤ 2 * (M * W) * eps := by
    rw [show q * K - q * k = q * (K - k) by grind]; exact abs_mul_le qa hK
  have a4 : (n - (p + q * k)).abs ≤ 10 * (M * W * eps) := by
    have g1 := abs_add_le (n - (p + m2)) (m2 - q * K)
    have g2 := abs_add_le (n - (p + m2) + (m2 - q * K)) (q * K - q * k)
    rw [show n - (p + m2) + (m2 - q * K) + (q * K - q * k) = n - (p + q * k) by grind] at g2
    grind
  have a5 : p + q * k = u * (r + s * k) := by
    rw [hp, hq]
    have : v * r * k = v * s := by rw [← hkr]; grind
    grind
  have a6 : (u * (T - (r + s * k))).abs ≤ M * (6 * (W * eps)) := abs_mul_le hu a2
  have a7 : (n - u * T).abs ≤ 16 * (M * W * eps) := by
    have g1 := abs_add_le (n - (p + q * k)) (-(u * (T - (r + s * k))))
    rw [abs_neg] at g1
    rw [show n - (p + q * k) + -(u * (T - (r + s * k))) = n - u * T by rw [a5]; grind] at g1
    grind
  have hWe := Rat.mul_le_mul_of_nonneg_left he2 (Rat.le_of_lt hW0)
  have a8 : W * (9 / 10) ≤ T.abs := by
    have g1 := abs_add_le ((r + s * k) - T) T
    rw [show r + s * k - T + T = r + s * k by grind, abs_sub_comm] at g1
    grind
  have hMe := Rat.mul_nonneg hM (Rat.le_of_lt he)
  have a9 : (n / T - u).abs ≤ 18 * (M * eps) := by
    have e : n / T - u = (n - u * T) / T := by
      have g1 : n / T * T = n := Rat.div_mul_cancel hT0
      have g2 : (n - u * T) / T * T = n - u * T := Rat.div_mul_cancel hT0
      have g3 : (n / T - u - (n - u * T) / T) * T = 0 := by grind
      rcases Rat.mul_eq_zero.1 g3 with h | h
      · grind
      · exact absurd h hT0
    rw [e]
    refine abs_div_le hT0 ?_
    have := Rat.mul_le_mul_of_nonneg_left a8 hMe
    grind
  refine ⟨?_, a8, ?_⟩
  · have g1 := abs_add_le (U - n / T) (n / T - u)
    rw [show U - n / T + (n / T - u) = U - u by grind] at g1
    grind
  · have g1 := abs_add_le (n - u * T) (u * T)
    rw [show n - u * T + u * T = n by grind] at g1
    have g2 := abs_mul_le hu (show T.abs ≤ T.abs from Rat.le_refl)
    have g3 := Rat.mul_le_mul_of_nonneg_left a8 hM
    have g4 := Rat.mul_le_mul_of_nonneg_left he2 hMW
    grind
end Go.Vm
