/- The quotient of complex numbers in fractions; no conditions. The quotient of complex numbers on words, how near it comes; no conditions. -/
import Derived.Test.YtnbpfafngidimaaGreatVmP6
namespace Go.Vm
open Ieee
set_option linter.unusedVariables false
set_option linter.unusedSimpArgs false

theorem abs_mul_le {a b A B : Rat} (h1 : a.abs ≤ A) (h2 : b.abs ≤ B) : (a * b).abs ≤ A * B := by
  rw [abs_mul]
  have h3 := Rat.mul_le_mul_of_nonneg_right h1 (abs_nonneg b)
  have h4 := Rat.mul_le_mul_of_nonneg_left h2 (show 0 ≤ A by have := abs_nonneg a; grind)
  grind

theorem e51_le : (2 : Rat) ^ (-51 : Int) ≤ 1 / 1000 := by
  have h6 := p2_le (show (-51 : Int) ≤ -10 by decide)
  have h7 : (2 : Rat) ^ (-10 : Int) * (2 : Rat) ^ (10 : Int) = 1 := by rw [← p2_add, show (-10 + 10 : Int) = 0 by decide, Rat.zpow_zero]
  have h8 : (2 : Rat) ^ (10 : Int) = 1024 := by rw [show (10 : Int) = ((10 : Nat) : Int) by rfl, p2_nat]; rfl
  rw [h8] at h7
  grind

/-- the unit of roundings -/
def eps : Rat := (2 : Rat) ^ (-51 : Int)
theorem eps_pos : 0 < eps := p2_pos _
theorem eps_le : eps ≤ 1 / 1000 := e51_le

theorem Rnd.le {x z B : Rat} (h : Rnd x z) (hx : x.abs ≤ B) (hB : (2 : Rat) ^ (-1000 : Int) ≤ B) : (z - x).abs ≤ eps * B := by
  have h1 := p2_le (show (-53 : Int) ≤ -51 by decide)
  have h2 := Rat.mul_le_mul_of_nonneg_left h1 (abs_nonneg x)
  have h3 := Rat.mul_le_mul_of_nonneg_right hx (Rat.le_of_lt eps_pos)
  have h4 := Rat.mul_le_mul_of_nonneg_right hB (Rat.le_of_lt eps_pos)
  have h5 : (2 : Rat) ^ (-1075 : Int) ≤ (2 : Rat) ^ (-1000 : Int) * eps := by
    unfold eps; rw [← p2_add]; exact p2_le (by decide)
  unfold eps at *
  rcases h.near with g | g <;> grind

theorem Rnd2.le {x z B : Rat} (h : Rnd2 x z) (hx : x.abs ≤ B) (hB : (2 : Rat) ^ (-1000 : Int) ≤ B) : (z - x).abs ≤ eps * B := by
  have h1 := p2_le (show (-52 : Int) ≤ -51 by decide)
  have h2 := Rat.mul_le_mul_of_nonneg_left h1 (abs_nonneg x)
  have h3 := Rat.mul_le_mul_of_nonneg_right hx (Rat.le_of_lt eps_pos)
  have h4 := Rat.mul_le_mul_of_nonneg_right hB (Rat.le_of_lt eps_pos)
  have h5 : (2 : Rat) ^ (-1074 : Int) ≤ (2 : Rat) ^ (-1000 : Int) * eps := by
    unfold eps; rw [← p2_add]; exact p2_le (by decide)
  unfold eps at *
  rcases h.near with g | g <;> grind

theorem abs_div_le {a b B : Rat} (hb : b ≠ 0) (h : a.abs ≤ B * b.abs) : (a / b).abs ≤ B := by
  have h1 : (a / b * b) = a := Rat.div_mul_cancel hb
  have h2 : (a / b).abs * b.abs = a.abs := by rw [← abs_mul, h1]
  have hb0 : 0 < b.abs := by
    rcases (Rat.le_total : 0 ≤ b ∨ b ≤ 0) with g | g
    · rw [Rat.abs_of_nonneg g]; grind
    · rw [Rat.abs_of_nonpos g]; grind
  refine Rat.not_lt.1 fun hlt => ?_
  have := Rat.mul_lt_mul_of_pos_right hlt hb0
  grind

/-- SMITH'S QUOTIENT, one part, in fractions. -/
theorem smith {p q r s u v W M K m1 T m2 n U : Rat} (hr : r ≠ 0) (hW : r.abs = W) (hs : s.abs ≤ W) (hM : 0 ≤ M) (hu : u.abs ≤ M) (hv : v.abs ≤ M)
    (hp : p = u * r - v * s) (hq : q = u * s + v * r)
    (hK : (K - s / r).abs ≤ eps) (h1 : (m1 - s * K).abs ≤ eps * (2 * W)) (hT : (T - (r + m1)).abs ≤ eps * (3 * W))
    (h2 : (m2 - q * K).abs ≤ eps * (3 * (M * W))) (hn : (n - (p + m2)).abs ≤ eps * (5 * (M * W))) (hT0 : T ≠ 0) (hU : (U - n / T).abs ≤ eps * (2 * M)) :
    (U - u).abs ≤ 32 * (M * eps) ∧ W * (9 / 10) ≤ T.abs ∧ n.abs ≤ 2 * M * T.abs := by
  have he := eps_pos
  have he2 := eps_le
  have hW0 : 0 < W := by
    rw [← hW]
    rcases (Rat.le_total : 0 ≤ r ∨ r ≤ 0) with g | g
    · rw [Rat.abs_of_nonneg g]; grind
    · rw [Rat.abs_of_nonpos g]; grind
  -- the true ratio
  have hk : (s / r).abs ≤ 1 := abs_div_le hr (by rw [hW]; grind)
  have hkr : s / r * r = s := Rat.div_mul_cancel hr
  generalize s / r = k at *
  have t0 : W ≤ (r + s * k).abs := by
    -- r + s k = r (1 + k k)
    have e : r + s * k = r * (1 + k * k) := by rw [← hkr]; grind
    rw [e, abs_mul, hW, Rat.abs_of_nonneg (by have := sq_nonneg k; grind)]
    have := Rat.mul_nonneg (Rat.le_of_lt hW0) (sq_nonneg k)
    grind
  have a1 : (s * K - s * k).abs ≤ W * eps := by
    rw [show s * K - s * k = s * (K - k) by grind]; exact abs_mul_le hs hK
  have a2 : (T - (r + s * k)).abs ≤ 6 * (W * eps) := by
    have g1 := abs_add_le (T - (r + m1)) (m1 - s * K)
    have g2 := abs_add_le (T - (r + m1) + (m1 - s * K)) (s * K - s * k)
    rw [show T - (r + m1) + (m1 - s * K) + (s * K - s * k) = T - (r + s * k) by grind] at g2
    grind
  have qa : q.abs ≤ 2 * (M * W) := by
    have g1 := abs_mul_le hu hs
    have g2 := abs_mul_le hv (show r.abs ≤ W by grind)
    have g3 := abs_add_le (u * s) (v * r)
    rw [hq]; grind
  have hMW := Rat.mul_nonneg hM (Rat.le_of_lt hW0)
  have hMWe := Rat.mul_nonneg hMW (Rat.le_of_lt he)
  have a3 : (q * K - q * k).abs ≤ 2 * (M * W) * eps := by
    rw [show q * K - q * k = q * (K - k) by grind]; exact abs_mul_le qa hK
  have a4 : (n - (p + q * k)).abs ≤ 10 * (M * W * eps) := by
    have g1 := abs_add_le (n - (p + m2)) (m2 - q * K)
    have g2 := abs_add_le (n - (p + m2) + (m2 - q * K)) (q * K - q * k)
    rw [show n - (p + m2) + (m2 - q * K) + (q * K - q * k) = n - (p + q * k) by grind] at g2
    grind
  have a5 : p + q * k = u * (r + s * k) := by
    rw [hp, hq]
    have : v * r * k = v * s := by rw [← hkr]; grind
    grind
  have a6 : (u * (T - (r + s * k))).abs ≤ M * (6 * (W * eps)) := abs_mul_le hu a2
  have a7 : (n - u * T).abs ≤ 16 * (M * W * eps) := by
    have g1 := abs_add_le (n - (p + q * k)) (-(u * (T - (r + s * k))))
    rw [abs_neg] at g1
    rw [show n - (p + q * k) + -(u * (T - (r + s * k))) = n - u * T by rw [a5]; grind] at g1
    grind
  have hWe := Rat.mul_le_mul_of_nonneg_left he2 (Rat.le_of_lt hW0)
  have a8 : W * (9 / 10) ≤ T.abs := by
    have g1 := abs_add_le ((r + s * k) - T) T
    rw [show r + s * k - T + T = r + s * k by grind, abs_sub_comm] at g1
    grind
  have hMe := Rat.mul_nonneg hM (Rat.le_of_lt he)
  have a9 : (n / T - u).abs ≤ 18 * (M * eps) := by
    have e : n / T - u = (n - u * T) / T := by
      have g1 : n / T * T = n := Rat.div_mul_cancel hT0
      have g2 : (n - u * T) / T * T = n - u * T := Rat.div_mul_cancel hT0
      have g3 : (n / T - u - (n - u * T) / T) * T = 0 := by grind
      rcases Rat.mul_eq_zero.1 g3 with h | h
      · grind
      · exact absurd h hT0
    rw [e]
    refine abs_div_le hT0 ?_
    have := Rat.mul_le_mul_of_nonneg_left a8 hMe
    grind
  refine ⟨?_, a8, ?_⟩
  · have g1 := abs_add_le (U - n / T) (n / T - u)
    rw [show U - n / T + (n / T - u) = U - u by grind] at g1
    grind
  · have g1 := abs_add_le (n - u * T) (u * T)
    rw [show n - u * T + u * T = n by grind] at g1
    have g2 := abs_mul_le hu (show T.abs ≤ T.abs from Rat.le_refl)
    have g3 := Rat.mul_le_mul_of_nonneg_left a8 hM
    have g4 := Rat.mul_le_mul_of_nonneg_left he2 hMW
    grind
end Go.Vm
namespace Go.Vm
open Ieee
set_option linter.unusedVariables false
set_option linter.unusedSimpArgs false

theorem smith_T {r s W K m1 T : Rat} (hr : r ≠ 0) (hW : r.abs = W) (hs : s.abs ≤ W)
    (hK : (K - s / r).abs ≤ eps) (h1 : (m1 - s * K).abs ≤ eps * (2 * W)) (hT : (T - (r + m1)).abs ≤ eps * (3 * W)) : W * (9 / 10) ≤ T.abs ∧ T ≠ 0 := by
  have he := eps_pos
  have he2 := eps_le
  have hW0 : 0 < W := by
    rw [← hW]
    rcases (Rat.le_total : 0 ≤ r ∨ r ≤ 0) with g | g
    · rw [Rat.abs_of_nonneg g]; grind
    · rw [Rat.abs_of_nonpos g]; grind
  have hkr : s / r * r = s := Rat.div_mul_cancel hr
  generalize s / r = k at *
  have t0 : W ≤ (r + s * k).abs := by
    have e : r + s * k = r * (1 + k * k) := by rw [← hkr]; grind
    rw [e, abs_mul, hW, Rat.abs_of_nonneg (by have := sq_nonneg k; grind)]
    have := Rat.mul_nonneg (Rat.le_of_lt hW0) (sq_nonneg k)
    grind
  have a1 : (s * K - s * k).abs ≤ W * eps := by
    rw [show s * K - s * k = s * (K - k) by grind]; exact abs_mul_le hs hK
  have a2 : (T - (r + s * k)).abs ≤ 6 * (W * eps) := by
    have g1 := abs_add_le (T - (r + m1)) (m1 - s * K)
    have g2 := abs_add_le (T - (r + m1) + (m1 - s * K)) (s * K - s * k)
    rw [show T - (r + m1) + (m1 - s * K) + (s * K - s * k) = T - (r + s * k) by grind] at g2
    grind
  have hWe := Rat.mul_le_mul_of_nonneg_left he2 (Rat.le_of_lt hW0)
  have a8 : W * (9 / 10) ≤ T.abs := by
    have g1 := abs_add_le ((r + s * k) - T) T
    rw [show r + s * k - T + T = r + s * k by grind, abs_sub_comm] at g1
    grind
  refine ⟨a8, fun h => ?_⟩
  rw [h, abs_zero] at a8
  grind

theorem abs_near {x y e : Rat} (h : (x - y).abs ≤ e) : x.abs ≤ y.abs + e := by
  have := abs_add_le (x - y) y
  rw [show x - y + y = x by grind] at this
  grind

/-- the numerator, rounded, over the divisor, rounded -/
theorem smith_part {hb tb nb : Nat} {p q r s u v W M K m1 T m2 n : Rat} (hr : r ≠ 0) (hW : r.abs = W) (hs : s.abs ≤ W) (hu : u.abs ≤ M) (hv : v.abs ≤ M)
    (hp : p = u * r - v * s) (hq : q = u * s + v * r) (M1 : (2 : Rat) ^ (-300 : Int) ≤ M) (M2 : M ≤ (2 : Rat) ^ (300 : Int))
    (hK : (K - s / r).abs ≤ eps) (h1 : (m1 - s * K).abs ≤ eps * (2 * W)) (hT : (T - (r + m1)).abs ≤ eps * (3 * W))
    (h2 : (m2 - q * K).abs ≤ eps * (3 * (M * W))) (hn : (n - (p + m2)).abs ≤ eps * (5 * (M * W))) (it : Is tb T) (inn : Is nb n) :
    ∃ w U, floatBits .quo .f64 nb tb = some w ∧ Is w U ∧ (U - u).abs ≤ 32 * (M * eps) := by
  have hM0 : 0 < M := by have := p2_pos (-300); grind
  obtain ⟨_, hT0⟩ := smith_T hr hW hs hK h1 hT
  have z : (n / T - n / T).abs ≤ eps * (2 * M) := by
    rw [Rat.sub_self, abs_zero]
    exact Rat.mul_nonneg (Rat.le_of_lt eps_pos) (by grind)
  obtain ⟨_, b1, b2⟩ := smith hr hW hs (Rat.le_of_lt hM0) hu hv hp hq hK h1 hT h2 hn hT0 z
  have hq' : (n / T).abs ≤ 2 * M := abs_div_le hT0 b2
  obtain ⟨w, U, e1, i1, q1⟩ := div_is inn it hT0 (by
    have g1 := p2_le (show (301 : Int) ≤ 1021 by decide)
    have g2 := p2_half 301
    rw [show (301 - 1 : Int) = 300 by decide] at g2
    have g3 := p2_half 1022
    rw [show (1022 - 1 : Int) = 1021 by decide] at g3
    have := p2_pos 1021
    grind)
  have hB : (2 : Rat) ^ (-1000 : Int) ≤ 2 * M := by have := p2_le (show (-1000 : Int) ≤ -300 by decide); grind
  have := q1.le hq' hB
  exact ⟨w, U, e1, i1, (smith hr hW hs (Rat.le_of_lt hM0) hu hv hp hq hK h1 hT h2 hn hT0 this).1⟩

theorem divK_near {a b c d : Nat} {p q r s u v W M : Rat} (ip : Is a p) (iq : Is b q) (ir : Is c r) (is_ : Is d s)
    (hr : r.abs ≤ W) (hs : s.abs ≤ W) (hW : W = r.abs ∨ W = s.abs) (W1 : (2 : Rat) ^ (-300 : Int) ≤ W) (W2 : W ≤ (2 : Rat) ^ (300 : Int))
    (hu : u.abs ≤ M) (hv : v.abs ≤ M) (M1 : (2 : Rat) ^ (-300 : Int) ≤ M) (M2 : M ≤ (2 : Rat) ^ (300 : Int)) (hp : p = u * r - v * s) (hq : q = u * s + v * r) :
    ∃ w1 w2 U V, Is w1 U ∧ Is w2 V ∧ (U - u).abs ≤ 32 * (M * eps) ∧ (V - v).abs ≤ 32 * (M * eps) ∧ ∀ (R : Type) (k : Nat → Nat → Option R), divK R a b c d k = k w1 w2 := by
  have he := eps_pos
  have he2 := eps_le
  have hW0 : 0 < W := by have := p2_pos (-300); grind
  have hM0 : 0 < M := by have := p2_pos (-300); grind
  have hMW0 := Rat.mul_pos hM0 hW0
  have hMWlo : (2 : Rat) ^ (-600 : Int) ≤ M * W := by
    have g1 := Rat.mul_le_mul_of_nonneg_left W1 (Rat.le_of_lt hM0)
    have g2 := Rat.mul_le_mul_of_nonneg_right M1 (Rat.le_of_lt (p2_pos (-300)))
    rw [← p2_add, show (-300 + -300 : Int) = -600 by decide] at g2
    grind
  have hMWhi : M * W ≤ (2 : Rat) ^ (600 : Int) := by
    have g1 := Rat.mul_le_mul_of_nonneg_left W2 (Rat.le_of_lt hM0)
    have g2 := Rat.mul_le_mul_of_nonneg_right M2 (Rat.le_of_lt (p2_pos 300))
    rw [← p2_add, show (300 + 300 : Int) = 600 by decide] at g2
    grind
  have p600 := p2_le (show (-1000 : Int) ≤ -600 by decide)
  have p300 := p2_le (show (-1000 : Int) ≤ -300 by decide)
  have big : ∀ {x : Rat}, x.abs ≤ 10 * (2 : Rat) ^ (600 : Int) → x.abs < (2 : Rat) ^ (1023 : Int) := fun {x} h => by
    have g1 := p2_le (show (604 : Int) ≤ 1022 by decide)
    have g2 : (2 : Rat) ^ (604 : Int) = 16 * (2 : Rat) ^ (600 : Int) := by
      rw [show (604 : Int) = ((4 : Nat) : Int) + 600 by decide, p2_add, p2_nat]; rfl
    have g3 := p2_half 1023
    rw [show (1023 - 1 : Int) = 1022 by decide] at g3
    have := p2_pos 600
    have := p2_pos 1022
    grind
  have p300b : W ≤ (2 : Rat) ^ (600 : Int) := Rat.le_trans W2 (p2_le (by decide))
  have pa : p.abs ≤ 2 * (M * W) := by
    have g1 := abs_mul_le hu hr
    have g2 := abs_mul_le hv hs
    have g3 := abs_add_le (u * r) (-(v * s))
    rw [abs_neg, show u * r + -(v * s) = p by grind] at g3
    grind
  have qa : q.abs ≤ 2 * (M * W) := by
    have g1 := abs_mul_le hu hs
    have g2 := abs_mul_le hv hr
    have g3 := abs_add_le (u * s) (v * r)
    rw [← hq] at g3
    grind
  have hMWe := Rat.mul_le_mul_of_nonneg_left he2 (Rat.le_of_lt hMW0)
  have hWe := Rat.mul_le_mul_of_nonneg_left he2 (Rat.le_of_lt hW0)
  have small1 : (1 : Rat) < (2 : Rat) ^ (1022 : Int) := by
    have g1 := p2_le (show (1 : Int) ≤ 1022 by decide)
    rw [p2_one] at g1
    grind
  have hdef : ∀ (R : Type) (k : Nat → Nat → Option R), divK R a b c d k = forceB (geF (absW c) (absW d)) fun t => match t with
    | true => bindF (floatBits .quo .f64 d c) fun h => bindF (floatBits .mul .f64 d h) fun sh => bindF (floatBits .add .f64 c sh) fun t =>
        bindF (floatBits .mul .f64 b h) fun qh => bindF (floatBits .add .f64 a qh) fun n1 => bindF (floatBits .quo .f64 n1 t) fun re =>
        bindF (floatBits .mul .f64 a h) fun ph => bindF (floatBits .sub .f64 b ph) fun n2 => bindF (floatBits .quo .f64 n2 t) fun im => k re im
    | false => bindF (floatBits .quo .f64 c d) fun h => bindF (floatBits .mul .f64 c h) fun rh => bindF (floatBits .add .f64 rh d) fun t =>
        bindF (floatBits .mul .f64 a h) fun ph => bindF (floatBits .add .f64 ph b) fun n1 => bindF (floatBits .quo .f64 n1 t) fun re =>
        bindF (floatBits .mul .f64 b h) fun qh => bindF (floatBits .sub .f64 qh a) fun n2 => bindF (floatBits .quo .f64 n2 t) fun im => k re im := fun R k => rfl
  -- a product with the ratio
  have prod : ∀ {w h : Nat} {x K : Rat} {B : Rat}, Is w x → Is h K → K.abs ≤ 1001 / 1000 → x.abs ≤ B → (2 : Rat) ^ (-600 : Int) ≤ B → B ≤ 2 * (2 : Rat) ^ (600 : Int) →
      ∃ o m, floatBits .mul .f64 w h = some o ∧ Is o m ∧ (m - x * K).abs ≤ eps * (3 / 2 * B) ∧ m.abs ≤ 101 / 100 * B := fun {w h x K B} i1 i2 hK hx hB hB2 => by
    have g1 := abs_mul_le hx hK
    have hB0 : 0 < B := by have := p2_pos (-600); grind
    obtain ⟨o, m, e1, e2, e3⟩ := mul_is i1 i2 (big (by grind))
    have g2 := e3.le (B := 3 / 2 * B) (by grind) (by grind)
    have g3 := Rat.mul_le_mul_of_nonneg_left he2 (show (0 : Rat) ≤ 3 / 2 * B by grind)
    have g4 := abs_near g2
    exact ⟨o, m, e1, e2, g2, by grind⟩
  by_cases hc : s.abs ≤ r.abs
  · have hWr : W = r.abs := by rcases hW with h | h <;> grind
    have hr0 : r ≠ 0 := by rintro rfl; rw [abs_zero] at hWr; grind
    have hk1 : (s / r).abs ≤ 1 := abs_div_le hr0 (by grind)
    obtain ⟨h, K, e1, i1, q1⟩ := div_is is_ ir hr0 (by grind)
    have hK := q1.le hk1 (by have := p2_le (show (-1000 : Int) ≤ 0 by decide); rwa [Rat.zpow_zero] at this)
    rw [Rat.mul_one] at hK
    have hKa : K.abs ≤ 1001 / 1000 := by have := abs_near hK; grind
    obtain ⟨sh, m1, e2, i2, q2, b2⟩ := prod is_ i1 hKa hs (by have := p2_le (show (-600 : Int) ≤ -300 by decide); grind) (by have := p2_pos 600; grind)
    have hrm : (r + m1).abs ≤ 3 * W := by have := abs_add_le r m1; grind
    obtain ⟨t, T, e3, i3, q3⟩ := add_is ir i2 (big (by grind))
    have hT := q3.le hrm (by grind)
    obtain ⟨qh, m2, e4, i4, q4, b4⟩ := prod iq i1 hKa qa (by grind) (by grind)
    have hpm : (p + m2).abs ≤ 5 * (M * W) := by have := abs_add_le p m2; grind
    obtain ⟨n1, N1, e5, i5, q5⟩ := add_is ip i4 (big (by grind))
    have hn1 := q5.le hpm (by grind)
    have epW := Rat.mul_nonneg (Rat.le_of_lt he) (Rat.le_of_lt hW0)
    have epMW := Rat.mul_nonneg (Rat.le_of_lt he) (Rat.le_of_lt hMW0)
    obtain ⟨w1, U, e6, i6, g6⟩ := smith_part (hb := h) hr0 hWr.symm hs hu hv hp hq M1 M2 hK (by grind) hT (by grind) hn1 i3 i5
    obtain ⟨ph, m3, e7, i7, q7, b7⟩ := prod ip i1 hKa pa (by grind) (by grind)
    have hqm : (q - m3).abs ≤ 5 * (M * W) := by
      have := abs_add_le q (-m3)
      rw [abs_neg, show q + -m3 = q - m3 by grind] at this
      grind
    obtain ⟨n2, N2, e8, i8, q8⟩ := sub_is iq i7 (big (by grind))
    have hn2 := q8.le hqm (by grind)
    obtain ⟨w2, V, e9, i9, g9⟩ := smith_part (hb := h) (p := q) (q := -p) (u := v) (v := -u) (m2 := -m3) hr0 hWr.symm hs hv (by rw [abs_neg]; exact hu) (by rw [hq]; grind) (by rw [hp]; grind) M1 M2 hK (by grind) hT
      (by rw [show -m3 - -p * K = -(m3 - p * K) by grind, abs_neg]; grind) (by rw [show q + -m3 = q - m3 by grind]; exact hn2) i3 i8
    refine ⟨w1, w2, U, V, i6, i9, g6, g9, fun R k => ?_⟩
    rw [hdef, forceB_eq, geF_is (abs_is ir) (abs_is is_)]
    simp only [hc, decide_true]
    rw [bindF_eq e1, bindF_eq e2, bindF_eq e3, bindF_eq e4, bindF_eq e5, bindF_eq e6, bindF_eq e7, bindF_eq e8, bindF_eq e9]
  · have hWs : W = s.abs := by rcases hW with h | h <;> grind
    have hs0 : s ≠ 0 := by rintro rfl; rw [abs_zero] at hWs; grind
    have hk1 : (r / s).abs ≤ 1 := abs_div_le hs0 (by grind)
    obtain ⟨h, K, e1, i1, q1⟩ := div_is ir is_ hs0 (by grind)
    have hK := q1.le hk1 (by have := p2_le (show (-1000 : Int) ≤ 0 by decide); rwa [Rat.zpow_zero] at this)
    rw [Rat.mul_one] at hK
    have hKa : K.abs ≤ 1001 / 1000 := by have := abs_near hK; grind
    obtain ⟨rh, m1, e2, i2, q2, b2⟩ := prod ir i1 hKa hr (by have := p2_le (show (-600 : Int) ≤ -300 by decide); grind) (by have := p2_pos 600; grind)
    have hrm : (m1 + s).abs ≤ 3 * W := by have := abs_add_le m1 s; grind
    obtain ⟨t, T, e3, i3, q3⟩ := add_is i2 is_ (big (by grind))
    have hT := q3.le hrm (by grind)
    obtain ⟨ph, m2, e4, i4, q4, b4⟩ := prod ip i1 hKa pa (by grind) (by grind)
    have hpm : (m2 + q).abs ≤ 5 * (M * W) := by have := abs_add_le m2 q; grind
    obtain ⟨n1, N1, e5, i5, q5⟩ := add_is i4 iq (big (by grind))
    have hn1 := q5.le hpm (by grind)
    have epW := Rat.mul_nonneg (Rat.le_of_lt he) (Rat.le_of_lt hW0)
    have epMW := Rat.mul_nonneg (Rat.le_of_lt he) (Rat.le_of_lt hMW0)
    have hK' : (-K - -r / s).abs ≤ eps := by
      have : -K - -r / s = -(K - r / s) := by
        have g1 : -r / s * s = -r := Rat.div_mul_cancel hs0
        have g2 : r / s * s = r := Rat.div_mul_cancel hs0
        have g3 : (-r / s + r / s) * s = 0 := by grind
        rcases Rat.mul_eq_zero.1 g3 with h | h
        · grind
        · exact absurd h hs0
      rw [this, abs_neg]; exact hK
    have h1' : (m1 - -r * -K).abs ≤ eps * (2 * W) := by rw [show m1 - -r * -K = m1 - r * K by grind]; grind
    have hT' : (T - (s + m1)).abs ≤ eps * (3 * W) := by rw [show s + m1 = m1 + s by grind]; exact hT
    obtain ⟨w1, U, e6, i6, g6⟩ := smith_part (hb := h) (p := q) (q := -p) (r := s) (s := -r) (u := u) (v := v) (K := -K) hs0 hWs.symm (by rw [abs_neg]; exact hr) hu hv (by rw [hq]; grind) (by rw [hp]; grind) M1 M2 hK' h1' hT'
      (by rw [show m2 - -p * -K = m2 - p * K by grind]; grind) (by rw [show q + m2 = m2 + q by grind]; exact hn1) i3 i5
    obtain ⟨qh, m3, e7, i7, q7, b7⟩ := prod iq i1 hKa qa (by grind) (by grind)
    have hqm : (m3 - p).abs ≤ 5 * (M * W) := by
      have := abs_add_le m3 (-p)
      rw [abs_neg, show m3 + -p = m3 - p by grind] at this
      grind
    obtain ⟨n2, N2, e8, i8, q8⟩ := sub_is i7 ip (big (by grind))
    have hn2 := q8.le hqm (by grind)
    obtain ⟨w2, V, e9, i9, g9⟩ := smith_part (hb := h) (p := -p) (q := -q) (r := s) (s := -r) (u := v) (v := -u) (K := -K) (m2 := m3) hs0 hWs.symm (by rw [abs_neg]; exact hr) hv (by rw [abs_neg]; exact hu) (by rw [hp]; grind) (by rw [hq]; grind) M1 M2 hK' h1' hT'
      (by rw [show m3 - -q * -K = m3 - q * K by grind]; grind) (by rw [show -p + m3 = m3 - p by grind]; exact hn2) i3 i8
    refine ⟨w1, w2, U, V, i6, i9, g6, g9, fun R k => ?_⟩
    rw [hdef, forceB_eq, geF_is (abs_is ir) (abs_is is_)]
    simp only [hc, decide_false]
    rw [bindF_eq e1, bindF_eq e2, bindF_eq e3, bindF_eq e4, bindF_eq e5, bindF_eq e6, bindF_eq e7, bindF_eq e8, bindF_eq e9]
end Go.Vm
