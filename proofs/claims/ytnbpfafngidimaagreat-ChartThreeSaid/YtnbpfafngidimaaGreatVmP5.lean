/- A word times a power of two is rounded once; no conditions. -/
import Derived.Test.YtnbpfafngidimaaGreatVmP4
namespace Go.Vm
open Ieee
set_option linter.unusedVariables false
set_option linter.unusedSimpArgs false

theorem and_two_pow' (y i : Nat) : y &&& 2 ^ i = (y.testBit i).toNat * 2 ^ i := by
  apply Nat.eq_of_testBit_eq
  intro j
  rw [Nat.testBit_and, Nat.testBit_two_pow]
  by_cases h : i = j
  · subst h
    cases y.testBit i
    · simp
    · simp [Nat.testBit_two_pow_self]
  · cases y.testBit i
    · simp [h]
    · simp [Nat.testBit_two_pow, h]

theorem strip_eq {s : Bool} {E f : Nat} (hE : E ≤ 2046) (hf : f < 2 ^ 52) : andNotU ((((if s then 2 ^ 63 else 0) + E * 2 ^ 52 + f : Nat)) : Int) 9218868437227405312 = (((if s then 2 ^ 63 else 0) + f : Nat) : Int) := by
  have hlt : (if s then 2 ^ 63 else 0) + E * 2 ^ 52 + f < 2 ^ 64 := by split <;> omega
  have h1 := andNotU_eq (a := (if s then 2 ^ 63 else 0) + E * 2 ^ 52 + f) (b := 9218868437227405312) hlt (by decide)
  have hm : 2 ^ 64 - 1 - 9218868437227405312 = 2 ^ 63 ||| (2 ^ 52 - 1) := by decide
  rw [hm, Nat.and_or_distrib_left, Nat.and_two_pow_sub_one_eq_mod, and_two_pow'] at h1
  have h2 : ((if s then 2 ^ 63 else 0) + E * 2 ^ 52 + f).testBit 63 = s := by
    rw [Nat.testBit_eq_decide_div_mod_eq]
    cases s
    · simp only [Bool.false_eq_true, if_false]
      have : (0 + E * 2 ^ 52 + f) / 2 ^ 63 % 2 = 0 := by omega
      rw [this]; rfl
    · simp only [if_true]
      have : (2 ^ 63 + E * 2 ^ 52 + f) / 2 ^ 63 % 2 = 1 := by omega
      rw [this]; rfl
  have h3 : ((if s then 2 ^ 63 else 0) + E * 2 ^ 52 + f) % 2 ^ 52 = f := by
    cases s
    · simp only [Bool.false_eq_true, if_false]; omega
    · simp only [if_true]; omega
  rw [h2, h3] at h1
  rw [show ((9218868437227405312 : Nat) : Int) = 9218868437227405312 by rfl] at h1
  rw [h1]
  congr 1
  cases s
  · simp
  · simp only [Bool.toNat_true, Nat.one_mul, if_true]
    have := Nat.two_pow_add_eq_or_of_lt (i := 63) (b := f) (by omega) 1
    rw [Nat.mul_one] at this
    exact this.symm

theorem lay_eq {s : Bool} {E f : Nat} (hE : E ≤ 2047) (hf : f < 2 ^ 52) : (orU ((((if s then 2 ^ 63 else 0) + f : Nat)) : Int) ((E * 2 ^ 52 : Nat) : Int)).toNat = (if s then 2 ^ 63 else 0) + E * 2 ^ 52 + f := by
  rw [orU_eq (by split <;> omega) (by omega), Int.toNat_natCast]
  have h1 : ((if s then 2 ^ 63 else 0) + f) = 2 ^ 52 * (if s then 2 ^ 11 else 0) ||| f := by
    rw [← Nat.two_pow_add_eq_or_of_lt hf]
    cases s
    · simp
    · simp only [if_true]
  have h2 : 2 ^ 52 * (if s then 2 ^ 11 else 0) ||| E * 2 ^ 52 = 2 ^ 52 * ((if s then 2 ^ 11 else 0) + E) := by
    have g1 : (if s then 2 ^ 11 else 0) + E = (if s then 2 ^ 11 else 0) ||| E := by
      cases s
      · simp
      · simp only [if_true]
        have := Nat.two_pow_add_eq_or_of_lt (i := 11) (b := E) (by omega) 1
        rwa [Nat.mul_one] at this
    rw [g1]
    generalize (if s then 2 ^ 11 else 0) = t
    rw [Nat.mul_comm (2 ^ 52) t, Nat.mul_comm (2 ^ 52)]
    have := @Nat.shiftLeft_or_distrib 52 t E
    simp only [Nat.shiftLeft_eq] at this
    exact this.symm
  rw [h1, Nat.or_assoc, Nat.or_comm f, ← Nat.or_assoc, h2, ← Nat.two_pow_add_eq_or_of_lt hf]
  cases s
  · simp only [Bool.false_eq_true, if_false]; omega
  · simp only [if_true]; omega

theorem copy_zero {y : Nat} (hy : y < 2 ^ 64) : ∃ w, Is w 0 ∧ ∀ (R : Type) (k : Nat → Option R), copyK R 0 y k = k w := by
  have h0 : andNotU 0 9223372036854775808 = 0 := by decide
  have h1 := andU_eq (a := y) (b := 9223372036854775808) hy (by decide)
  rw [show ((9223372036854775808 : Nat) : Int) = 9223372036854775808 by rfl] at h1
  have h2 : y &&& 9223372036854775808 = (y.testBit 63).toNat * 2 ^ 63 := by
    rw [show (9223372036854775808 : Nat) = 2 ^ 63 by decide, and_two_pow']
  refine ⟨(y.testBit 63).toNat * 2 ^ 63, ?_, fun R k => ?_⟩
  · cases y.testBit 63
    · simp only [Bool.toNat_false, Nat.zero_mul]
      exact ⟨by decide, false, 0, -1074, by decide, dv_zero _ _⟩
    · simp only [Bool.toNat_true, Nat.one_mul]
      exact ⟨by decide, true, 0, -1074, by decide, dv_zero _ _⟩
  · unfold copyK
    have h3 := orU_eq (a := 0) (b := (y.testBit 63).toNat * 2 ^ 63) (by decide) (by cases y.testBit 63 <;> decide)
    show k (orU (andNotU ((0 : Nat) : Int) 9223372036854775808) (andU y 9223372036854775808)).toNat = _
    rw [h1, h2]
    rw [show (andNotU ((0 : Nat) : Int) 9223372036854775808) = ((0 : Nat) : Int) from h0, h3, Int.toNat_natCast, Nat.zero_or]

theorem clampI_eq {n : Int} (h1 : -5000 ≤ n) (h2 : n ≤ 5000) : clampI n = n := by
  unfold clampI
  split <;> split <;> omega

/-- A word times a power of two, rounded once. -/
theorem scaleK_is {a : Nat} {x : Rat} {n : Int} (h : Is a x) (hn1 : -5000 ≤ n) (hn2 : n ≤ 5000) (hlt : (x * (2 : Rat) ^ n).abs < (2 : Rat) ^ (1023 : Int)) :
    ∃ r z, Is r z ∧ Rnd (x * (2 : Rat) ^ n) z ∧ ∀ (R : Type) (k : Nat → Option R), scaleK R a n k = k r := by
  have hdef : ∀ (R : Type) (k : Nat → Option R), scaleK R a n k = ldexpK R a n k := fun R k => by
    show ldexpK R a (clampI n) k = _
    rw [clampI_eq hn1 hn2]
  by_cases hx : x = 0
  · subst hx
    refine ⟨a, 0, h, ⟨.inl ?_, fun K q _ _ e => ?_⟩, fun R k => ?_⟩
    · rw [Rat.zero_mul, Rat.sub_self, abs_zero]; simp
    · exact (Rat.zero_mul _).symm
    · rw [hdef]
      unfold ldexpK ldexpB
      rw [forceB_eq, eqF_is h is_zero]
      simp
  · obtain ⟨y, e, he, hy, hnn, hk⟩ := normK_is h hx
    have hyw := hy.1
    obtain ⟨s, E, f, rfl, b1, b2, b3, hv⟩ := normal_fields hy hnn
    obtain ⟨d1, d2⟩ := dv_band (s := s) (E := E) b3
    have hx0 : ¬ (x = ((0 : Int) : Rat)) := by simpa using hx
    -- the exponent
    have hxe : x * (2 : Rat) ^ n = dv s (2 ^ 52 + f) ((E : Int) - 1075) * (2 : Rat) ^ (n + e) := by
      rw [← hv, Rat.mul_assoc, ← p2_add]
      congr 2
      omega
    have hdv : ∀ j : Int, dv s (2 ^ 52 + f) ((E : Int) - 1075) * (2 : Rat) ^ j = dv s (2 ^ 52 + f) ((E : Int) - 1075 + j) := fun j => by
      unfold dv; rw [p2_add]; grind
    have hlo : (2 : Rat) ^ (n + e + E - 1023) ≤ (x * (2 : Rat) ^ n).abs := by
      rw [hxe, abs_mul, p2_abs]
      have := Rat.mul_le_mul_of_nonneg_right d1 (Rat.le_of_lt (p2_pos (n + e)))
      rw [← p2_add, show (E : Int) - 1023 + (n + e) = n + e + E - 1023 by omega] at this
      exact this
    have hhi : (x * (2 : Rat) ^ n).abs < (2 : Rat) ^ (n + e + E - 1022) := by
      rw [hxe, abs_mul, p2_abs]
      have := Rat.mul_lt_mul_of_pos_right d2 (p2_pos (n + e))
      rw [← p2_add, show (E : Int) - 1022 + (n + e) = n + e + E - 1022 by omega] at this
      exact this
    have hex : n + e + E - 1023 < 1023 := p2_lt_of (by grind)
    have hgo : ∀ (R : Type) (k : Nat → Option R), scaleK R a n k = ldexpTail fiReal copyK ((if s then 2 ^ 63 else 0) + E * 2 ^ 52 + f) e n k := fun R k => by
      rw [hdef]
      unfold ldexpK ldexpB
      rw [forceB_eq, eqF_is h is_zero]
      simp only [hx0, decide_false]
      rw [isInfK_no h, forceB_eq]
      simp only
      rw [isNanK_no h, forceB_eq]
      simp only
      rw [hk]
    have hexpo : IntKind.i64.wrap (andI (IntKind.i64.wrap (shrU ((((if s then 2 ^ 63 else 0) + E * 2 ^ 52 + f : Nat)) : Int) 52)) 2047 - 1023) = (E : Int) - 1023 := by
      have h1 : ((if s then 2 ^ 63 else 0) + E * 2 ^ 52 + f) / 2 ^ 52 = (if s then 2048 else 0) + E := by
        cases s
        · simp only [Bool.false_eq_true, if_false]; omega
        · simp only [if_true]; omega
      rw [shrU_eq, h1, wrapI (n := (((if s then 2048 else 0) + E : Nat) : Int)) (by split <;> omega) (by split <;> omega)]
      have h2 := andI_eq (a := (if s then 2048 else 0) + E) (b := 2047) (by split <;> omega) (by decide)
      have h3 : ((if s then 2048 else 0) + E) &&& 2047 = E := by
        have := Nat.and_two_pow_sub_one_eq_mod ((if s then 2048 else 0) + E) 11
        rw [show 2 ^ 11 - 1 = 2047 by decide] at this
        rw [this]
        cases s
        · simp only [Bool.false_eq_true, if_false]; omega
        · simp only [if_true]; omega
      rw [h3, show ((2047 : Nat) : Int) = 2047 by rfl] at h2
      rw [h2, wrapI (by omega) (by omega)]
    have htail : ∀ (R : Type) (k : Nat → Option R), ldexpTail fiReal copyK ((if s then 2 ^ 63 else 0) + E * 2 ^ 52 + f) e n k =
        if n + e + E - 1023 < -1075 then copyK R 0 ((if s then 2 ^ 63 else 0) + E * 2 ^ 52 + f) k
        else if n + e + E - 1023 < -1022 then ldexpEnd fiReal ((if s then 2 ^ 63 else 0) + E * 2 ^ 52 + f) (n + e + E - 970) 4368491638549381120 k
        else ldexpEnd fiReal ((if s then 2 ^ 63 else 0) + E * 2 ^ 52 + f) (n + e + E - 1023) 4607182418800017408 k := fun R k => by
      unfold ldexpTail
      simp only [fiReal_fair R]
      rw [hexpo, wrapI (n := n + e) (by omega) (by omega), wrapI (n := n + e + ((E : Int) - 1023)) (by omega) (by omega)]
      rw [show n + e + ((E : Int) - 1023) = n + e + E - 1023 by omega]
      simp only [forceB_eq]
      by_cases c1 : n + e + E - 1023 < -1075
      · simp [c1]
      · have c2 : ¬ (n + e + E - 1023 > 1023) := by omega
        by_cases c3 : n + e + E - 1023 < -1022
        · simp only [c1, c2, c3, decide_false, decide_true, if_false, if_true]
          rw [wrapI (by omega) (by omega), show n + e + (E : Int) - 1023 + 53 = n + e + E - 970 by omega]
        · simp only [c1, c2, c3, decide_false, if_false]
    have hend : ∀ (ex : Int) (m : Nat) (R : Type) (k : Nat → Option R), -1022 ≤ ex → ex ≤ 1023 → ldexpEnd fiReal ((if s then 2 ^ 63 else 0) + E * 2 ^ 52 + f) ex m k =
        bindF (floatBits .mul .f64 m ((if s then 2 ^ 63 else 0) + (ex + 1023).toNat * 2 ^ 52 + f)) k := fun ex m R k g1 g2 => by
      unfold ldexpEnd
      simp only [fiReal_fair R]
      rw [wrapI (by omega) (by omega), wrapU (by omega) (by omega), strip_eq b2 b3]
      obtain ⟨t, ht⟩ := Int.eq_ofNat_of_zero_le (show 0 ≤ ex + 1023 by omega)
      rw [ht, shlU_eq (by omega), lay_eq (by omega) b3, Int.toNat_natCast]
    by_cases c1 : n + e + E - 1023 < -1075
    · obtain ⟨w, g1, g2⟩ := copy_zero hyw
      have hsm : (x * (2 : Rat) ^ n).abs < (2 : Rat) ^ (-1075 : Int) := by
        have := p2_le (show n + e + E - 1022 ≤ -1075 by omega)
        grind
      refine ⟨w, 0, g1, ⟨.inr ?_, fun K q k1 k2 k3 => ?_⟩, fun R k => by rw [hgo, htail, if_pos c1, g2]⟩
      · rw [show (0 : Rat) - x * (2 : Rat) ^ n = -(x * (2 : Rat) ^ n) by grind, abs_neg]
        grind
      · rw [k3, abs_mul, int_abs, p2_abs] at hsm
        have hK : K.natAbs = 0 := by
          rcases Nat.eq_zero_or_pos K.natAbs with h0 | h0
          · exact h0
          · exfalso
            have f1 : ((1 : Nat) : Rat) ≤ ((K.natAbs : Nat) : Rat) := nat_cast_le h0
            have f2 := Rat.mul_le_mul_of_nonneg_right f1 (Rat.le_of_lt (p2_pos q))
            have f3 := p2_le (show (-1075 : Int) ≤ q by omega)
            have f4 : ((1 : Nat) : Rat) * (2 : Rat) ^ q = (2 : Rat) ^ q := by simp
            grind
        have : K = 0 := by omega
        rw [k3, this]
        simp
    · by_cases c3 : n + e + E - 1023 < -1022
      · have hw := fields_is (s := s) (E := (n + e + E - 970 + 1023).toNat) (f := f) (by omega) (by omega) b3
        have hval : (2 : Rat) ^ (-53 : Int) * dv s (2 ^ 52 + f) ((((n + e + E - 970 + 1023).toNat : Nat) : Int) - 1075) = x * (2 : Rat) ^ n := by
          rw [hxe, hdv, Rat.mul_comm]
          unfold dv
          rw [Rat.mul_assoc, Rat.mul_assoc, ← p2_add]
          congr 3
          omega
        obtain ⟨r, z, m1, m2, m3⟩ := mul_is is_m53 hw (by rw [hval]; exact hlt)
        rw [hval] at m3
        exact ⟨r, z, m2, m3, fun R k => by rw [hgo, htail, if_neg c1, if_pos c3, hend _ _ R k (by omega) (by omega), bindF_eq m1]⟩
      · have hw := fields_is (s := s) (E := (n + e + E - 1023 + 1023).toNat) (f := f) (by omega) (by omega) b3
        have hval : 1 * dv s (2 ^ 52 + f) ((((n + e + E - 1023 + 1023).toNat : Nat) : Int) - 1075) = x * (2 : Rat) ^ n := by
          rw [hxe, hdv, Rat.one_mul]
          congr 1
          omega
        obtain ⟨r, z, m1, m2, m3⟩ := mul_is is_one hw (by rw [hval]; exact hlt)
        rw [hval] at m3
        exact ⟨r, z, m2, m3, fun R k => by rw [hgo, htail, if_neg c1, if_neg c3, hend _ _ R k (by omega) (by omega), bindF_eq m1]⟩
end Go.Vm
