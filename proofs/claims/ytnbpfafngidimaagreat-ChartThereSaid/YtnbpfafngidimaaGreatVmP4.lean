/- Words that are finite, their greatest part, their powers of two; no conditions. A word times a power of two is rounded once; no conditions. -/
import Derived.Test.YtnbpfafngidimaaGreatVmP3
namespace Go.Vm
open Ieee
set_option linter.unusedVariables false
set_option linter.unusedSimpArgs false

theorem gtF_is {a b : Nat} {x y : Rat} (ha : Is a x) (hb : Is b y) : gtF a b = decide (y < x) := by
  unfold gtF
  rw [order_is ha hb]
  by_cases h1 : x < y
  · have : ¬ y < x := by grind
    simp [h1, this]
  · by_cases h2 : x = y
    · subst h2; simp [h1]
    · have : y < x := by grind
      simp [h1, h2, this]
theorem ltF_is {a b : Nat} {x y : Rat} (ha : Is a x) (hb : Is b y) : ltF a b = decide (x < y) := by
  unfold ltF
  rw [order_is ha hb]
  by_cases h1 : x < y
  · simp [h1]
  · by_cases h2 : x = y
    · subst h2; simp [h1]
    · simp [h1, h2]
theorem geF_is {a b : Nat} {x y : Rat} (ha : Is a x) (hb : Is b y) : geF a b = decide (y ≤ x) := by
  unfold geF
  rw [order_is ha hb]
  by_cases h1 : x < y
  · have : ¬ y ≤ x := by grind
    simp [h1, this]
  · by_cases h2 : x = y
    · subst h2; simp [h1]
    · have : y ≤ x := by grind
      simp [h1, h2, this]

theorem int_abs (K : Int) : ((K : Rat)).abs = ((K.natAbs : Nat) : Rat) := by
  have := dv_abs (decide (K < 0)) K.natAbs 0
  rw [int_dv K (decide (K < 0)) 0 fun _ => rfl] at this
  simpa using this

theorem p2_abs (q : Int) : ((2 : Rat) ^ q).abs = (2 : Rat) ^ q := Rat.abs_of_nonneg (Rat.le_of_lt (p2_pos q))

theorem is_max : Is 9218868437227405311 (((2 ^ 53 - 1 : Nat) : Rat) * (2 : Rat) ^ (971 : Int)) := by
  refine ⟨by decide, false, 2 ^ 53 - 1, 971, by decide, ?_⟩
  unfold dv sg
  rw [if_neg (by decide), Rat.one_mul]

theorem abs_le_max {a : Nat} {x : Rat} (h : Is a x) : x.abs ≤ ((2 ^ 53 - 1 : Nat) : Rat) * (2 : Rat) ^ (971 : Int) := by
  obtain ⟨K, q, h1, h2, h3, rfl⟩ := is_rep h
  rw [abs_mul, int_abs, p2_abs]
  have f1 : ((K.natAbs : Nat) : Rat) ≤ ((2 ^ 53 - 1 : Nat) : Rat) := nat_cast_le (by omega)
  have f2 := Rat.mul_le_mul_of_nonneg_right f1 (Rat.le_of_lt (p2_pos q))
  have f3 := Rat.mul_le_mul_of_nonneg_left (p2_le h3) (show (0 : Rat) ≤ ((2 ^ 53 - 1 : Nat) : Rat) by exact_mod_cast Nat.zero_le _)
  exact Rat.le_trans f2 f3

def isInfK : KFB := isInfB absK
def finiteK : KFB := finiteB absK
def FiniteK : KCB := FiniteB finiteK
def normK : KFFI := normB absK
def frexpK : KFFI := frexpB fiReal isInfK isNanK normK
def ldexpK : KFIF := ldexpB fiReal copyK isInfK isNanK normK
def scaleK : KFIF := scaleB ldexpK
def greatestK : KCF := greatestB absK
def scaledK : KCCI := scaledB greatestK frexpK scaleK
def sqrtK : KFF := fun R a k => bindF (double.sqrt a) k
def lengthK : KCF := lengthB isInfK isNanK greatestK scaledK squareK sqrtK scaleK
def nearK : KCCFB := nearB subK lengthK
def divK : KCCC := divB absK

theorem isInfK_no {a : Nat} {x : Rat} (h : Is a x) {R : Type} (k : Bool → Option R) : isInfK R a k = k false := by
  show forceB (gtF (absW a) 9218868437227405311) (fun t => k t) = k false
  rw [forceB_eq, gtF_is (abs_is h) is_max]
  have := abs_le_max h
  have : ¬ (((2 ^ 53 - 1 : Nat) : Rat) * (2 : Rat) ^ (971 : Int) < x.abs) := by grind
  simp only [this, decide_false]
theorem isNanK_no {a : Nat} {x : Rat} (h : Is a x) {R : Type} (k : Bool → Option R) : isNanK R a k = k false := by
  unfold isNanK
  rw [forceB_eq, neF_is h h]
  simp
theorem finiteK_yes {a : Nat} {x : Rat} (h : Is a x) {R : Type} (k : Bool → Option R) : finiteK R a k = k true := by
  show forceB (leF (absW a) 9218868437227405311) (fun t => k t) = k true
  rw [forceB_eq, leF_is (abs_is h) is_max]
  simp only [abs_le_max h, decide_true]
theorem FiniteK_yes {a b : Nat} {x y : Rat} (h : Is a x) (g : Is b y) {R : Type} (k : Bool → Option R) : FiniteK R a b k = k true := by
  unfold FiniteK FiniteB
  rw [finiteK_yes h, forceB_eq]
  simp only
  rw [finiteK_yes g]
  simp only [forceB_eq]

theorem is_least : Is 4503599627370496 ((2 : Rat) ^ (-1022 : Int)) := by
  have := fields_is (s := false) (E := 1) (f := 0) (by decide) (by decide) (by decide)
  have e : dv false (2 ^ 52 + 0) (((1 : Nat) : Int) - 1075) = (2 : Rat) ^ (-1022 : Int) := by
    unfold dv sg
    rw [if_neg (by decide), Rat.one_mul, Nat.add_zero, ← p2_nat, ← p2_add]
    rfl
  rw [e] at this
  exact this
theorem is_p52 : Is 4841369599423283200 ((2 : Rat) ^ (52 : Int)) := by
  have := fields_is (s := false) (E := 1075) (f := 0) (by decide) (by decide) (by decide)
  have e : dv false (2 ^ 52 + 0) (((1075 : Nat) : Int) - 1075) = (2 : Rat) ^ (52 : Int) := by
    unfold dv sg
    rw [if_neg (by decide), Rat.one_mul, Nat.add_zero, ← p2_nat, ← p2_add]
    rfl
  rw [e] at this
  exact this
theorem is_m53 : Is 4368491638549381120 ((2 : Rat) ^ (-53 : Int)) := by
  have := fields_is (s := false) (E := 970) (f := 0) (by decide) (by decide) (by decide)
  have e : dv false (2 ^ 52 + 0) (((970 : Nat) : Int) - 1075) = (2 : Rat) ^ (-53 : Int) := by
    unfold dv sg
    rw [if_neg (by decide), Rat.one_mul, Nat.add_zero, ← p2_nat, ← p2_add]
    rfl
  rw [e] at this
  exact this
theorem is_one : Is 4607182418800017408 1 := by
  have := fields_is (s := false) (E := 1023) (f := 0) (by decide) (by decide) (by decide)
  have e : dv false (2 ^ 52 + 0) (((1023 : Nat) : Int) - 1075) = 1 := by
    unfold dv sg
    rw [if_neg (by decide), Rat.one_mul, Nat.add_zero, ← p2_nat, ← p2_add]
    exact Rat.zpow_zero 2
  rw [e] at this
  exact this

theorem p2_cancel (q : Int) : (2 : Rat) ^ q * (2 : Rat) ^ (-q) = 1 := by rw [← p2_add, show q + -q = 0 by omega, Rat.zpow_zero]

theorem normK_def {R : Type} (a : Nat) (k : Nat → Int → Option R) : normK R a k = forceB (ltF (absW a) 4503599627370496) fun t => match t with
  | true => bindF (floatBits .mul .f64 a 4841369599423283200) fun y => k y (-52)
  | false => k a 0 := rfl

theorem normK_is {a : Nat} {x : Rat} (h : Is a x) (hx : x ≠ 0) : ∃ (y : Nat) (e : Int), (e = 0 ∨ e = -52) ∧ Is y (x * (2 : Rat) ^ (-e)) ∧ (2 : Rat) ^ (-1022 : Int) ≤ (x * (2 : Rat) ^ (-e)).abs ∧
    ∀ (R : Type) (k : Nat → Int → Option R), normK R a k = k y e := by
  by_cases hs : x.abs < (2 : Rat) ^ (-1022 : Int)
  · obtain ⟨K, q, k1, k2, k3, hK⟩ := is_rep h
    have hlt : (x * (2 : Rat) ^ (52 : Int)).abs < (2 : Rat) ^ (1023 : Int) := by
      rw [abs_mul, p2_abs]
      have := Rat.mul_lt_mul_of_pos_right hs (p2_pos 52)
      rw [← p2_add] at this
      have h2 := p2_le (show (-1022 + 52 : Int) ≤ 1023 by decide)
      grind
    obtain ⟨y, z, e1, e2, e3⟩ := mul_is h is_p52 hlt
    have hz : z = x * (2 : Rat) ^ (52 : Int) := e3.rep K (q + 52) k1 (by omega) (by rw [hK, p2_add]; grind)
    rw [hz] at e2
    refine ⟨y, -52, .inr rfl, by simpa using e2, ?_, fun R k => ?_⟩
    · -- at least one unit
      have hK0 : 1 ≤ K.natAbs := by
        rcases Nat.eq_zero_or_pos K.natAbs with h0 | h0
        · have : K = 0 := by omega
          subst this
          exact absurd (by rw [hK]; simp) hx
        · exact h0
      have f1 : ((1 : Nat) : Rat) ≤ ((K.natAbs : Nat) : Rat) := nat_cast_le hK0
      have f2 := Rat.mul_le_mul_of_nonneg_right f1 (Rat.le_of_lt (p2_pos q))
      rw [show (-(-52 : Int)) = 52 by decide, abs_mul, p2_abs, hK, abs_mul, int_abs, p2_abs]
      have f3 := Rat.mul_le_mul_of_nonneg_right f2 (Rat.le_of_lt (p2_pos 52))
      have f4 : ((1 : Nat) : Rat) * (2 : Rat) ^ q * (2 : Rat) ^ (52 : Int) = (2 : Rat) ^ (q + 52) := by rw [p2_add]; simp
      rw [f4] at f3
      exact Rat.le_trans (p2_le (by omega)) f3
    · rw [normK_def, forceB_eq, ltF_is (abs_is h) is_least]
      simp only [hs, decide_true]
      rw [bindF_eq e1]
  · refine ⟨a, 0, .inl rfl, by simpa using h, ?_, fun R k => ?_⟩
    · simp only [Int.neg_zero, Rat.zpow_zero, Rat.mul_one]
      grind
    · rw [normK_def, forceB_eq, ltF_is (abs_is h) is_least]
      simp only [hs, decide_false]

theorem expo_eq {s : Bool} {E f : Nat} (hE : E ≤ 2046) (hf : f < 2 ^ 52) : andU (shrU ((((if s then 2 ^ 63 else 0) + E * 2 ^ 52 + f : Nat)) : Int) 52) 2047 = (E : Int) := by
  have h1 : ((if s then 2 ^ 63 else 0) + E * 2 ^ 52 + f) / 2 ^ 52 = (if s then 2048 else 0) + E := by
    cases s
    · simp only [Bool.false_eq_true, if_false]; omega
    · simp only [if_true]; omega
  rw [shrU_eq, h1]
  have h2 := andU_eq (a := (if s then 2048 else 0) + E) (b := 2047) (by split <;> omega) (by decide)
  have h3 : ((if s then 2048 else 0) + E) &&& 2047 = E := by
    have := Nat.and_two_pow_sub_one_eq_mod ((if s then 2048 else 0) + E) 11
    rw [show 2 ^ 11 - 1 = 2047 by decide] at this
    rw [this]
    cases s
    · simp only [Bool.false_eq_true, if_false]; omega
    · simp only [if_true]; omega
  rw [h3] at h2
  exact h2

theorem dv_band {s : Bool} {E f : Nat} (hf : f < 2 ^ 52) : (2 : Rat) ^ ((E : Int) - 1023) ≤ (dv s (2 ^ 52 + f) ((E : Int) - 1075)).abs ∧ (dv s (2 ^ 52 + f) ((E : Int) - 1075)).abs < (2 : Rat) ^ ((E : Int) - 1022) := by
  rw [dv_abs]
  have h1 : ((2 ^ 52 : Nat) : Rat) ≤ ((2 ^ 52 + f : Nat) : Rat) := nat_cast_le (by omega)
  have h2 : ((2 ^ 52 + f : Nat) : Rat) < ((2 ^ 53 : Nat) : Rat) := nat_cast_lt (by omega)
  have e1 : (2 : Rat) ^ ((52 : Nat) : Int) = ((2 ^ 52 : Nat) : Rat) := p2_nat 52
  have e2 : (2 : Rat) ^ ((53 : Nat) : Int) = ((2 ^ 53 : Nat) : Rat) := p2_nat 53
  have g1 := Rat.mul_le_mul_of_nonneg_right h1 (Rat.le_of_lt (p2_pos ((E : Int) - 1075)))
  have g2 := Rat.mul_lt_mul_of_pos_right h2 (p2_pos ((E : Int) - 1075))
  rw [← e1, ← p2_add, show ((52 : Nat) : Int) + ((E : Int) - 1075) = (E : Int) - 1023 by omega] at g1
  rw [← e2, ← p2_add, show ((53 : Nat) : Int) + ((E : Int) - 1075) = (E : Int) - 1022 by omega] at g2
  exact ⟨g1, g2⟩

/-- The power of two just above. -/
theorem frexpK_is {a : Nat} {x : Rat} (h : Is a x) (hx : x ≠ 0) : ∃ (w : Nat) (n : Int), (2 : Rat) ^ (n - 1) ≤ x.abs ∧ x.abs < (2 : Rat) ^ n ∧ -1100 ≤ n ∧ n ≤ 1024 ∧
    ∀ (R : Type) (k : Nat → Int → Option R), frexpK R a k = k w n := by
  obtain ⟨y, e, he, hy, hn, hk⟩ := normK_is h hx
  obtain ⟨s, E, f, rfl, b1, b2, b3, hv⟩ := normal_fields hy hn
  obtain ⟨d1, d2⟩ := dv_band (s := s) (E := E) b3
  rw [← hv, abs_mul, p2_abs] at d1 d2
  refine ⟨(orU (andNotU ((((if s then 2 ^ 63 else 0) + E * 2 ^ 52 + f : Nat)) : Int) 9218868437227405312) 4602678819172646912).toNat, e + (E - 1022), ?_, ?_, by omega, by omega, fun R k => ?_⟩
  · have := Rat.mul_le_mul_of_nonneg_right d1 (Rat.le_of_lt (p2_pos e))
    rw [← p2_add, Rat.mul_assoc, Rat.mul_comm ((2 : Rat) ^ (-e)), p2_cancel, Rat.mul_one, show (E : Int) - 1023 + e = e + (E - 1022) - 1 by omega] at this
    exact this
  · have := Rat.mul_lt_mul_of_pos_right d2 (p2_pos e)
    rw [← p2_add, Rat.mul_assoc, Rat.mul_comm ((2 : Rat) ^ (-e)), p2_cancel, Rat.mul_one, show (E : Int) - 1022 + e = e + (E - 1022) by omega] at this
    exact this
  · unfold frexpK frexpB
    have h0 : ¬ (x = ((0 : Int) : Rat)) := by simpa using hx
    rw [forceB_eq, eqF_is h is_zero]
    simp only [h0, decide_false]
    rw [isInfK_no h, forceB_eq]
    simp only
    rw [isNanK_no h, forceB_eq]
    simp only
    rw [hk]
    unfold frexpTail expoOf
    rw [expo_eq b2 b3]
    simp only [fiReal_fair R]
    rw [wrapI (n := (E : Int)) (by omega) (by omega), wrapI (n := (E : Int) - 1023) (by omega) (by omega), wrapI (n := (E : Int) - 1023 + 1) (by omega) (by omega)]
    rw [show (E : Int) - 1023 + 1 = (E : Int) - 1022 by omega, wrapI (by omega) (by omega)]
end Go.Vm
namespace Go.Vm
open Ieee
set_option linter.unusedVariables false
set_option linter.unusedSimpArgs false

theorem and_two_pow' (y i : Nat) : y &&& 2 ^ i = (y.testBit i).toNat * 2 ^ i := by
  apply Nat.eq_of_testBit_eq
  intro j
  rw [Nat.testBit_and, Nat.testBit_two_pow]
  by_cases h : i = j
  · subst h
    cases y.testBit i
    · simp
    · simp [Nat.testBit_two_pow_self]
  · cases y.testBit i
    · simp [h]
    · simp [Nat.testBit_two_pow, h]

theorem strip_eq {s : Bool} {E f : Nat} (hE : E ≤ 2046) (hf : f < 2 ^ 52) : andNotU ((((if s then 2 ^ 63 else 0) + E * 2 ^ 52 + f : Nat)) : Int) 9218868437227405312 = (((if s then 2 ^ 63 else 0) + f : Nat) : Int) := by
  have hlt : (if s then 2 ^ 63 else 0) + E * 2 ^ 52 + f < 2 ^ 64 := by split <;> omega
  have h1 := andNotU_eq (a := (if s then 2 ^ 63 else 0) + E * 2 ^ 52 + f) (b := 9218868437227405312) hlt (by decide)
  have hm : 2 ^ 64 - 1 - 9218868437227405312 = 2 ^ 63 ||| (2 ^ 52 - 1) := by decide
  rw [hm, Nat.and_or_distrib_left, Nat.and_two_pow_sub_one_eq_mod, and_two_pow'] at h1
  have h2 : ((if s then 2 ^ 63 else 0) + E * 2 ^ 52 + f).testBit 63 = s := by
    rw [Nat.testBit_eq_decide_div_mod_eq]
    cases s
    · simp only [Bool.false_eq_true, if_false]
      have : (0 + E * 2 ^ 52 + f) / 2 ^ 63 % 2 = 0 := by omega
      rw [this]; rfl
    · simp only [if_true]
      have : (2 ^ 63 + E * 2 ^ 52 + f) / 2 ^ 63 % 2 = 1 := by omega
      rw [this]; rfl
  have h3 : ((if s then 2 ^ 63 else 0) + E * 2 ^ 52 + f) % 2 ^ 52 = f := by
    cases s
    · simp only [Bool.false_eq_true, if_false]; omega
    · simp only [if_true]; omega
  rw [h2, h3] at h1
  rw [show ((9218868437227405312 : Nat) : Int) = 9218868437227405312 by rfl] at h1
  rw [h1]
  congr 1
  cases s
  · simp
  · simp only [Bool.toNat_true, Nat.one_mul, if_true]
    have := Nat.two_pow_add_eq_or_of_lt (i := 63) (b := f) (by omega) 1
    rw [Nat.mul_one] at this
    exact this.symm

theorem lay_eq {s : Bool} {E f : Nat} (hE : E ≤ 2047) (hf : f < 2 ^ 52) : (orU ((((if s then 2 ^ 63 else 0) + f : Nat)) : Int) ((E * 2 ^ 52 : Nat) : Int)).toNat = (if s then 2 ^ 63 else 0) + E * 2 ^ 52 + f := by
  rw [orU_eq (by split <;> omega) (by omega), Int.toNat_natCast]
  have h1 : ((if s then 2 ^ 63 else 0) + f) = 2 ^ 52 * (if s then 2 ^ 11 else 0) ||| f := by
    rw [← Nat.two_pow_add_eq_or_of_lt hf]
    cases s
    · simp
    · simp only [if_true]
  have h2 : 2 ^ 52 * (if s then 2 ^ 11 else 0) ||| E * 2 ^ 52 = 2 ^ 52 * ((if s then 2 ^ 11 else 0) + E) := by
    have g1 : (if s then 2 ^ 11 else 0) + E = (if s then 2 ^ 11 else 0) ||| E := by
      cases s
      · simp
      · simp only [if_true]
        have := Nat.two_pow_add_eq_or_of_lt (i := 11) (b := E) (by omega) 1
        rwa [Nat.mul_one] at this
    rw [g1]
    generalize (if s then 2 ^ 11 else 0) = t
    rw [Nat.mul_comm (2 ^ 52) t, Nat.mul_comm (2 ^ 52)]
    have := @Nat.shiftLeft_or_distrib 52 t E
    simp only [Nat.shiftLeft_eq] at this
    exact this.symm
  rw [h1, Nat.or_assoc, Nat.or_comm f, ← Nat.or_assoc, h2, ← Nat.two_pow_add_eq_or_of_lt hf]
  cases s
  · simp only [Bool.false_eq_true, if_false]; omega
  · simp only [if_true]; omega

theorem copy_zero {y : Nat} (hy : y < 2 ^ 64) : ∃ w, Is w 0 ∧ ∀ (R : Type) (k : Nat → Option R), copyK R 0 y k = k w := by
  have h0 : andNotU 0 9223372036854775808 = 0 := by decide
  have h1 := andU_eq (a := y) (b := 9223372036854775808) hy (by decide)
  rw [show ((9223372036854775808 : Nat) : Int) = 9223372036854775808 by rfl] at h1
  have h2 : y &&& 9223372036854775808 = (y.testBit 63).toNat * 2 ^ 63 := by
    rw [show (9223372036854775808 : Nat) = 2 ^ 63 by decide, and_two_pow']
  refine ⟨(y.testBit 63).toNat * 2 ^ 63, ?_, fun R k => ?_⟩
  · cases y.testBit 63
    · simp only [Bool.toNat_false, Nat.zero_mul]
      exact ⟨by decide, false, 0, -1074, by decide, dv_zero _ _⟩
    · simp only [Bool.toNat_true, Nat.one_mul]
      exact ⟨by decide, true, 0, -1074, by decide, dv_zero _ _⟩
  · unfold copyK
    have h3 := orU_eq (a := 0) (b := (y.testBit 63).toNat * 2 ^ 63) (by decide) (by cases y.testBit 63 <;> decide)
    show k (orU (andNotU ((0 : Nat) : Int) 9223372036854775808) (andU y 9223372036854775808)).toNat = _
    rw [h1, h2]
    rw [show (andNotU ((0 : Nat) : Int) 9223372036854775808) = ((0 : Nat) : Int) from h0, h3, Int.toNat_natCast, Nat.zero_or]

theorem clampI_eq {n : Int} (h1 : -5000 ≤ n) (h2 : n ≤ 5000) : clampI n = n := by
  unfold clampI
  split <;> split <;> omega

/-- A word times a power of two, rounded once. -/
theorem scaleK_is {a : Nat} {x : Rat} {n : Int} (h : Is a x) (hn1 : -5000 ≤ n) (hn2 : n ≤ 5000) (hlt : (x * (2 : Rat) ^ n).abs < (2 : Rat) ^ (1023 : Int)) :
    ∃ r z, Is r z ∧ Rnd (x * (2 : Rat) ^ n) z ∧ ∀ (R : Type) (k : Nat → Option R), scaleK R a n k = k r := by
  have hdef : ∀ (R : Type) (k : Nat → Option R), scaleK R a n k = ldexpK R a n k := fun R k => by
    show ldexpK R a (clampI n) k = _
    rw [clampI_eq hn1 hn2]
  by_cases hx : x = 0
  · subst hx
    refine ⟨a, 0, h, ⟨.inl ?_, fun K q _ _ e => ?_⟩, fun R k => ?_⟩
    · rw [Rat.zero_mul, Rat.sub_self, abs_zero]; simp
    · exact (Rat.zero_mul _).symm
    · rw [hdef]
      unfold ldexpK ldexpB
      rw [forceB_eq, eqF_is h is_zero]
      simp
  · obtain ⟨y, e, he, hy, hnn, hk⟩ := normK_is h hx
    have hyw := hy.1
    obtain ⟨s, E, f, rfl, b1, b2, b3, hv⟩ := normal_fields hy hnn
    obtain ⟨d1, d2⟩ := dv_band (s := s) (E := E) b3
    have hx0 : ¬ (x = ((0 : Int) : Rat)) := by simpa using hx
    -- the exponent
    have hxe : x * (2 : Rat) ^ n = dv s (2 ^ 52 + f) ((E : Int) - 1075) * (2 : Rat) ^ (n + e) := by
      rw [← hv, Rat.mul_assoc, ← p2_add]
      congr 2
      omega
    have hdv : ∀ j : Int, dv s (2 ^ 52 + f) ((E : Int) - 1075) * (2 : Rat) ^ j = dv s (2 ^ 52 + f) ((E : Int) - 1075 + j) := fun j => by
      unfold dv; rw [p2_add]; grind
    have hlo : (2 : Rat) ^ (n + e + E - 1023) ≤ (x * (2 : Rat) ^ n).abs := by
      rw [hxe, abs_mul, p2_abs]
      have := Rat.mul_le_mul_of_nonneg_right d1 (Rat.le_of_lt (p2_pos (n + e)))
      rw [← p2_add, show (E : Int) - 1023 + (n + e) = n + e + E - 1023 by omega] at this
      exact this
    have hhi : (x * (2 : Rat) ^ n).abs < (2 : Rat) ^ (n + e + E - 1022) := by
      rw [hxe, abs_mul, p2_abs]
      have := Rat.mul_lt_mul_of_pos_right d2 (p2_pos (n + e))
      rw [← p2_add, show (E : Int) - 1022 + (n + e) = n + e + E - 1022 by omega] at this
      exact this
    have hex : n + e + E - 1023 < 1023 := p2_lt_of (by grind)
    have hgo : ∀ (R : Type) (k : Nat → Option R), scaleK R a n k = ldexpTail fiReal copyK ((if s then 2 ^ 63 else 0) + E * 2 ^ 52 + f) e n k := fun R k => by
      rw [hdef]
      unfold ldexpK ldexpB
      rw [forceB_eq, eqF_is h is_zero]
      simp only [hx0, decide_false]
      rw [isInfK_no h, forceB_eq]
      simp only
      rw [isNanK_no h, forceB_eq]
      simp only
      rw [hk]
    have hexpo : IntKind.i64.wrap (andI (IntKind.i64.wrap (shrU ((((if s then 2 ^ 63 else 0) + E * 2 ^ 52 + f : Nat)) : Int) 52)) 2047 - 1023) = (E : Int) - 1023 := by
      have h1 : ((if s then 2 ^ 63 else 0) + E * 2 ^ 52 + f) / 2 ^ 52 = (if s then 2048 else 0) + E := by
        cases s
        · simp only [Bool.false_eq_true, if_false]; omega
        · simp only [if_true]; omega
      rw [shrU_eq, h1, wrapI (n := (((if s then 2048 else 0) + E : Nat) : Int)) (by split <;> omega) (by split <;> omega)]
      have h2 := andI_eq (a := (if s then 2048 else 0) + E) (b := 2047) (by split <;> omega) (by decide)
      have h3 : ((if s then 2048 else 0) + E) &&& 2047 = E := by
        have := Nat.and_two_pow_sub_one_eq_mod ((if s then 2048 else 0) + E) 11
        rw [show 2 ^ 11 - 1 = 2047 by decide] at this
        rw [this]
        cases s
        · simp only [Bool.false_eq_true, if_false]; omega
        · simp only [if_true]; omega
      rw [h3, show ((2047 : Nat) : Int) = 2047 by rfl] at h2
      rw [h2, wrapI (by omega) (by omega)]
    have htail : ∀ (R : Type) (k : Nat → Option R), ldexpTail fiReal copyK ((if s then 2 ^ 63 else 0) + E * 2 ^ 52 + f) e n k =
        if n + e + E - 1023 < -1075 then copyK R 0 ((if s then 2 ^ 63 else 0) + E * 2 ^ 52 + f) k
        else if n + e + E - 1023 < -1022 then ldexpEnd fiReal ((if s then 2 ^ 63 else 0) + E * 2 ^ 52 + f) (n + e + E - 970) 4368491638549381120 k
        else ldexpEnd fiReal ((if s then 2 ^ 63 else 0) + E * 2 ^ 52 + f) (n + e + E - 1023) 4607182418800017408 k := fun R k => by
      unfold ldexpTail
      simp only [fiReal_fair R]
      rw [hexpo, wrapI (n := n + e) (by omega) (by omega), wrapI (n := n + e + ((E : Int) - 1023)) (by omega) (by omega)]
      rw [show n + e + ((E : Int) - 1023) = n + e + E - 1023 by omega]
      simp only [forceB_eq]
      by_cases c1 : n + e + E - 1023 < -1075
      · simp [c1]
      · have c2 : ¬ (n + e + E - 1023 > 1023) := by omega
        by_cases c3 : n + e + E - 1023 < -1022
        · simp only [c1, c2, c3, decide_false, decide_true, if_false, if_true]
          rw [wrapI (by omega) (by omega), show n + e + (E : Int) - 1023 + 53 = n + e + E - 970 by omega]
        · simp only [c1, c2, c3, decide_false, if_false]
    have hend : ∀ (ex : Int) (m : Nat) (R : Type) (k : Nat → Option R), -1022 ≤ ex → ex ≤ 1023 → ldexpEnd fiReal ((if s then 2 ^ 63 else 0) + E * 2 ^ 52 + f) ex m k =
        bindF (floatBits .mul .f64 m ((if s then 2 ^ 63 else 0) + (ex + 1023).toNat * 2 ^ 52 + f)) k := fun ex m R k g1 g2 => by
      unfold ldexpEnd
      simp only [fiReal_fair R]
      rw [wrapI (by omega) (by omega), wrapU (by omega) (by omega), strip_eq b2 b3]
      obtain ⟨t, ht⟩ := Int.eq_ofNat_of_zero_le (show 0 ≤ ex + 1023 by omega)
      rw [ht, shlU_eq (by omega), lay_eq (by omega) b3, Int.toNat_natCast]
    by_cases c1 : n + e + E - 1023 < -1075
    · obtain ⟨w, g1, g2⟩ := copy_zero hyw
      have hsm : (x * (2 : Rat) ^ n).abs < (2 : Rat) ^ (-1075 : Int) := by
        have := p2_le (show n + e + E - 1022 ≤ -1075 by omega)
        grind
      refine ⟨w, 0, g1, ⟨.inr ?_, fun K q k1 k2 k3 => ?_⟩, fun R k => by rw [hgo, htail, if_pos c1, g2]⟩
      · rw [show (0 : Rat) - x * (2 : Rat) ^ n = -(x * (2 : Rat) ^ n) by grind, abs_neg]
        grind
      · rw [k3, abs_mul, int_abs, p2_abs] at hsm
        have hK : K.natAbs = 0 := by
          rcases Nat.eq_zero_or_pos K.natAbs with h0 | h0
          · exact h0
          · exfalso
            have f1 : ((1 : Nat) : Rat) ≤ ((K.natAbs : Nat) : Rat) := nat_cast_le h0
            have f2 := Rat.mul_le_mul_of_nonneg_right f1 (Rat.le_of_lt (p2_pos q))
            have f3 := p2_le (show (-1075 : Int) ≤ q by omega)
            have f4 : ((1 : Nat) : Rat) * (2 : Rat) ^ q = (2 : Rat) ^ q := by simp
            grind
        have : K = 0 := by omega
        rw [k3, this]
        simp
    · by_cases c3 : n + e + E - 1023 < -1022
      · have hw := fields_is (s := s) (E := (n + e + E - 970 + 1023).toNat) (f := f) (by omega) (by omega) b3
        have hval : (2 : Rat) ^ (-53 : Int) * dv s (2 ^ 52 + f) ((((n + e + E - 970 + 1023).toNat : Nat) : Int) - 1075) = x * (2 : Rat) ^ n := by
          rw [hxe, hdv, Rat.mul_comm]
          unfold dv
          rw [Rat.mul_assoc, Rat.mul_assoc, ← p2_add]
          congr 3
          omega
        obtain ⟨r, z, m1, m2, m3⟩ := mul_is is_m53 hw (by rw [hval]; exact hlt)
        rw [hval] at m3
        exact ⟨r, z, m2, m3, fun R k => by rw [hgo, htail, if_neg c1, if_pos c3, hend _ _ R k (by omega) (by omega), bindF_eq m1]⟩
      · have hw := fields_is (s := s) (E := (n + e + E - 1023 + 1023).toNat) (f := f) (by omega) (by omega) b3
        have hval : 1 * dv s (2 ^ 52 + f) ((((n + e + E - 1023 + 1023).toNat : Nat) : Int) - 1075) = x * (2 : Rat) ^ n := by
          rw [hxe, hdv, Rat.one_mul]
          congr 1
          omega
        obtain ⟨r, z, m1, m2, m3⟩ := mul_is is_one hw (by rw [hval]; exact hlt)
        rw [hval] at m3
        exact ⟨r, z, m2, m3, fun R k => by rw [hgo, htail, if_neg c1, if_neg c3, hend _ _ R k (by omega) (by omega), bindF_eq m1]⟩
end Go.Vm
