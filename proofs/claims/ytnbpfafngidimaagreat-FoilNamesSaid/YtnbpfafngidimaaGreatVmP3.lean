/- The fields of a word; no conditions. Words that are finite, their greatest part, their powers of two; no conditions. A word times a power of two is rounded once; no conditions. Length and nearness on words; no conditions. The quotient of complex numbers in fractions; no conditions. The quotient of complex numbers on words, how near it comes; no conditions. -/
import Derived.Test.YtnbpfafngidimaaGreatVmP1
import Derived.Test.YtnbpfafngidimaaGreatVmKF
namespace Go.Vm
open Ieee
set_option linter.unusedVariables false
set_option linter.unusedSimpArgs false

/-! ### Words by their fields -/
theorem read_bounds {w : Nat} {s : Bool} {m : Nat} {i : Int} (h : double.read w = .number s m i) : m < 2 ^ 53 ∧ -1074 ≤ i ∧ i ≤ 971 := by
  have e1 : double.signWeight = 2 ^ 63 := by decide
  have e2 : double.binade = 2 ^ 52 := by decide
  have e3 : double.infRung = 2047 * 2 ^ 52 := by decide
  have e4 : double.leastPlace = -1074 := by decide
  unfold Format.read at h
  simp only [e1, e2, e3, e4] at h
  split at h
  · injection h with h1 h2 h3
    omega
  · split at h
    · injection h with h1 h2 h3
      have := Nat.mod_lt (w % 2 ^ 63) (show 0 < 2 ^ 52 by decide)
      have h5 : w % 2 ^ 63 / 2 ^ 52 < 2047 := by omega
      omega
    · split at h <;> cases h

theorem is_rep {a : Nat} {x : Rat} (h : Is a x) : ∃ (K : Int) (q : Int), K.natAbs < 2 ^ 53 ∧ -1074 ≤ q ∧ q ≤ 971 ∧ x = K * (2 : Rat) ^ q := by
  obtain ⟨_, s, m, i, h1, rfl⟩ := h
  obtain ⟨b1, b2, b3⟩ := read_bounds h1
  refine ⟨if s then -(m : Int) else m, i, ?_, b2, b3, ?_⟩
  · split <;> omega
  · unfold dv sg
    cases s
    · simp only [Bool.false_eq_true, if_false]
      have : ((m : Int) : Rat) = (m : Rat) := by norm_cast
      rw [this]; grind
    · simp only [if_true]; push_cast; grind

/-- A normal word: its fields. -/
theorem normal_fields {y : Nat} {v : Rat} (h : Is y v) (hv : (2 : Rat) ^ (-1022 : Int) ≤ v.abs) :
    ∃ (s : Bool) (E f : Nat), y = (if s then 2 ^ 63 else 0) + E * 2 ^ 52 + f ∧ 1 ≤ E ∧ E ≤ 2046 ∧ f < 2 ^ 52 ∧ v = dv s (2 ^ 52 + f) ((E : Int) - 1075) := by
  obtain ⟨hw, s, m, i, h1, h2⟩ := h
  have e1 : double.signWeight = 2 ^ 63 := by decide
  have e2 : double.binade = 2 ^ 52 := by decide
  have e3 : double.infRung = 2047 * 2 ^ 52 := by decide
  have e4 : double.leastPlace = -1074 := by decide
  unfold Format.read at h1
  simp only [e1, e2, e3, e4] at h1
  split at h1
  · exfalso
    rename_i hlt
    injection h1 with g1 g2 g3
    subst g3
    rw [← h2, dv_abs] at hv
    have h5 : (m : Rat) < ((2 ^ 52 : Nat) : Rat) := nat_cast_lt (by omega)
    have h6 := Rat.mul_lt_mul_of_pos_right h5 (p2_pos (-1074))
    have h7 : (2 : Rat) ^ (52 : Int) = ((2 ^ 52 : Nat) : Rat) := p2_nat 52
    rw [← h7, ← p2_add, show (52 + -1074 : Int) = -1022 by decide] at h6
    grind
  · split at h1
    · rename_i hge hlt
      injection h1 with g1 g2 g3
      refine ⟨s, y % 2 ^ 63 / 2 ^ 52, y % 2 ^ 63 % 2 ^ 52, ?_, by omega, by omega, Nat.mod_lt _ (by decide), ?_⟩
      · have hs : (y / 2 ^ 63 % 2 == 1) = s := g1
        cases s
        · simp only [Bool.false_eq_true, if_false]
          have : ¬ (y / 2 ^ 63 % 2 = 1) := by simpa using hs
          omega
        · simp only [if_true]
          have : y / 2 ^ 63 % 2 = 1 := by simpa using hs
          omega
      · rw [← h2, ← g2, ← g3]
        congr 1
        omega
    · split at h1 <;> cases h1

theorem fields_is {s : Bool} {E f : Nat} (h1 : 1 ≤ E) (h2 : E ≤ 2046) (hf : f < 2 ^ 52) : Is ((if s then 2 ^ 63 else 0) + E * 2 ^ 52 + f) (dv s (2 ^ 52 + f) ((E : Int) - 1075)) := by
  have := is_rung (s := s) (t := E - 1) (k := 2 ^ 52 + f) (by omega) (.inr (by omega)) (by omega)
  have e1 : double.signWeight = 2 ^ 63 := by decide
  have e : double.word s ((E - 1) * 2 ^ 52 + (2 ^ 52 + f)) = (if s then 2 ^ 63 else 0) + E * 2 ^ 52 + f := by
    unfold Format.word
    rw [e1]
    have : (E - 1) * 2 ^ 52 + (2 ^ 52 + f) = E * 2 ^ 52 + f := by omega
    cases s
    · simp only [Bool.false_eq_true, if_false]; omega
    · simp only [if_true]; omega
  rw [e, show (-1074 + ((E - 1 : Nat) : Int)) = (E : Int) - 1075 by omega] at this
  exact this

/-! ### Whole numbers of 64 bits -/
theorem wrapI {n : Int} (h1 : -9223372036854775808 ≤ n) (h2 : n < 9223372036854775808) : IntKind.i64.wrap n = n := by
  unfold IntKind.wrap
  simp [IntKind.bits, IntKind.signed]
  split <;> omega
theorem wrapU {n : Int} (h1 : 0 ≤ n) (h2 : n < 18446744073709551616) : IntKind.u64.wrap n = n := by
  unfold IntKind.wrap
  simp only [IntKind.bits, IntKind.signed, Bool.false_and, Bool.false_eq_true, if_false]
  omega

theorem bv_nat (a : Nat) (h : a < 2 ^ 64) : (BitVec.ofInt 64 (a : Int)).toNat = a := by
  have : BitVec.ofInt 64 (a : Int) = BitVec.ofNat 64 a := by simp
  rw [this, BitVec.toNat_ofNat]
  exact Nat.mod_eq_of_lt h

theorem andU_eq {a b : Nat} (ha : a < 2 ^ 64) (hb : b < 2 ^ 64) : andU a b = ((a &&& b : Nat) : Int) := by
  unfold andU
  rw [BitVec.toNat_and, bv_nat a ha, bv_nat b hb]
  have : a &&& b ≤ a := Nat.and_le_left
  exact wrapU (by omega) (by omega)
theorem andI_eq {a b : Nat} (ha : a < 2 ^ 63) (hb : b < 2 ^ 64) : andI a b = ((a &&& b : Nat) : Int) := by
  unfold andI
  rw [BitVec.toNat_and, bv_nat a (by omega), bv_nat b hb]
  have : a &&& b ≤ a := Nat.and_le_left
  exact wrapI (by omega) (by omega)
theorem orU_eq {a b : Nat} (ha : a < 2 ^ 64) (hb : b < 2 ^ 64) : orU a b = ((a ||| b : Nat) : Int) := by
  unfold orU
  rw [BitVec.toNat_or, bv_nat a ha, bv_nat b hb]
  have : a ||| b < 2 ^ 64 := Nat.or_lt_two_pow ha hb
  exact wrapU (by omega) (by omega)
theorem andNotU_eq {a b : Nat} (ha : a < 2 ^ 64) (hb : b < 2 ^ 64) : andNotU a b = ((a &&& (2 ^ 64 - 1 - b) : Nat) : Int) := by
  unfold andNotU
  rw [BitVec.toNat_and, BitVec.toNat_not, bv_nat a ha, bv_nat b hb]
  have : a &&& (2 ^ 64 - 1 - b) ≤ a := Nat.and_le_left
  exact wrapU (by omega) (by omega)

theorem shrU_eq {y : Nat} : shrU y 52 = ((y / 2 ^ 52 : Nat) : Int) := by
  unfold shrU
  have : (2 : Int) ^ min (52 : Int).toNat IntKind.u64.bits = 4503599627370496 := by decide
  rw [this]
  have h : (2 : Nat) ^ 52 = 4503599627370496 := by decide
  rw [h, Int.fdiv_eq_ediv_of_nonneg _ (by decide)]
  omega
theorem shlU_eq {n : Nat} (h : n < 2 ^ 12) : shlU n 52 = ((n * 2 ^ 52 : Nat) : Int) := by
  unfold shlU
  have : (2 : Int) ^ min (52 : Int).toNat IntKind.u64.bits = 4503599627370496 := by decide
  rw [this]
  have h2 : (2 : Nat) ^ 52 = 4503599627370496 := by decide
  rw [h2]
  rw [wrapU (by omega) (by omega)]
  omega
end Go.Vm
namespace Go.Vm
open Ieee
set_option linter.unusedVariables false
set_option linter.unusedSimpArgs false

theorem gtF_is {a b : Nat} {x y : Rat} (ha : Is a x) (hb : Is b y) : gtF a b = decide (y < x) := by
  unfold gtF
  rw [order_is ha hb]
  by_cases h1 : x < y
  · have : ¬ y < x := by grind
    simp [h1, this]
  · by_cases h2 : x = y
    · subst h2; simp [h1]
    · have : y < x := by grind
      simp [h1, h2, this]
theorem ltF_is {a b : Nat} {x y : Rat} (ha : Is a x) (hb : Is b y) : ltF a b = decide (x < y) := by
  unfold ltF
  rw [order_is ha hb]
  by_cases h1 : x < y
  · simp [h1]
  · by_cases h2 : x = y
    · subst h2; simp [h1]
    · simp [h1, h2]
theorem geF_is {a b : Nat} {x y : Rat} (ha : Is a x) (hb : Is b y) : geF a b = decide (y ≤ x) := by
  unfold geF
  rw [order_is ha hb]
  by_cases h1 : x < y
  · have : ¬ y ≤ x := by grind
    simp [h1, this]
  · by_cases h2 : x = y
    · subst h2; simp [h1]
    · have : y ≤ x := by grind
      simp [h1, h2, this]

theorem int_abs (K : Int) : ((K : Rat)).abs = ((K.natAbs : Nat) : Rat) := by
  have := dv_abs (decide (K < 0)) K.natAbs 0
  rw [int_dv K (decide (K < 0)) 0 fun _ => rfl] at this
  simpa using this

theorem p2_abs (q : Int) : ((2 : Rat) ^ q).abs = (2 : Rat) ^ q := Rat.abs_of_nonneg (Rat.le_of_lt (p2_pos q))

theorem is_max : Is 9218868437227405311 (((2 ^ 53 - 1 : Nat) : Rat) * (2 : Rat) ^ (971 : Int)) := by
  refine ⟨by decide, false, 2 ^ 53 - 1, 971, by decide, ?_⟩
  unfold dv sg
  rw [if_neg (by decide), Rat.one_mul]

theorem abs_le_max {a : Nat} {x : Rat} (h : Is a x) : x.abs ≤ ((2 ^ 53 - 1 : Nat) : Rat) * (2 : Rat) ^ (971 : Int) := by
  obtain ⟨K, q, h1, h2, h3, rfl⟩ := is_rep h
  rw [abs_mul, int_abs, p2_abs]
  have f1 : ((K.natAbs : Nat) : Rat) ≤ ((2 ^ 53 - 1 : Nat) : Rat) := nat_cast_le (by omega)
  have f2 := Rat.mul_le_mul_of_nonneg_right f1 (Rat.le_of_lt (p2_pos q))
  have f3 := Rat.mul_le_mul_of_nonneg_left (p2_le h3) (show (0 : Rat) ≤ ((2 ^ 53 - 1 : Nat) : Rat) by exact_mod_cast Nat.zero_le _)
  exact Rat.le_trans f2 f3

def isInfK : KFB := isInfB absK
def finiteK : KFB := finiteB absK
def FiniteK : KCB := FiniteB finiteK
def normK : KFFI := normB absK
def frexpK : KFFI := frexpB fiReal isInfK isNanK normK
def ldexpK : KFIF := ldexpB fiReal copyK isInfK isNanK normK
def scaleK : KFIF := scaleB ldexpK
def greatestK : KCF := greatestB absK
def scaledK : KCCI := scaledB greatestK frexpK scaleK
def sqrtK : KFF := fun R a k => bindF (double.sqrt a) k
def lengthK : KCF := lengthB isInfK isNanK greatestK scaledK squareK sqrtK scaleK
def nearK : KCCFB := nearB subK lengthK
def divK : KCCC := divB absK

theorem isInfK_no {a : Nat} {x : Rat} (h : Is a x) {R : Type} (k : Bool → Option R) : isInfK R a k = k false := by
  show forceB (gtF (absW a) 9218868437227405311) (fun t => k t) = k false
  rw [forceB_eq, gtF_is (abs_is h) is_max]
  have := abs_le_max h
  have : ¬ (((2 ^ 53 - 1 : Nat) : Rat) * (2 : Rat) ^ (971 : Int) < x.abs) := by grind
  simp only [this, decide_false]
theorem isNanK_no {a : Nat} {x : Rat} (h : Is a x) {R : Type} (k : Bool → Option R) : isNanK R a k = k false := by
  unfold isNanK
  rw [forceB_eq, neF_is h h]
  simp
theorem finiteK_yes {a : Nat} {x : Rat} (h : Is a x) {R : Type} (k : Bool → Option R) : finiteK R a k = k true := by
  show forceB (leF (absW a) 9218868437227405311) (fun t => k t) = k true
  rw [forceB_eq, leF_is (abs_is h) is_max]
  simp only [abs_le_max h, decide_true]
theorem FiniteK_yes {a b : Nat} {x y : Rat} (h : Is a x) (g : Is b y) {R : Type} (k : Bool → Option R) : FiniteK R a b k = k true := by
  unfold FiniteK FiniteB
  rw [finiteK_yes h, forceB_eq]
  simp only
  rw [finiteK_yes g]
  simp only [forceB_eq]

theorem is_least : Is 4503599627370496 ((2 : Rat) ^ (-1022 : Int)) := by
  have := fields_is (s := false) (E := 1) (f := 0) (by decide) (by decide) (by decide)
  have e : dv false (2 ^ 52 + 0) (((1 : Nat) : Int) - 1075) = (2 : Rat) ^ (-1022 : Int) := by
    unfold dv sg
    rw [if_neg (by decide), Rat.one_mul, Nat.add_zero, ← p2_nat, ← p2_add]
    rfl
  rw [e] at this
  exact this
theorem is_p52 : Is 4841369599423283200 ((2 : Rat) ^ (52 : Int)) := by
  have := fields_is (s := false) (E := 1075) (f := 0) (by decide) (by decide) (by decide)
  have e : dv false (2 ^ 52 + 0) (((1075 : Nat) : Int) - 1075) = (2 : Rat) ^ (52 : Int) := by
    unfold dv sg
    rw [if_neg (by decide), Rat.one_mul, Nat.add_zero, ← p2_nat, ← p2_add]
    rfl
  rw [e] at this
  exact this
theorem is_m53 : Is 4368491638549381120 ((2 : Rat) ^ (-53 : Int)) := by
  have := fields_is (s := false) (E := 970) (f := 0) (by decide) (by decide) (by decide)
  have e : dv false (2 ^ 52 + 0) (((970 : Nat) : Int) - 1075) = (2 : Rat) ^ (-53 : Int) := by
    unfold dv sg
    rw [if_neg (by decide), Rat.one_mul, Nat.add_zero, ← p2_nat, ← p2_add]
    rfl
  rw [e] at this
  exact this
theorem is_one : Is 4607182418800017408 1 := by
  have := fields_is (s := false) (E := 1023) (f := 0) (by decide) (by decide) (by decide)
  have e : dv false (2 ^ 52 + 0) (((1023 : Nat) : Int) - 1075) = 1 := by
    unfold dv sg
    rw [if_neg (by decide), Rat.one_mul, Nat.add_zero, ← p2_nat, ← p2_add]
    exact Rat.zpow_zero 2
  rw [e] at this
  exact this

theorem p2_cancel (q : Int) : (2 : Rat) ^ q * (2 : Rat) ^ (-q) = 1 := by rw [← p2_add, show q + -q = 0 by omega, Rat.zpow_zero]

theorem normK_def {R : Type} (a : Nat) (k : Nat → Int → Option R) : normK R a k = forceB (ltF (absW a) 4503599627370496) fun t => match t with
  | true => bindF (fbF .mul a 4841369599423283200) fun y => k y (-52)
  | false => k a 0 := rfl

theorem normK_is {a : Nat} {x : Rat} (h : Is a x) (hx : x ≠ 0) : ∃ (y : Nat) (e : Int), (e = 0 ∨ e = -52) ∧ Is y (x * (2 : Rat) ^ (-e)) ∧ (2 : Rat) ^ (-1022 : Int) ≤ (x * (2 : Rat) ^ (-e)).abs ∧
    ∀ (R : Type) (k : Nat → Int → Option R), normK R a k = k y e := by
  by_cases hs : x.abs < (2 : Rat) ^ (-1022 : Int)
  · obtain ⟨K, q, k1, k2, k3, hK⟩ := is_rep h
    have hlt : (x * (2 : Rat) ^ (52 : Int)).abs < (2 : Rat) ^ (1023 : Int) := by
      rw [abs_mul, p2_abs]
      have := Rat.mul_lt_mul_of_pos_right hs (p2_pos 52)
      rw [← p2_add] at this
      have h2 := p2_le (show (-1022 + 52 : Int) ≤ 1023 by decide)
      grind
    obtain ⟨y, z, e1, e2, e3⟩ := mul_is h is_p52 hlt
    have hz : z = x * (2 : Rat) ^ (52 : Int) := e3.rep K (q + 52) k1 (by omega) (by rw [hK, p2_add]; grind)
    rw [hz] at e2
    refine ⟨y, -52, .inr rfl, by simpa using e2, ?_, fun R k => ?_⟩
    · -- at least one unit
      have hK0 : 1 ≤ K.natAbs := by
        rcases Nat.eq_zero_or_pos K.natAbs with h0 | h0
        · have : K = 0 := by omega
          subst this
          exact absurd (by rw [hK]; simp) hx
        · exact h0
      have f1 : ((1 : Nat) : Rat) ≤ ((K.natAbs : Nat) : Rat) := nat_cast_le hK0
      have f2 := Rat.mul_le_mul_of_nonneg_right f1 (Rat.le_of_lt (p2_pos q))
      rw [show (-(-52 : Int)) = 52 by decide, abs_mul, p2_abs, hK, abs_mul, int_abs, p2_abs]
      have f3 := Rat.mul_le_mul_of_nonneg_right f2 (Rat.le_of_lt (p2_pos 52))
      have f4 : ((1 : Nat) : Rat) * (2 : Rat) ^ q * (2 : Rat) ^ (52 : Int) = (2 : Rat) ^ (q + 52) := by rw [p2_add]; simp
      rw [f4] at f3
      exact Rat.le_trans (p2_le (by omega)) f3
    · rw [normK_def, forceB_eq, ltF_is (abs_is h) is_least]
      simp only [hs, decide_true]
      rw [bindF_eq e1]
  · refine ⟨a, 0, .inl rfl, by simpa using h, ?_, fun R k => ?_⟩
    · simp only [Int.neg_zero, Rat.zpow_zero, Rat.mul_one]
      grind
    · rw [normK_def, forceB_eq, ltF_is (abs_is h) is_least]
      simp only [hs, decide_false]

theorem expo_eq {s : Bool} {E f : Nat} (hE : E ≤ 2046) (hf : f < 2 ^ 52) : andU (shrU ((((if s then 2 ^ 63 else 0) + E * 2 ^ 52 + f : Nat)) : Int) 52) 2047 = (E : Int) := by
  have h1 : ((if s then 2 ^ 63 else 0) + E * 2 ^ 52 + f) / 2 ^ 52 = (if s then 2048 else 0) + E := by
    cases s
    · simp only [Bool.false_eq_true, if_false]; omega
    · simp only [if_true]; omega
  rw [shrU_eq, h1]
  have h2 := andU_eq (a := (if s then 2048 else 0) + E) (b := 2047) (by split <;> omega) (by decide)
  have h3 : ((if s then 2048 else 0) + E) &&& 2047 = E := by
    have := Nat.and_two_pow_sub_one_eq_mod ((if s then 2048 else 0) + E) 11
    rw [show 2 ^ 11 - 1 = 2047 by decide] at this
    rw [this]
    cases s
    · simp only [Bool.false_eq_true, if_false]; omega
    · simp only [if_true]; omega
  rw [h3] at h2
  exact h2

theorem dv_band {s : Bool} {E f : Nat} (hf : f < 2 ^ 52) : (2 : Rat) ^ ((E : Int) - 1023) ≤ (dv s (2 ^ 52 + f) ((E : Int) - 1075)).abs ∧ (dv s (2 ^ 52 + f) ((E : Int) - 1075)).abs < (2 : Rat) ^ ((E : Int) - 1022) := by
  rw [dv_abs]
  have h1 : ((2 ^ 52 : Nat) : Rat) ≤ ((2 ^ 52 + f : Nat) : Rat) := nat_cast_le (by omega)
  have h2 : ((2 ^ 52 + f : Nat) : Rat) < ((2 ^ 53 : Nat) : Rat) := nat_cast_lt (by omega)
  have e1 : (2 : Rat) ^ ((52 : Nat) : Int) = ((2 ^ 52 : Nat) : Rat) := p2_nat 52
  have e2 : (2 : Rat) ^ ((53 : Nat) : Int) = ((2 ^ 53 : Nat) : Rat) := p2_nat 53
  have g1 := Rat.mul_le_mul_of_nonneg_right h1 (Rat.le_of_lt (p2_pos ((E : Int) - 1075)))
  have g2 := Rat.mul_lt_mul_of_pos_right h2 (p2_pos ((E : Int) - 1075))
  rw [← e1, ← p2_add, show ((52 : Nat) : Int) + ((E : Int) - 1075) = (E : Int) - 1023 by omega] at g1
  rw [← e2, ← p2_add, show ((53 : Nat) : Int) + ((E : Int) - 1075) = (E : Int) - 1022 by omega] at g2
  exact ⟨g1, g2⟩

/-- The power of two just above. -/
theorem frexpK_is {a : Nat} {x : Rat} (h : Is a x) (hx : x ≠ 0) : ∃ (w : Nat) (n : Int), (2 : Rat) ^ (n - 1) ≤ x.abs ∧ x.abs < (2 : Rat) ^ n ∧ -1100 ≤ n ∧ n ≤ 1024 ∧
    ∀ (R : Type) (k : Nat → Int → Option R), frexpK R a k = k w n := by
  obtain ⟨y, e, he, hy, hn, hk⟩ := normK_is h hx
  obtain ⟨s, E, f, rfl, b1, b2, b3, hv⟩ := normal_fields hy hn
  obtain ⟨d1, d2⟩ := dv_band (s := s) (E := E) b3
  rw [← hv, abs_mul, p2_abs] at d1 d2
  refine ⟨(orU (andNotU ((((if s then 2 ^ 63 else 0) + E * 2 ^ 52 + f : Nat)) : Int) 9218868437227405312) 4602678819172646912).toNat, e + (E - 1022), ?_, ?_, by omega, by omega, fun R k => ?_⟩
  · have := Rat.mul_le_mul_of_nonneg_right d1 (Rat.le_of_lt (p2_pos e))
    rw [← p2_add, Rat.mul_assoc, Rat.mul_comm ((2 : Rat) ^ (-e)), p2_cancel, Rat.mul_one, show (E : Int) - 1023 + e = e + (E - 1022) - 1 by omega] at this
    exact this
  · have := Rat.mul_lt_mul_of_pos_right d2 (p2_pos e)
    rw [← p2_add, Rat.mul_assoc, Rat.mul_comm ((2 : Rat) ^ (-e)), p2_cancel, Rat.mul_one, show (E : Int) - 1022 + e = e + (E - 1022) by omega] at this
    exact this
  · unfold frexpK frexpB
    have h0 : ¬ (x = ((0 : Int) : Rat)) := by simpa using hx
    rw [forceB_eq, eqF_is h is_zero]
    simp only [h0, decide_false]
    rw [isInfK_no h, forceB_eq]
    simp only
    rw [isNanK_no h, forceB_eq]
    simp only
    rw [hk]
    unfold frexpTail expoOf
    rw [expo_eq b2 b3]
    simp only [fiReal_fair R]
    rw [wrapI (n := (E : Int)) (by omega) (by omega), wrapI (n := (E : Int) - 1023) (by omega) (by omega), wrapI (n := (E : Int) - 1023 + 1) (by omega) (by omega)]
    rw [show (E : Int) - 1023 + 1 = (E : Int) - 1022 by omega, wrapI (by omega) (by omega)]
end Go.Vm
namespace Go.Vm
open Ieee
set_option linter.unusedVariables false
set_option linter.unusedSimpArgs false

theorem and_two_pow' (y i : Nat) : y &&& 2 ^ i = (y.testBit i).toNat * 2 ^ i := by
  apply Nat.eq_of_testBit_eq
  intro j
  rw [Nat.testBit_and, Nat.testBit_two_pow]
  by_cases h : i = j
  · subst h
    cases y.testBit i
    · simp
    · simp [Nat.testBit_two_pow_self]
  · cases y.testBit i
    · simp [h]
    · simp [Nat.testBit_two_pow, h]

theorem strip_eq {s : Bool} {E f : Nat} (hE : E ≤ 2046) (hf : f < 2 ^ 52) : andNotU ((((if s then 2 ^ 63 else 0) + E * 2 ^ 52 + f : Nat)) : Int) 9218868437227405312 = (((if s then 2 ^ 63 else 0) + f : Nat) : Int) := by
  have hlt : (if s then 2 ^ 63 else 0) + E * 2 ^ 52 + f < 2 ^ 64 := by split <;> omega
  have h1 := andNotU_eq (a := (if s then 2 ^ 63 else 0) + E * 2 ^ 52 + f) (b := 9218868437227405312) hlt (by decide)
  have hm : 2 ^ 64 - 1 - 9218868437227405312 = 2 ^ 63 ||| (2 ^ 52 - 1) := by decide
  rw [hm, Nat.and_or_distrib_left, Nat.and_two_pow_sub_one_eq_mod, and_two_pow'] at h1
  have h2 : ((if s then 2 ^ 63 else 0) + E * 2 ^ 52 + f).testBit 63 = s := by
    rw [Nat.testBit_eq_decide_div_mod_eq]
    cases s
    · simp only [Bool.false_eq_true, if_false]
      have : (0 + E * 2 ^ 52 + f) / 2 ^ 63 % 2 = 0 := by omega
      rw [this]; rfl
    · simp only [if_true]
      have : (2 ^ 63 + E * 2 ^ 52 + f) / 2 ^ 63 % 2 = 1 := by omega
      rw [this]; rfl
  have h3 : ((if s then 2 ^ 63 else 0) + E * 2 ^ 52 + f) % 2 ^ 52 = f := by
    cases s
    · simp only [Bool.false_eq_true, if_false]; omega
    · simp only [if_true]; omega
  rw [h2, h3] at h1
  rw [show ((9218868437227405312 : Nat) : Int) = 9218868437227405312 by rfl] at h1
  rw [h1]
  congr 1
  cases s
  · simp
  · simp only [Bool.toNat_true, Nat.one_mul, if_true]
    have := Nat.two_pow_add_eq_or_of_lt (i := 63) (b := f) (by omega) 1
    rw [Nat.mul_one] at this
    exact this.symm

theorem lay_eq {s : Bool} {E f : Nat} (hE : E ≤ 2047) (hf : f < 2 ^ 52) : (orU ((((if s then 2 ^ 63 else 0) + f : Nat)) : Int) ((E * 2 ^ 52 : Nat) : Int)).toNat = (if s then 2 ^ 63 else 0) + E * 2 ^ 52 + f := by
  rw [orU_eq (by split <;> omega) (by omega), Int.toNat_natCast]
  have h1 : ((if s then 2 ^ 63 else 0) + f) = 2 ^ 52 * (if s then 2 ^ 11 else 0) ||| f := by
    rw [← Nat.two_pow_add_eq_or_of_lt hf]
    cases s
    · simp
    · simp only [if_true]
  have h2 : 2 ^ 52 * (if s then 2 ^ 11 else 0) ||| E * 2 ^ 52 = 2 ^ 52 * ((if s then 2 ^ 11 else 0) + E) := by
    have g1 : (if s then 2 ^ 11 else 0) + E = (if s then 2 ^ 11 else 0) ||| E := by
      cases s
      · simp
      · simp only [if_true]
        have := Nat.two_pow_add_eq_or_of_lt (i := 11) (b := E) (by omega) 1
        rwa [Nat.mul_one] at this
    rw [g1]
    generalize (if s then 2 ^ 11 else 0) = t
    rw [Nat.mul_comm (2 ^ 52) t, Nat.mul_comm (2 ^ 52)]
    have := @Nat.shiftLeft_or_distrib 52 t E
    simp only [Nat.shiftLeft_eq] at this
    exact this.symm
  rw [h1, Nat.or_assoc, Nat.or_comm f, ← Nat.or_assoc, h2, ← Nat.two_pow_add_eq_or_of_lt hf]
  cases s
  · simp only [Bool.false_eq_true, if_false]; omega
  · simp only [if_true]; omega

theorem copy_zero {y : Nat} (hy : y < 2 ^ 64) : ∃ w, Is w 0 ∧ ∀ (R : Type) (k : Nat → Option R), copyK R 0 y k = k w := by
  have h0 : andNotU 0 9223372036854775808 = 0 := by decide
  have h1 := andU_eq (a := y) (b := 9223372036854775808) hy (by decide)
  rw [show ((9223372036854775808 : Nat) : Int) = 9223372036854775808 by rfl] at h1
  have h2 : y &&& 9223372036854775808 = (y.testBit 63).toNat * 2 ^ 63 := by
    rw [show (9223372036854775808 : Nat) = 2 ^ 63 by decide, and_two_pow']
  refine ⟨(y.testBit 63).toNat * 2 ^ 63, ?_, fun R k => ?_⟩
  · cases y.testBit 63
    · simp only [Bool.toNat_false, Nat.zero_mul]
      exact ⟨by decide, false, 0, -1074, by decide, dv_zero _ _⟩
    · simp only [Bool.toNat_true, Nat.one_mul]
      exact ⟨by decide, true, 0, -1074, by decide, dv_zero _ _⟩
  · unfold copyK
    have h3 := orU_eq (a := 0) (b := (y.testBit 63).toNat * 2 ^ 63) (by decide) (by cases y.testBit 63 <;> decide)
    show k (orU (andNotU ((0 : Nat) : Int) 9223372036854775808) (andU y 9223372036854775808)).toNat = _
    rw [h1, h2]
    rw [show (andNotU ((0 : Nat) : Int) 9223372036854775808) = ((0 : Nat) : Int) from h0, h3, Int.toNat_natCast, Nat.zero_or]

theorem clampI_eq {n : Int} (h1 : -5000 ≤ n) (h2 : n ≤ 5000) : clampI n = n := by
  unfold clampI
  split <;> split <;> omega

/-- A word times a power of two, rounded once. -/
theorem scaleK_is {a : Nat} {x : Rat} {n : Int} (h : Is a x) (hn1 : -5000 ≤ n) (hn2 : n ≤ 5000) (hlt : (x * (2 : Rat) ^ n).abs < (2 : Rat) ^ (1023 : Int)) :
    ∃ r z, Is r z ∧ Rnd (x * (2 : Rat) ^ n) z ∧ ∀ (R : Type) (k : Nat → Option R), scaleK R a n k = k r := by
  have hdef : ∀ (R : Type) (k : Nat → Option R), scaleK R a n k = ldexpK R a n k := fun R k => by
    show ldexpK R a (clampI n) k = _
    rw [clampI_eq hn1 hn2]
  by_cases hx : x = 0
  · subst hx
    refine ⟨a, 0, h, ⟨.inl ?_, fun K q _ _ e => ?_⟩, fun R k => ?_⟩
    · rw [Rat.zero_mul, Rat.sub_self, abs_zero]; simp
    · exact (Rat.zero_mul _).symm
    · rw [hdef]
      unfold ldexpK ldexpB
      rw [forceB_eq, eqF_is h is_zero]
      simp
  · obtain ⟨y, e, he, hy, hnn, hk⟩ := normK_is h hx
    have hyw := hy.1
    obtain ⟨s, E, f, rfl, b1, b2, b3, hv⟩ := normal_fields hy hnn
    obtain ⟨d1, d2⟩ := dv_band (s := s) (E := E) b3
    have hx0 : ¬ (x = ((0 : Int) : Rat)) := by simpa using hx
    -- the exponent
    have hxe : x * (2 : Rat) ^ n = dv s (2 ^ 52 + f) ((E : Int) - 1075) * (2 : Rat) ^ (n + e) := by
      rw [← hv, Rat.mul_assoc, ← p2_add]
      congr 2
      omega
    have hdv : ∀ j : Int, dv s (2 ^ 52 + f) ((E : Int) - 1075) * (2 : Rat) ^ j = dv s (2 ^ 52 + f) ((E : Int) - 1075 + j) := fun j => by
      unfold dv; rw [p2_add]; grind
    have hlo : (2 : Rat) ^ (n + e + E - 1023) ≤ (x * (2 : Rat) ^ n).abs := by
      rw [hxe, abs_mul, p2_abs]
      have := Rat.mul_le_mul_of_nonneg_right d1 (Rat.le_of_lt (p2_pos (n + e)))
      rw [← p2_add, show (E : Int) - 1023 + (n + e) = n + e + E - 1023 by omega] at this
      exact this
    have hhi : (x * (2 : Rat) ^ n).abs < (2 : Rat) ^ (n + e + E - 1022) := by
      rw [hxe, abs_mul, p2_abs]
      have := Rat.mul_lt_mul_of_pos_right d2 (p2_pos (n + e))
      rw [← p2_add, show (E : Int) - 1022 + (n + e) = n + e + E - 1022 by omega] at this
      exact this
    have hex : n + e + E - 1023 < 1023 := p2_lt_of (by grind)
    have hgo : ∀ (R : Type) (k : Nat → Option R), scaleK R a n k = ldexpTail fiReal copyK ((if s then 2 ^ 63 else 0) + E * 2 ^ 52 + f) e n k := fun R k => by
      rw [hdef]
      unfold ldexpK ldexpB
      rw [forceB_eq, eqF_is h is_zero]
      simp only [hx0, decide_false]
      rw [isInfK_no h, forceB_eq]
      simp only
      rw [isNanK_no h, forceB_eq]
      simp only
      rw [hk]
    have hexpo : IntKind.i64.wrap (andI (IntKind.i64.wrap (shrU ((((if s then 2 ^ 63 else 0) + E * 2 ^ 52 + f : Nat)) : Int) 52)) 2047 - 1023) = (E : Int) - 1023 := by
      have h1 : ((if s then 2 ^ 63 else 0) + E * 2 ^ 52 + f) / 2 ^ 52 = (if s then 2048 else 0) + E := by
        cases s
        · simp only [Bool.false_eq_true, if_false]; omega
        · simp only [if_true]; omega
      rw [shrU_eq, h1, wrapI (n := (((if s then 2048 else 0) + E : Nat) : Int)) (by split <;> omega) (by split <;> omega)]
      have h2 := andI_eq (a := (if s then 2048 else 0) + E) (b := 2047) (by split <;> omega) (by decide)
      have h3 : ((if s then 2048 else 0) + E) &&& 2047 = E := by
        have := Nat.and_two_pow_sub_one_eq_mod ((if s then 2048 else 0) + E) 11
        rw [show 2 ^ 11 - 1 = 2047 by decide] at this
        rw [this]
        cases s
        · simp only [Bool.false_eq_true, if_false]; omega
        · simp only [if_true]; omega
      rw [h3, show ((2047 : Nat) : Int) = 2047 by rfl] at h2
      rw [h2, wrapI (by omega) (by omega)]
    have htail : ∀ (R : Type) (k : Nat → Option R), ldexpTail fiReal copyK ((if s then 2 ^ 63 else 0) + E * 2 ^ 52 + f) e n k =
        if n + e + E - 1023 < -1075 then copyK R 0 ((if s then 2 ^ 63 else 0) + E * 2 ^ 52 + f) k
        else if n + e + E - 1023 < -1022 then ldexpEnd fiReal ((if s then 2 ^ 63 else 0) + E * 2 ^ 52 + f) (n + e + E - 970) 4368491638549381120 k
        else ldexpEnd fiReal ((if s then 2 ^ 63 else 0) + E * 2 ^ 52 + f) (n + e + E - 1023) 4607182418800017408 k := fun R k => by
      unfold ldexpTail
      simp only [fiReal_fair R]
      rw [hexpo, wrapI (n := n + e) (by omega) (by omega), wrapI (n := n + e + ((E : Int) - 1023)) (by omega) (by omega)]
      rw [show n + e + ((E : Int) - 1023) = n + e + E - 1023 by omega]
      simp only [forceB_eq]
      by_cases c1 : n + e + E - 1023 < -1075
      · simp [c1]
      · have c2 : ¬ (n + e + E - 1023 > 1023) := by omega
        by_cases c3 : n + e + E - 1023 < -1022
        · simp only [c1, c2, c3, decide_false, decide_true, if_false, if_true]
          rw [wrapI (by omega) (by omega), show n + e + (E : Int) - 1023 + 53 = n + e + E - 970 by omega]
        · simp only [c1, c2, c3, decide_false, if_false]
    have hend : ∀ (ex : Int) (m : Nat) (R : Type) (k : Nat → Option R), -1022 ≤ ex → ex ≤ 1023 → ldexpEnd fiReal ((if s then 2 ^ 63 else 0) + E * 2 ^ 52 + f) ex m k =
        bindF (fbF .mul m ((if s then 2 ^ 63 else 0) + (ex + 1023).toNat * 2 ^ 52 + f)) k := fun ex m R k g1 g2 => by
      unfold ldexpEnd
      simp only [fiReal_fair R]
      rw [wrapI (by omega) (by omega), wrapU (by omega) (by omega), strip_eq b2 b3]
      obtain ⟨t, ht⟩ := Int.eq_ofNat_of_zero_le (show 0 ≤ ex + 1023 by omega)
      rw [ht, shlU_eq (by omega), lay_eq (by omega) b3, Int.toNat_natCast]
    by_cases c1 : n + e + E - 1023 < -1075
    · obtain ⟨w, g1, g2⟩ := copy_zero hyw
      have hsm : (x * (2 : Rat) ^ n).abs < (2 : Rat) ^ (-1075 : Int) := by
        have := p2_le (show n + e + E - 1022 ≤ -1075 by omega)
        grind
      refine ⟨w, 0, g1, ⟨.inr ?_, fun K q k1 k2 k3 => ?_⟩, fun R k => by rw [hgo, htail, if_pos c1, g2]⟩
      · rw [show (0 : Rat) - x * (2 : Rat) ^ n = -(x * (2 : Rat) ^ n) by grind, abs_neg]
        grind
      · rw [k3, abs_mul, int_abs, p2_abs] at hsm
        have hK : K.natAbs = 0 := by
          rcases Nat.eq_zero_or_pos K.natAbs with h0 | h0
          · exact h0
          · exfalso
            have f1 : ((1 : Nat) : Rat) ≤ ((K.natAbs : Nat) : Rat) := nat_cast_le h0
            have f2 := Rat.mul_le_mul_of_nonneg_right f1 (Rat.le_of_lt (p2_pos q))
            have f3 := p2_le (show (-1075 : Int) ≤ q by omega)
            have f4 : ((1 : Nat) : Rat) * (2 : Rat) ^ q = (2 : Rat) ^ q := by simp
            grind
        have : K = 0 := by omega
        rw [k3, this]
        simp
    · by_cases c3 : n + e + E - 1023 < -1022
      · have hw := fields_is (s := s) (E := (n + e + E - 970 + 1023).toNat) (f := f) (by omega) (by omega) b3
        have hval : (2 : Rat) ^ (-53 : Int) * dv s (2 ^ 52 + f) ((((n + e + E - 970 + 1023).toNat : Nat) : Int) - 1075) = x * (2 : Rat) ^ n := by
          rw [hxe, hdv, Rat.mul_comm]
          unfold dv
          rw [Rat.mul_assoc, Rat.mul_assoc, ← p2_add]
          congr 3
          omega
        obtain ⟨r, z, m1, m2, m3⟩ := mul_is is_m53 hw (by rw [hval]; exact hlt)
        rw [hval] at m3
        exact ⟨r, z, m2, m3, fun R k => by rw [hgo, htail, if_neg c1, if_pos c3, hend _ _ R k (by omega) (by omega), bindF_eq m1]⟩
      · have hw := fields_is (s := s) (E := (n + e + E - 1023 + 1023).toNat) (f := f) (by omega) (by omega) b3
        have hval : 1 * dv s (2 ^ 52 + f) ((((n + e + E - 1023 + 1023).toNat : Nat) : Int) - 1075) = x * (2 : Rat) ^ n := by
          rw [hxe, hdv, Rat.one_mul]
          congr 1
          omega
        obtain ⟨r, z, m1, m2, m3⟩ := mul_is is_one hw (by rw [hval]; exact hlt)
        rw [hval] at m3
        exact ⟨r, z, m2, m3, fun R k => by rw [hgo, htail, if_neg c1, if_neg c3, hend _ _ R k (by omega) (by omega), bindF_eq m1]⟩
end Go.Vm
namespace Go.Vm
open Ieee
set_option linter.unusedVariables false
set_option linter.unusedSimpArgs false

theorem sq_le {x m : Rat} (h : x.abs ≤ m) : x * x ≤ m * m := by
  obtain ⟨h1, h2⟩ := abs_le_iff.1 h
  have := Rat.mul_nonneg (show 0 ≤ m - x by grind) (show 0 ≤ m + x by grind)
  grind
theorem sq_nonneg (x : Rat) : 0 ≤ x * x := by
  rcases (Rat.le_total : 0 ≤ x ∨ x ≤ 0) with h | h
  · exact Rat.mul_nonneg h h
  · have := Rat.mul_nonneg (show 0 ≤ -x by grind) (show 0 ≤ -x by grind); grind
theorem sq_ge {x m : Rat} (h : m ≤ x.abs) (hm : 0 ≤ m) : m * m ≤ x * x := by
  rcases (Rat.le_total : 0 ≤ x ∨ x ≤ 0) with g | g
  · rw [Rat.abs_of_nonneg g] at h
    have h1 := Rat.mul_le_mul_of_nonneg_left h hm
    have h2 := Rat.mul_le_mul_of_nonneg_right h g
    grind
  · rw [Rat.abs_of_nonpos g] at h
    have h1 := Rat.mul_le_mul_of_nonneg_left h hm
    have h2 := Rat.mul_le_mul_of_nonneg_right h (show 0 ≤ -x by grind)
    grind

theorem e53_le : (2 : Rat) ^ (-53 : Int) ≤ 1 / 1000 := by
  have h6 := p2_le (show (-53 : Int) ≤ -10 by decide)
  have h7 : (2 : Rat) ^ (-10 : Int) * (2 : Rat) ^ (10 : Int) = 1 := by rw [← p2_add, show (-10 + 10 : Int) = 0 by decide, Rat.zpow_zero]
  have h8 : (2 : Rat) ^ (10 : Int) = 1024 := by rw [show (10 : Int) = ((10 : Nat) : Int) by rfl, p2_nat]; rfl
  rw [h8] at h7
  grind

/-- How far a rounded number is, coarsely. -/
theorem Rnd.coarse {x z : Rat} (h : Rnd x z) : (z - x).abs ≤ x.abs * (1 / 1000) + (2 : Rat) ^ (-1075 : Int) := by
  have h1 := Rat.mul_le_mul_of_nonneg_left e53_le (abs_nonneg x)
  have h2 := p2_pos (-1075)
  have h3 := abs_nonneg x
  rcases h.near with g | g <;> grind

theorem p2_small {q : Int} (h : q ≤ -53) : (2 : Rat) ^ q ≤ 1 / 1000 := Rat.le_trans (p2_le h) e53_le

theorem lt_p2_1023 {x : Rat} (h : x.abs ≤ 1000) : x.abs < (2 : Rat) ^ (1023 : Int) := by
  have h6 := p2_le (show (10 : Int) ≤ 1023 by decide)
  have h8 : (2 : Rat) ^ (10 : Int) = 1024 := by rw [show (10 : Int) = ((10 : Nat) : Int) by rfl, p2_nat]; rfl
  grind

theorem greatestK_is {a b : Nat} {x y : Rat} (ha : Is a x) (hb : Is b y) : ∃ (g : Nat) (G : Rat), Is g G ∧ x.abs ≤ G ∧ y.abs ≤ G ∧ (G = x.abs ∨ G = y.abs) ∧ ∀ (R : Type) (k : Nat → Option R), greatestK R a b k = k g := by
  have hdef : ∀ (R : Type) (k : Nat → Option R), greatestK R a b k = forceB (gtF (absW b) (absW a)) fun t => match t with
      | true => k (absW b)
      | false => k (absW a) := fun R k => rfl
  by_cases h : x.abs < y.abs
  · refine ⟨_, y.abs, abs_is hb, by grind, by grind, .inr rfl, fun R k => ?_⟩
    rw [hdef, forceB_eq, gtF_is (abs_is hb) (abs_is ha)]
    simp only [h, decide_true]
  · refine ⟨_, x.abs, abs_is ha, by grind, by grind, .inl rfl, fun R k => ?_⟩
    rw [hdef, forceB_eq, gtF_is (abs_is hb) (abs_is ha)]
    simp only [h, decide_false]

theorem lengthK_full {a b : Nat} {x y d : Rat} (ha : Is a x) (hb : Is b y) (hx : x.abs ≤ d) (hy : y.abs ≤ d) (d1 : (2 : Rat) ^ (-900 : Int) ≤ d) (d2 : d ≤ (2 : Rat) ^ (400 : Int)) :
    ∃ r L, Is r L ∧ L ≤ 2 * d ∧ (1 ≤ x.abs ∨ 1 ≤ y.abs → 1 / 4 ≤ L) ∧ ∀ (R : Type) (k : Nat → Option R), lengthK R a b k = k r := by
  have hd0 : 0 < d := by have := p2_pos (-900); grind
  obtain ⟨g, G, hg, gx, gy, hG, hgk⟩ := greatestK_is ha hb
  have hpre : ∀ (R : Type) (k : Nat → Option R), lengthK R a b k = forceB (eqF g 0) fun t => match t with
      | true => k 0
      | false => scaledK R a b fun x y e => squareK R x y fun s => sqrtK R s fun r => scaleK R r e k := fun R k => by
    unfold lengthK lengthB
    rw [isInfK_no ha, forceB_eq]
    simp only
    rw [isInfK_no hb, forceB_eq]
    simp only
    rw [isNanK_no ha, forceB_eq]
    simp only
    rw [isNanK_no hb, forceB_eq]
    simp only
    rw [hgk]
    rfl
  by_cases hG0 : G = 0
  · refine ⟨0, 0, by simpa using is_zero, by grind, fun h => absurd h (by grind), fun R k => ?_⟩
    rw [hpre, forceB_eq, eqF_is hg is_zero]
    simp [hG0]
  have hGd : G ≤ d := by rcases hG with h | h <;> grind
  have hGp : 0 < G := by have := abs_nonneg x; grind
  have hGa : G.abs = G := Rat.abs_of_nonneg (Rat.le_of_lt hGp)
  obtain ⟨w, n, n1, n2, n3, n4, hfr⟩ := frexpK_is hg hG0
  rw [hGa] at n1 n2
  have n5 : n ≤ 401 := by
    refine Int.not_lt.1 fun h => ?_
    have h1 := p2_le (show (401 : Int) ≤ n - 1 by omega)
    have h2 := p2_half 401
    rw [show (401 - 1 : Int) = 400 by decide] at h2
    have := p2_pos 400
    grind
  have pn := p2_pos (-n)
  have hcan : (2 : Rat) ^ n * (2 : Rat) ^ (-n) = 1 := p2_cancel n
  have hhalf : (2 : Rat) ^ (n - 1) * (2 : Rat) ^ (-n) = 1 / 2 := by
    have := p2_half n
    have h3 : (2 : Rat) ^ n * (2 : Rat) ^ (-n) = 2 * ((2 : Rat) ^ (n - 1) * (2 : Rat) ^ (-n)) := by rw [this]; grind
    grind
  have hD : 1 / 2 ≤ d * (2 : Rat) ^ (-n) := by
    have := Rat.mul_le_mul_of_nonneg_right (Rat.le_trans n1 hGd) (Rat.le_of_lt pn)
    rwa [hhalf] at this
  have up : ∀ {u : Rat}, u.abs ≤ G → u.abs ≤ d → (u * (2 : Rat) ^ (-n)).abs < 1 ∧ (u * (2 : Rat) ^ (-n)).abs ≤ d * (2 : Rat) ^ (-n) := fun {u} h1 h2 => by
    rw [abs_mul, p2_abs]
    have g1 := Rat.mul_lt_mul_of_pos_right (show u.abs < (2 : Rat) ^ n by grind) pn
    have g2 := Rat.mul_le_mul_of_nonneg_right h2 (Rat.le_of_lt pn)
    rw [hcan] at g1
    exact ⟨g1, g2⟩
  obtain ⟨ux1, ux2⟩ := up gx hx
  obtain ⟨uy1, uy2⟩ := up gy hy
  have hlow : 1 / 2 ≤ (x * (2 : Rat) ^ (-n)).abs ∨ 1 / 2 ≤ (y * (2 : Rat) ^ (-n)).abs := by
    have := Rat.mul_le_mul_of_nonneg_right n1 (Rat.le_of_lt pn)
    rw [hhalf] at this
    rcases hG with h | h
    · left; rw [abs_mul, p2_abs, ← h]; exact this
    · right; rw [abs_mul, p2_abs, ← h]; exact this
  obtain ⟨r1, X, i1, q1, s1⟩ := scaleK_is (n := -n) ha (by omega) (by omega) (lt_p2_1023 (by grind))
  obtain ⟨r2, Y, i2, q2, s2⟩ := scaleK_is (n := -n) hb (by omega) (by omega) (lt_p2_1023 (by grind))
  have c1 := q1.coarse
  have c2 := q2.coarse
  have ht : (2 : Rat) ^ (-1075 : Int) ≤ 1 / 1000 := p2_small (by decide)
  have ht0 := p2_pos (-1075)
  generalize hDD : d * (2 : Rat) ^ (-n) = D at *
  generalize x * (2 : Rat) ^ (-n) = X0 at *
  generalize y * (2 : Rat) ^ (-n) = Y0 at *
  generalize htt : (2 : Rat) ^ (-1075 : Int) = t at *
  have aX : X.abs ≤ X0.abs + (X - X0).abs := by have := abs_add_le (X - X0) X0; rw [show X - X0 + X0 = X by grind] at this; grind
  have aY : Y.abs ≤ Y0.abs + (Y - Y0).abs := by have := abs_add_le (Y - Y0) Y0; rw [show Y - Y0 + Y0 = Y by grind] at this; grind
  have aX' : X0.abs ≤ X.abs + (X - X0).abs := by have := abs_add_le X (X0 - X); rw [show X + (X0 - X) = X0 by grind, abs_sub_comm X0 X] at this; exact this
  have aY' : Y0.abs ≤ Y.abs + (Y - Y0).abs := by have := abs_add_le Y (Y0 - Y); rw [show Y + (Y0 - Y) = Y0 by grind, abs_sub_comm Y0 Y] at this; exact this
  have bX : X.abs ≤ 51 / 50 * D := by grind
  have bY : Y.abs ≤ 51 / 50 * D := by grind
  have bX1 : X.abs ≤ 51 / 50 := by grind
  have bY1 : Y.abs ≤ 51 / 50 := by grind
  have sX := sq_le bX
  have sY := sq_le bY
  have sX1 := sq_le bX1
  have sY1 := sq_le bY1
  have zX := sq_nonneg X
  have zY := sq_nonneg Y
  have aXX : (X * X).abs = X * X := Rat.abs_of_nonneg zX
  have aYY : (Y * Y).abs = Y * Y := Rat.abs_of_nonneg zY
  obtain ⟨r3, Pp, e3, i3, q3⟩ := mul_is i1 i1 (lt_p2_1023 (by rw [aXX]; grind))
  obtain ⟨r4, Qq, e4, i4, q4⟩ := mul_is i2 i2 (lt_p2_1023 (by rw [aYY]; grind))
  have c3 := q3.coarse
  have c4 := q4.coarse
  rw [aXX] at c3
  rw [aYY] at c4
  rw [htt] at c3 c4
  have f3 := abs_le_iff.1 c3
  have f4 := abs_le_iff.1 c4
  have hDsq : 1 / 4 ≤ D * D := by have := Rat.mul_le_mul_of_nonneg_left hD (show (0 : Rat) ≤ D by grind); grind
  have low : 11 / 50 ≤ X * X ∨ 11 / 50 ≤ Y * Y := by
    rcases hlow with h | h
    · left
      have : 47 / 100 ≤ X.abs := by grind
      have := sq_ge this (by grind)
      grind
    · right
      have : 47 / 100 ≤ Y.abs := by grind
      have := sq_ge this (by grind)
      grind
  have hPQ1 : Pp + Qq ≤ 106 / 50 * (D * D) := by grind
  have hPQ2 : 1 / 5 ≤ Pp + Qq := by rcases low with h | h <;> grind
  have hPQ3 : Pp + Qq ≤ 3 := by grind
  have aPQ : (Pp + Qq).abs = Pp + Qq := Rat.abs_of_nonneg (by grind)
  obtain ⟨r5, S, e5, i5, q5⟩ := add_is i3 i4 (lt_p2_1023 (by rw [aPQ]; grind))
  have c5 := q5.coarse
  rw [aPQ, htt] at c5
  have f5 := abs_le_iff.1 c5
  have hS1 : S ≤ 108 / 50 * (D * D) := by grind
  have hS2 : 1 / 10 ≤ S := by grind
  have hS3 : S ≤ 4 := by grind
  obtain ⟨r6, T, e6, i6, t0, t1⟩ := sqrt_is i5 (by grind)
    (by have := lt_p2_1023 (x := 4) (by rw [Rat.abs_of_nonneg (by decide)]; decide)
        have h6 := p2_le (show (10 : Int) ≤ 1000 by decide)
        have h8 : (2 : Rat) ^ (10 : Int) = 1024 := by rw [show (10 : Int) = ((10 : Nat) : Int) by rfl, p2_nat]; rfl
        grind) (by have := p2_small (show (-1000 : Int) ≤ -53 by decide); grind)
  have f6 := abs_le_iff.1 t1
  have e51 : (2 : Rat) ^ (-51 : Int) ≤ 4 / 1000 := by
    have h6 := p2_half (-51)
    have h7 := p2_half (-52)
    rw [show (-51 - 1 : Int) = -52 by decide] at h6
    rw [show (-52 - 1 : Int) = -53 by decide] at h7
    have := e53_le
    grind
  have m51 := Rat.mul_le_mul_of_nonneg_left e51 (show (0 : Rat) ≤ S by grind)
  have hT2 : T * T ≤ 11 / 5 * (D * D) := by grind
  have hT : T ≤ 3 / 2 * D := by
    refine Rat.not_lt.1 fun h => ?_
    have g1 := Rat.mul_le_mul_of_nonneg_left (Rat.le_of_lt h) (show (0 : Rat) ≤ 3 / 2 * D by grind)
    have g2 := Rat.mul_le_mul_of_nonneg_right (Rat.le_of_lt h) (Rat.le_of_lt t0)
    grind
  have hTn : T * (2 : Rat) ^ n ≤ 3 / 2 * d := by
    have g1 := Rat.mul_le_mul_of_nonneg_right hT (Rat.le_of_lt (p2_pos n))
    have g2 : D * (2 : Rat) ^ n = d := by rw [← hDD, Rat.mul_assoc, Rat.mul_comm ((2 : Rat) ^ (-n)), hcan]; grind
    grind
  have hTn0 : 0 ≤ T * (2 : Rat) ^ n := Rat.mul_nonneg (Rat.le_of_lt t0) (Rat.le_of_lt (p2_pos n))
  have aTn : (T * (2 : Rat) ^ n).abs = T * (2 : Rat) ^ n := Rat.abs_of_nonneg hTn0
  obtain ⟨r7, L, i7, q7, s7⟩ := scaleK_is (n := n) i6 (by omega) (by omega) (by
    rw [aTn]
    have g1 := p2_le (show (401 : Int) ≤ 1023 by decide)
    have g2 := p2_half 401
    rw [show (401 - 1 : Int) = 400 by decide] at g2
    grind)
  have c7 := q7.coarse
  rw [aTn, htt] at c7
  have f7 := abs_le_iff.1 c7
  have htd : t ≤ d * (1 / 1000) := by
    have g1 := Rat.mul_le_mul_of_nonneg_right d1 (Rat.le_of_lt (p2_pos (-175)))
    rw [← p2_add, show (-900 + -175 : Int) = -1075 by decide, htt] at g1
    have g2 := Rat.mul_le_mul_of_nonneg_left (p2_small (show (-175 : Int) ≤ -53 by decide)) (Rat.le_of_lt hd0)
    grind
  have hpos : 1 ≤ x.abs ∨ 1 ≤ y.abs → 1 / 4 ≤ L := fun h => by
    have hG1 : 1 ≤ G := by rcases h with h | h <;> grind
    have hn1 : 0 < n := by
      refine Int.not_le.1 fun h => ?_
      have g1 := p2_le h
      rw [show (2 : Rat) ^ (0 : Int) = 1 by simp] at g1
      grind
    have g1 := p2_le (show (1 : Int) ≤ n by omega)
    rw [p2_one] at g1
    have hT4 : 1 / 4 ≤ T := by
      refine Rat.not_lt.1 fun h => ?_
      have g2 := Rat.mul_le_mul_of_nonneg_left (Rat.le_of_lt h) (Rat.le_of_lt t0)
      grind
    have g3 := Rat.mul_le_mul_of_nonneg_left g1 (Rat.le_of_lt t0)
    grind
  refine ⟨r7, L, i7, by grind, hpos, fun R k => ?_⟩
  have hG0' : ¬ (G = ((0 : Int) : Rat)) := by simpa using hG0
  rw [hpre, forceB_eq, eqF_is hg is_zero]
  simp only [hG0', decide_false]
  unfold scaledK scaledB
  rw [hgk, hfr]
  rw [show (0 - n) = -n by omega, wrapI (by omega) (by omega), s1, s2]
  simp only [squareK, sqrtK]
  rw [bindF_eq e3, bindF_eq e4, bindF_eq e5, bindF_eq e6, s7]

theorem lengthK_le {a b : Nat} {x y d : Rat} (ha : Is a x) (hb : Is b y) (hx : x.abs ≤ d) (hy : y.abs ≤ d) (d1 : (2 : Rat) ^ (-900 : Int) ≤ d) (d2 : d ≤ (2 : Rat) ^ (400 : Int)) :
    ∃ r L, Is r L ∧ L ≤ 2 * d ∧ ∀ (R : Type) (k : Nat → Option R), lengthK R a b k = k r :=
  let ⟨r, L, h1, h2, _, h3⟩ := lengthK_full ha hb hx hy d1 d2
  ⟨r, L, h1, h2, h3⟩

/-- Near, from below. -/
theorem nearK_yes {a b c d m : Nat} {x y u v M e : Rat} (ha : Is a x) (hb : Is b y) (hc : Is c u) (hd : Is d v) (hm : Is m M) (hx : (x - u).abs ≤ e) (hy : (y - v).abs ≤ e) (e1 : (2 : Rat) ^ (-800 : Int) ≤ e) (e2 : e ≤ (2 : Rat) ^ (300 : Int)) (hM : 3 * e ≤ M) {R : Type} (k : Bool → Option R) :
    nearK R a b c d m k = k true := by
  have h300 := p2_le (show (300 : Int) ≤ 1022 by decide)
  have h1022 := p2_half 1023
  rw [show (1023 - 1 : Int) = 1022 by decide] at h1022
  have hp := p2_pos 1022
  have he0 : 0 < e := by have := p2_pos (-800); grind
  obtain ⟨p, X, f1, g1, r1⟩ := sub_is ha hc (by grind)
  obtain ⟨q, Y, f2, g2, r2⟩ := sub_is hb hd (by grind)
  have c1 := r1.coarse
  have c2 := r2.coarse
  have ht : (2 : Rat) ^ (-1075 : Int) ≤ e * (1 / 1000) := by
    have k1 := Rat.mul_le_mul_of_nonneg_right e1 (Rat.le_of_lt (p2_pos (-275)))
    rw [← p2_add, show (-800 + -275 : Int) = -1075 by decide] at k1
    have k2 := Rat.mul_le_mul_of_nonneg_left (p2_small (show (-275 : Int) ≤ -53 by decide)) (Rat.le_of_lt he0)
    grind
  have aX : X.abs ≤ 5 / 4 * e := by
    have := abs_add_le (X - (x - u)) (x - u)
    rw [show X - (x - u) + (x - u) = X by grind] at this
    grind
  have aY : Y.abs ≤ 5 / 4 * e := by
    have := abs_add_le (Y - (y - v)) (y - v)
    rw [show Y - (y - v) + (y - v) = Y by grind] at this
    grind
  have k900 := p2_le (show (-900 : Int) ≤ -800 by decide)
  have k400 := p2_le (show (301 : Int) ≤ 400 by decide)
  have k301 := p2_half 301
  rw [show (301 - 1 : Int) = 300 by decide] at k301
  obtain ⟨r, L, i1, l1, s1⟩ := lengthK_le g1 g2 aX aY (by grind) (by grind)
  unfold nearK nearB subK
  rw [bindF_eq f1, bindF_eq f2]
  simp only
  rw [s1, forceB_eq, leF_is i1 hm]
  have : L ≤ M := by grind
  simp only [this, decide_true]
end Go.Vm
namespace Go.Vm
open Ieee
set_option linter.unusedVariables false
set_option linter.unusedSimpArgs false

theorem abs_mul_le {a b A B : Rat} (h1 : a.abs ≤ A) (h2 : b.abs ≤ B) : (a * b).abs ≤ A * B := by
  rw [abs_mul]
  have h3 := Rat.mul_le_mul_of_nonneg_right h1 (abs_nonneg b)
  have h4 := Rat.mul_le_mul_of_nonneg_left h2 (show 0 ≤ A by have := abs_nonneg a; grind)
  grind

theorem e51_le : (2 : Rat) ^ (-51 : Int) ≤ 1 / 1000 := by
  have h6 := p2_le (show (-51 : Int) ≤ -10 by decide)
  have h7 : (2 : Rat) ^ (-10 : Int) * (2 : Rat) ^ (10 : Int) = 1 := by rw [← p2_add, show (-10 + 10 : Int) = 0 by decide, Rat.zpow_zero]
  have h8 : (2 : Rat) ^ (10 : Int) = 1024 := by rw [show (10 : Int) = ((10 : Nat) : Int) by rfl, p2_nat]; rfl
  rw [h8] at h7
  grind

/-- the unit of roundings -/
def eps : Rat := (2 : Rat) ^ (-51 : Int)
theorem eps_pos : 0 < eps := p2_pos _
theorem eps_le : eps ≤ 1 / 1000 := e51_le

theorem Rnd.le {x z B : Rat} (h : Rnd x z) (hx : x.abs ≤ B) (hB : (2 : Rat) ^ (-1000 : Int) ≤ B) : (z - x).abs ≤ eps * B := by
  have h1 := p2_le (show (-53 : Int) ≤ -51 by decide)
  have h2 := Rat.mul_le_mul_of_nonneg_left h1 (abs_nonneg x)
  have h3 := Rat.mul_le_mul_of_nonneg_right hx (Rat.le_of_lt eps_pos)
  have h4 := Rat.mul_le_mul_of_nonneg_right hB (Rat.le_of_lt eps_pos)
  have h5 : (2 : Rat) ^ (-1075 : Int) ≤ (2 : Rat) ^ (-1000 : Int) * eps := by
    unfold eps; rw [← p2_add]; exact p2_le (by decide)
  unfold eps at *
  rcases h.near with g | g <;> grind

theorem Rnd2.le {x z B : Rat} (h : Rnd2 x z) (hx : x.abs ≤ B) (hB : (2 : Rat) ^ (-1000 : Int) ≤ B) : (z - x).abs ≤ eps * B := by
  have h1 := p2_le (show (-52 : Int) ≤ -51 by decide)
  have h2 := Rat.mul_le_mul_of_nonneg_left h1 (abs_nonneg x)
  have h3 := Rat.mul_le_mul_of_nonneg_right hx (Rat.le_of_lt eps_pos)
  have h4 := Rat.mul_le_mul_of_nonneg_right hB (Rat.le_of_lt eps_pos)
  have h5 : (2 : Rat) ^ (-1074 : Int) ≤ (2 : Rat) ^ (-1000 : Int) * eps := by
    unfold eps; rw [← p2_add]; exact p2_le (by decide)
  unfold eps at *
  rcases h.near with g | g <;> grind

theorem abs_div_le {a b B : Rat} (hb : b ≠ 0) (h : a.abs ≤ B * b.abs) : (a / b).abs ≤ B := by
  have h1 : (a / b * b) = a := Rat.div_mul_cancel hb
  have h2 : (a / b).abs * b.abs = a.abs := by rw [← abs_mul, h1]
  have hb0 : 0 < b.abs := by
    rcases (Rat.le_total : 0 ≤ b ∨ b ≤ 0) with g | g
    · rw [Rat.abs_of_nonneg g]; grind
    · rw [Rat.abs_of_nonpos g]; grind
  refine Rat.not_lt.1 fun hlt => ?_
  have := Rat.mul_lt_mul_of_pos_right hlt hb0
  grind

/-- SMITH'S QUOTIENT, one part, in fractions. -/
theorem smith {p q r s u v W M K m1 T m2 n U : Rat} (hr : r ≠ 0) (hW : r.abs = W) (hs : s.abs ≤ W) (hM : 0 ≤ M) (hu : u.abs ≤ M) (hv : v.abs ≤ M)
    (hp : p = u * r - v * s) (hq : q = u * s + v * r)
    (hK : (K - s / r).abs ≤ eps) (h1 : (m1 - s * K).abs ≤ eps * (2 * W)) (hT : (T - (r + m1)).abs ≤ eps * (3 * W))
    (h2 : (m2 - q * K).abs ≤ eps * (3 * (M * W))) (hn : (n - (p + m2)).abs ≤ eps * (5 * (M * W))) (hT0 : T ≠ 0) (hU : (U - n / T).abs ≤ eps * (2 * M)) :
    (U - u).abs ≤ 32 * (M * eps) ∧ W * (9 / 10) ≤ T.abs ∧ n.abs ≤ 2 * M * T.abs := by
  have he := eps_pos
  have he2 := eps_le
  have hW0 : 0 < W := by
    rw [← hW]
    rcases (Rat.le_total : 0 ≤ r ∨ r ≤ 0) with g | g
    · rw [Rat.abs_of_nonneg g]; grind
    · rw [Rat.abs_of_nonpos g]; grind
  -- the true ratio
  have hk : (s / r).abs ≤ 1 := abs_div_le hr (by rw [hW]; grind)
  have hkr : s / r * r = s := Rat.div_mul_cancel hr
  generalize s / r = k at *
  have t0 : W ≤ (r + s * k).abs := by
    -- r + s k = r (1 + k k)
    have e : r + s * k = r * (1 + k * k) := by rw [← hkr]; grind
    rw [e, abs_mul, hW, Rat.abs_of_nonneg (by have := sq_nonneg k; grind)]
    have := Rat.mul_nonneg (Rat.le_of_lt hW0) (sq_nonneg k)
    grind
  have a1 : (s * K - s * k).abs ≤ W * eps := by
    rw [show s * K - s * k = s * (K - k) by grind]; exact abs_mul_le hs hK
  have a2 : (T - (r + s * k)).abs ≤ 6 * (W * eps) := by
    have g1 := abs_add_le (T - (r + m1)) (m1 - s * K)
    have g2 := abs_add_le (T - (r + m1) + (m1 - s * K)) (s * K - s * k)
    rw [show T - (r + m1) + (m1 - s * K) + (s * K - s * k) = T - (r + s * k) by grind] at g2
    grind
  have qa : q.abs ≤ 2 * (M * W) := by
    have g1 := abs_mul_le hu hs
    have g2 := abs_mul_le hv (show r.abs ≤ W by grind)
    have g3 := abs_add_le (u * s) (v * r)
    rw [hq]; grind
  have hMW := Rat.mul_nonneg hM (Rat.le_of_lt hW0)
  have hMWe := Rat.mul_nonneg hMW (Rat.le_of_lt he)
  have a3 : (q * K - q * k).abs ≤ 2 * (M * W) * eps := by
    rw [show q * K - q * k = q * (K - k) by grind]; exact abs_mul_le qa hK
  have a4 : (n - (p + q * k)).abs ≤ 10 * (M * W * eps) := by
    have g1 := abs_add_le (n - (p + m2)) (m2 - q * K)
    have g2 := abs_add_le (n - (p + m2) + (m2 - q * K)) (q * K - q * k)
    rw [show n - (p + m2) + (m2 - q * K) + (q * K - q * k) = n - (p + q * k) by grind] at g2
    grind
  have a5 : p + q * k = u * (r + s * k) := by
    rw [hp, hq]
    have : v * r * k = v * s := by rw [← hkr]; grind
    grind
  have a6 : (u * (T - (r + s * k))).abs ≤ M * (6 * (W * eps)) := abs_mul_le hu a2
  have a7 : (n - u * T).abs ≤ 16 * (M * W * eps) := by
    have g1 := abs_add_le (n - (p + q * k)) (-(u * (T - (r + s * k))))
    rw [abs_neg] at g1
    rw [show n - (p + q * k) + -(u * (T - (r + s * k))) = n - u * T by rw [a5]; grind] at g1
    grind
  have hWe := Rat.mul_le_mul_of_nonneg_left he2 (Rat.le_of_lt hW0)
  have a8 : W * (9 / 10) ≤ T.abs := by
    have g1 := abs_add_le ((r + s * k) - T) T
    rw [show r + s * k - T + T = r + s * k by grind, abs_sub_comm] at g1
    grind
  have hMe := Rat.mul_nonneg hM (Rat.le_of_lt he)
  have a9 : (n / T - u).abs ≤ 18 * (M * eps) := by
    have e : n / T - u = (n - u * T) / T := by
      have g1 : n / T * T = n := Rat.div_mul_cancel hT0
      have g2 : (n - u * T) / T * T = n - u * T := Rat.div_mul_cancel hT0
      have g3 : (n / T - u - (n - u * T) / T) * T = 0 := by grind
      rcases Rat.mul_eq_zero.1 g3 with h | h
      · grind
      · exact absurd h hT0
    rw [e]
    refine abs_div_le hT0 ?_
    have := Rat.mul_le_mul_of_nonneg_left a8 hMe
    grind
  refine ⟨?_, a8, ?_⟩
  · have g1 := abs_add_le (U - n / T) (n / T - u)
    rw [show U - n / T + (n / T - u) = U - u by grind] at g1
    grind
  · have g1 := abs_add_le (n - u * T) (u * T)
    rw [show n - u * T + u * T = n by grind] at g1
    have g2 := abs_mul_le hu (show T.abs ≤ T.abs from Rat.le_refl)
    have g3 := Rat.mul_le_mul_of_nonneg_left a8 hM
    have g4 := Rat.mul_le_mul_of_nonneg_left he2 hMW
    grind
end Go.Vm
namespace Go.Vm
open Ieee
set_option linter.unusedVariables false
set_option linter.unusedSimpArgs false

theorem smith_T {r s W K m1 T : Rat} (hr : r ≠ 0) (hW : r.abs = W) (hs : s.abs ≤ W)
    (hK : (K - s / r).abs ≤ eps) (h1 : (m1 - s * K).abs ≤ eps * (2 * W)) (hT : (T - (r + m1)).abs ≤ eps * (3 * W)) : W * (9 / 10) ≤ T.abs ∧ T ≠ 0 := by
  have he := eps_pos
  have he2 := eps_le
  have hW0 : 0 < W := by
    rw [← hW]
    rcases (Rat.le_total : 0 ≤ r ∨ r ≤ 0) with g | g
    · rw [Rat.abs_of_nonneg g]; grind
    · rw [Rat.abs_of_nonpos g]; grind
  have hkr : s / r * r = s := Rat.div_mul_cancel hr
  generalize s / r = k at *
  have t0 : W ≤ (r + s * k).abs := by
    have e : r + s * k = r * (1 + k * k) := by rw [← hkr]; grind
    rw [e, abs_mul, hW, Rat.abs_of_nonneg (by have := sq_nonneg k; grind)]
    have := Rat.mul_nonneg (Rat.le_of_lt hW0) (sq_nonneg k)
    grind
  have a1 : (s * K - s * k).abs ≤ W * eps := by
    rw [show s * K - s * k = s * (K - k) by grind]; exact abs_mul_le hs hK
  have a2 : (T - (r + s * k)).abs ≤ 6 * (W * eps) := by
    have g1 := abs_add_le (T - (r + m1)) (m1 - s * K)
    have g2 := abs_add_le (T - (r + m1) + (m1 - s * K)) (s * K - s * k)
    rw [show T - (r + m1) + (m1 - s * K) + (s * K - s * k) = T - (r + s * k) by grind] at g2
    grind
  have hWe := Rat.mul_le_mul_of_nonneg_left he2 (Rat.le_of_lt hW0)
  have a8 : W * (9 / 10) ≤ T.abs := by
    have g1 := abs_add_le ((r + s * k) - T) T
    rw [show r + s * k - T + T = r + s * k by grind, abs_sub_comm] at g1
    grind
  refine ⟨a8, fun h => ?_⟩
  rw [h, abs_zero] at a8
  grind

theorem abs_near {x y e : Rat} (h : (x - y).abs ≤ e) : x.abs ≤ y.abs + e := by
  have := abs_add_le (x - y) y
  rw [show x - y + y = x by grind] at this
  grind

/-- the numerator, rounded, over the divisor, rounded -/
theorem smith_part {hb tb nb : Nat} {p q r s u v W M K m1 T m2 n : Rat} (hr : r ≠ 0) (hW : r.abs = W) (hs : s.abs ≤ W) (hu : u.abs ≤ M) (hv : v.abs ≤ M)
    (hp : p = u * r - v * s) (hq : q = u * s + v * r) (M1 : (2 : Rat) ^ (-300 : Int) ≤ M) (M2 : M ≤ (2 : Rat) ^ (300 : Int))
    (hK : (K - s / r).abs ≤ eps) (h1 : (m1 - s * K).abs ≤ eps * (2 * W)) (hT : (T - (r + m1)).abs ≤ eps * (3 * W))
    (h2 : (m2 - q * K).abs ≤ eps * (3 * (M * W))) (hn : (n - (p + m2)).abs ≤ eps * (5 * (M * W))) (it : Is tb T) (inn : Is nb n) :
    ∃ w U, fbF .quo nb tb = some w ∧ Is w U ∧ (U - u).abs ≤ 32 * (M * eps) := by
  have hM0 : 0 < M := by have := p2_pos (-300); grind
  obtain ⟨_, hT0⟩ := smith_T hr hW hs hK h1 hT
  have z : (n / T - n / T).abs ≤ eps * (2 * M) := by
    rw [Rat.sub_self, abs_zero]
    exact Rat.mul_nonneg (Rat.le_of_lt eps_pos) (by grind)
  obtain ⟨_, b1, b2⟩ := smith hr hW hs (Rat.le_of_lt hM0) hu hv hp hq hK h1 hT h2 hn hT0 z
  have hq' : (n / T).abs ≤ 2 * M := abs_div_le hT0 b2
  obtain ⟨w, U, e1, i1, q1⟩ := div_is inn it hT0 (by
    have g1 := p2_le (show (301 : Int) ≤ 1021 by decide)
    have g2 := p2_half 301
    rw [show (301 - 1 : Int) = 300 by decide] at g2
    have g3 := p2_half 1022
    rw [show (1022 - 1 : Int) = 1021 by decide] at g3
    have := p2_pos 1021
    grind)
  have hB : (2 : Rat) ^ (-1000 : Int) ≤ 2 * M := by have := p2_le (show (-1000 : Int) ≤ -300 by decide); grind
  have := q1.le hq' hB
  exact ⟨w, U, e1, i1, (smith hr hW hs (Rat.le_of_lt hM0) hu hv hp hq hK h1 hT h2 hn hT0 this).1⟩

theorem divK_near {a b c d : Nat} {p q r s u v W M : Rat} (ip : Is a p) (iq : Is b q) (ir : Is c r) (is_ : Is d s)
    (hr : r.abs ≤ W) (hs : s.abs ≤ W) (hW : W = r.abs ∨ W = s.abs) (W1 : (2 : Rat) ^ (-300 : Int) ≤ W) (W2 : W ≤ (2 : Rat) ^ (300 : Int))
    (hu : u.abs ≤ M) (hv : v.abs ≤ M) (M1 : (2 : Rat) ^ (-300 : Int) ≤ M) (M2 : M ≤ (2 : Rat) ^ (300 : Int)) (hp : p = u * r - v * s) (hq : q = u * s + v * r) :
    ∃ w1 w2 U V, Is w1 U ∧ Is w2 V ∧ (U - u).abs ≤ 32 * (M * eps) ∧ (V - v).abs ≤ 32 * (M * eps) ∧ ∀ (R : Type) (k : Nat → Nat → Option R), divK R a b c d k = k w1 w2 := by
  have he := eps_pos
  have he2 := eps_le
  have hW0 : 0 < W := by have := p2_pos (-300); grind
  have hM0 : 0 < M := by have := p2_pos (-300); grind
  have hMW0 := Rat.mul_pos hM0 hW0
  have hMWlo : (2 : Rat) ^ (-600 : Int) ≤ M * W := by
    have g1 := Rat.mul_le_mul_of_nonneg_left W1 (Rat.le_of_lt hM0)
    have g2 := Rat.mul_le_mul_of_nonneg_right M1 (Rat.le_of_lt (p2_pos (-300)))
    rw [← p2_add, show (-300 + -300 : Int) = -600 by decide] at g2
    grind
  have hMWhi : M * W ≤ (2 : Rat) ^ (600 : Int) := by
    have g1 := Rat.mul_le_mul_of_nonneg_left W2 (Rat.le_of_lt hM0)
    have g2 := Rat.mul_le_mul_of_nonneg_right M2 (Rat.le_of_lt (p2_pos 300))
    rw [← p2_add, show (300 + 300 : Int) = 600 by decide] at g2
    grind
  have p600 := p2_le (show (-1000 : Int) ≤ -600 by decide)
  have p300 := p2_le (show (-1000 : Int) ≤ -300 by decide)
  have big : ∀ {x : Rat}, x.abs ≤ 10 * (2 : Rat) ^ (600 : Int) → x.abs < (2 : Rat) ^ (1023 : Int) := fun {x} h => by
    have g1 := p2_le (show (604 : Int) ≤ 1022 by decide)
    have g2 : (2 : Rat) ^ (604 : Int) = 16 * (2 : Rat) ^ (600 : Int) := by
      rw [show (604 : Int) = ((4 : Nat) : Int) + 600 by decide, p2_add, p2_nat]; rfl
    have g3 := p2_half 1023
    rw [show (1023 - 1 : Int) = 1022 by decide] at g3
    have := p2_pos 600
    have := p2_pos 1022
    grind
  have p300b : W ≤ (2 : Rat) ^ (600 : Int) := Rat.le_trans W2 (p2_le (by decide))
  have pa : p.abs ≤ 2 * (M * W) := by
    have g1 := abs_mul_le hu hr
    have g2 := abs_mul_le hv hs
    have g3 := abs_add_le (u * r) (-(v * s))
    rw [abs_neg, show u * r + -(v * s) = p by grind] at g3
    grind
  have qa : q.abs ≤ 2 * (M * W) := by
    have g1 := abs_mul_le hu hs
    have g2 := abs_mul_le hv hr
    have g3 := abs_add_le (u * s) (v * r)
    rw [← hq] at g3
    grind
  have hMWe := Rat.mul_le_mul_of_nonneg_left he2 (Rat.le_of_lt hMW0)
  have hWe := Rat.mul_le_mul_of_nonneg_left he2 (Rat.le_of_lt hW0)
  have small1 : (1 : Rat) < (2 : Rat) ^ (1022 : Int) := by
    have g1 := p2_le (show (1 : Int) ≤ 1022 by decide)
    rw [p2_one] at g1
    grind
  have hdef : ∀ (R : Type) (k : Nat → Nat → Option R), divK R a b c d k = forceB (geF (absW c) (absW d)) fun t => match t with
    | true => bindF (fbF .quo d c) fun h => bindF (fbF .mul d h) fun sh => bindF (fbF .add c sh) fun t =>
        bindF (fbF .mul b h) fun qh => bindF (fbF .add a qh) fun n1 => bindF (fbF .quo n1 t) fun re =>
        bindF (fbF .mul a h) fun ph => bindF (fbF .sub b ph) fun n2 => bindF (fbF .quo n2 t) fun im => k re im
    | false => bindF (fbF .quo c d) fun h => bindF (fbF .mul c h) fun rh => bindF (fbF .add rh d) fun t =>
        bindF (fbF .mul a h) fun ph => bindF (fbF .add ph b) fun n1 => bindF (fbF .quo n1 t) fun re =>
        bindF (fbF .mul b h) fun qh => bindF (fbF .sub qh a) fun n2 => bindF (fbF .quo n2 t) fun im => k re im := fun R k => rfl
  -- a product with the ratio
  have prod : ∀ {w h : Nat} {x K : Rat} {B : Rat}, Is w x → Is h K → K.abs ≤ 1001 / 1000 → x.abs ≤ B → (2 : Rat) ^ (-600 : Int) ≤ B → B ≤ 2 * (2 : Rat) ^ (600 : Int) →
      ∃ o m, fbF .mul w h = some o ∧ Is o m ∧ (m - x * K).abs ≤ eps * (3 / 2 * B) ∧ m.abs ≤ 101 / 100 * B := fun {w h x K B} i1 i2 hK hx hB hB2 => by
    have g1 := abs_mul_le hx hK
    have hB0 : 0 < B := by have := p2_pos (-600); grind
    obtain ⟨o, m, e1, e2, e3⟩ := mul_is i1 i2 (big (by grind))
    have g2 := e3.le (B := 3 / 2 * B) (by grind) (by grind)
    have g3 := Rat.mul_le_mul_of_nonneg_left he2 (show (0 : Rat) ≤ 3 / 2 * B by grind)
    have g4 := abs_near g2
    exact ⟨o, m, e1, e2, g2, by grind⟩
  by_cases hc : s.abs ≤ r.abs
  · have hWr : W = r.abs := by rcases hW with h | h <;> grind
    have hr0 : r ≠ 0 := by rintro rfl; rw [abs_zero] at hWr; grind
    have hk1 : (s / r).abs ≤ 1 := abs_div_le hr0 (by grind)
    obtain ⟨h, K, e1, i1, q1⟩ := div_is is_ ir hr0 (by grind)
    have hK := q1.le hk1 (by have := p2_le (show (-1000 : Int) ≤ 0 by decide); rwa [Rat.zpow_zero] at this)
    rw [Rat.mul_one] at hK
    have hKa : K.abs ≤ 1001 / 1000 := by have := abs_near hK; grind
    obtain ⟨sh, m1, e2, i2, q2, b2⟩ := prod is_ i1 hKa hs (by have := p2_le (show (-600 : Int) ≤ -300 by decide); grind) (by have := p2_pos 600; grind)
    have hrm : (r + m1).abs ≤ 3 * W := by have := abs_add_le r m1; grind
    obtain ⟨t, T, e3, i3, q3⟩ := add_is ir i2 (big (by grind))
    have hT := q3.le hrm (by grind)
    obtain ⟨qh, m2, e4, i4, q4, b4⟩ := prod iq i1 hKa qa (by grind) (by grind)
    have hpm : (p + m2).abs ≤ 5 * (M * W) := by have := abs_add_le p m2; grind
    obtain ⟨n1, N1, e5, i5, q5⟩ := add_is ip i4 (big (by grind))
    have hn1 := q5.le hpm (by grind)
    have epW := Rat.mul_nonneg (Rat.le_of_lt he) (Rat.le_of_lt hW0)
    have epMW := Rat.mul_nonneg (Rat.le_of_lt he) (Rat.le_of_lt hMW0)
    obtain ⟨w1, U, e6, i6, g6⟩ := smith_part (hb := h) hr0 hWr.symm hs hu hv hp hq M1 M2 hK (by grind) hT (by grind) hn1 i3 i5
    obtain ⟨ph, m3, e7, i7, q7, b7⟩ := prod ip i1 hKa pa (by grind) (by grind)
    have hqm : (q - m3).abs ≤ 5 * (M * W) := by
      have := abs_add_le q (-m3)
      rw [abs_neg, show q + -m3 = q - m3 by grind] at this
      grind
    obtain ⟨n2, N2, e8, i8, q8⟩ := sub_is iq i7 (big (by grind))
    have hn2 := q8.le hqm (by grind)
    obtain ⟨w2, V, e9, i9, g9⟩ := smith_part (hb := h) (p := q) (q := -p) (u := v) (v := -u) (m2 := -m3) hr0 hWr.symm hs hv (by rw [abs_neg]; exact hu) (by rw [hq]; grind) (by rw [hp]; grind) M1 M2 hK (by grind) hT
      (by rw [show -m3 - -p * K = -(m3 - p * K) by grind, abs_neg]; grind) (by rw [show q + -m3 = q - m3 by grind]; exact hn2) i3 i8
    refine ⟨w1, w2, U, V, i6, i9, g6, g9, fun R k => ?_⟩
    rw [hdef, forceB_eq, geF_is (abs_is ir) (abs_is is_)]
    simp only [hc, decide_true]
    rw [bindF_eq e1, bindF_eq e2, bindF_eq e3, bindF_eq e4, bindF_eq e5, bindF_eq e6, bindF_eq e7, bindF_eq e8, bindF_eq e9]
  · have hWs : W = s.abs := by rcases hW with h | h <;> grind
    have hs0 : s ≠ 0 := by rintro rfl; rw [abs_zero] at hWs; grind
    have hk1 : (r / s).abs ≤ 1 := abs_div_le hs0 (by grind)
    obtain ⟨h, K, e1, i1, q1⟩ := div_is ir is_ hs0 (by grind)
    have hK := q1.le hk1 (by have := p2_le (show (-1000 : Int) ≤ 0 by decide); rwa [Rat.zpow_zero] at this)
    rw [Rat.mul_one] at hK
    have hKa : K.abs ≤ 1001 / 1000 := by have := abs_near hK; grind
    obtain ⟨rh, m1, e2, i2, q2, b2⟩ := prod ir i1 hKa hr (by have := p2_le (show (-600 : Int) ≤ -300 by decide); grind) (by have := p2_pos 600; grind)
    have hrm : (m1 + s).abs ≤ 3 * W := by have := abs_add_le m1 s; grind
    obtain ⟨t, T, e3, i3, q3⟩ := add_is i2 is_ (big (by grind))
    have hT := q3.le hrm (by grind)
    obtain ⟨ph, m2, e4, i4, q4, b4⟩ := prod ip i1 hKa pa (by grind) (by grind)
    have hpm : (m2 + q).abs ≤ 5 * (M * W) := by have := abs_add_le m2 q; grind
    obtain ⟨n1, N1, e5, i5, q5⟩ := add_is i4 iq (big (by grind))
    have hn1 := q5.le hpm (by grind)
    have epW := Rat.mul_nonneg (Rat.le_of_lt he) (Rat.le_of_lt hW0)
    have epMW := Rat.mul_nonneg (Rat.le_of_lt he) (Rat.le_of_lt hMW0)
    have hK' : (-K - -r / s).abs ≤ eps := by
      have : -K - -r / s = -(K - r / s) := by
        have g1 : -r / s * s = -r := Rat.div_mul_cancel hs0
        have g2 : r / s * s = r := Rat.div_mul_cancel hs0
        have g3 : (-r / s + r / s) * s = 0 := by grind
        rcases Rat.mul_eq_zero.1 g3 with h | h
        · grind
        · exact absurd h hs0
      rw [this, abs_neg]; exact hK
    have h1' : (m1 - -r * -K).abs ≤ eps * (2 * W) := by rw [show m1 - -r * -K = m1 - r * K by grind]; grind
    have hT' : (T - (s + m1)).abs ≤ eps * (3 * W) := by rw [show s + m1 = m1 + s by grind]; exact hT
    obtain ⟨w1, U, e6, i6, g6⟩ := smith_part (hb := h) (p := q) (q := -p) (r := s) (s := -r) (u := u) (v := v) (K := -K) hs0 hWs.symm (by rw [abs_neg]; exact hr) hu hv (by rw [hq]; grind) (by rw [hp]; grind) M1 M2 hK' h1' hT'
      (by rw [show m2 - -p * -K = m2 - p * K by grind]; grind) (by rw [show q + m2 = m2 + q by grind]; exact hn1) i3 i5
    obtain ⟨qh, m3, e7, i7, q7, b7⟩ := prod iq i1 hKa qa (by grind) (by grind)
    have hqm : (m3 - p).abs ≤ 5 * (M * W) := by
      have := abs_add_le m3 (-p)
      rw [abs_neg, show m3 + -p = m3 - p by grind] at this
      grind
    obtain ⟨n2, N2, e8, i8, q8⟩ := sub_is i7 ip (big (by grind))
    have hn2 := q8.le hqm (by grind)
    obtain ⟨w2, V, e9, i9, g9⟩ := smith_part (hb := h) (p := -p) (q := -q) (r := s) (s := -r) (u := v) (v := -u) (K := -K) (m2 := m3) hs0 hWs.symm (by rw [abs_neg]; exact hr) hv (by rw [abs_neg]; exact hu) (by rw [hp]; grind) (by rw [hq]; grind) M1 M2 hK' h1' hT'
      (by rw [show m3 - -q * -K = m3 - q * K by grind]; grind) (by rw [show -p + m3 = m3 - p by grind]; exact hn2) i3 i8
    refine ⟨w1, w2, U, V, i6, i9, g6, g9, fun R k => ?_⟩
    rw [hdef, forceB_eq, geF_is (abs_is ir) (abs_is is_)]
    simp only [hc, decide_false]
    rw [bindF_eq e1, bindF_eq e2, bindF_eq e3, bindF_eq e4, bindF_eq e5, bindF_eq e6, bindF_eq e7, bindF_eq e8, bindF_eq e9]
end Go.Vm
