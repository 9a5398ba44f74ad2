/- Products, sums and quotients of words of bounded magnitude come and are bounded; no conditions. The series of the arctangent and the logarithm come; no conditions. -/
import Derived.Test.YtnbpfafngidimaaGreatVmP3
import Derived.Test.YtnbpfafngidimaaGreatVmKF
import Derived.Test.YtnbpfafngidimaaGreatVmP17
namespace Go.Vm
open Ieee
set_option linter.unusedVariables false
set_option linter.unusedSimpArgs false

/-! ### Magnitudes: floats that are at most a power of two -/
def Mag (e : Int) (w : Nat) : Prop := ∃ x, Is w x ∧ x.abs ≤ (2 : Rat) ^ e

theorem Mag.mono {e f : Int} {w : Nat} (h : Mag e w) (hf : e ≤ f) : Mag f w := let ⟨x, h1, h2⟩ := h; ⟨x, h1, Rat.le_trans h2 (p2_le hf)⟩

theorem mul_mono' {x y a b : Rat} (h1 : x ≤ a) (h2 : y ≤ b) (hy : 0 ≤ y) (ha : 0 ≤ a) : x * y ≤ a * b :=
  Rat.le_trans (Rat.mul_le_mul_of_nonneg_right h1 hy) (Rat.mul_le_mul_of_nonneg_left h2 ha)

/-- what is rounded stays below twice the power -/
theorem rnd_mag {x z : Rat} {e : Int} (h : Rnd x z) (hx : x.abs ≤ (2 : Rat) ^ e) (he : -500 ≤ e) : z.abs ≤ (2 : Rat) ^ (e + 1) := by
  have h1 : (z - x).abs ≤ (2 : Rat) ^ e := by
    rcases h.near with h | h
    · have : x.abs * (2 : Rat) ^ (-53 : Int) ≤ (2 : Rat) ^ e * 1 := mul_mono' hx (by have := p2_le (p := -53) (q := 0) (by decide); simpa using this) (Rat.le_of_lt (p2_pos _)) (Rat.le_of_lt (p2_pos _))
      grind
    · exact Rat.le_trans h (p2_le (by omega))
  have h2 := abs_near h1
  rw [p2_succ]
  grind

theorem lt_1023_of {x : Rat} {e : Int} (h : x.abs ≤ (2 : Rat) ^ e) (he : e ≤ 1000) : x.abs < (2 : Rat) ^ (1023 : Int) := by
  have h1 := p2_le he
  have h2 : (2 : Rat) ^ (1000 : Int) < (2 : Rat) ^ (1023 : Int) := by
    have : (2 : Rat) ^ (1000 + 1 : Int) ≤ (2 : Rat) ^ (1023 : Int) := p2_le (by decide)
    rw [p2_succ] at this
    have := p2_pos 1000
    grind
  grind

theorem mag_mul {a b : Nat} {e f : Int} (ha : Mag e a) (hb : Mag f b) (h1 : -500 ≤ e + f) (h2 : e + f ≤ 1000) : ∃ c, fbF .mul a b = some c ∧ Mag (e + f + 1) c := by
  obtain ⟨x, ax, bx⟩ := ha
  obtain ⟨y, ay, by'⟩ := hb
  have hxy : (x * y).abs ≤ (2 : Rat) ^ (e + f) := by
    rw [abs_mul, p2_add]
    exact mul_mono' bx by' (abs_nonneg _) (Rat.le_of_lt (p2_pos _))
  obtain ⟨r, z, g1, g2, g3⟩ := mul_is ax ay (lt_1023_of hxy h2)
  exact ⟨r, g1, z, g2, rnd_mag g3 hxy h1⟩

theorem mag_add {a b : Nat} {e f g : Int} (ha : Mag e a) (hb : Mag f b) (he : e ≤ g) (hf : f ≤ g) (h1 : -500 ≤ g) (h2 : g ≤ 900) : ∃ c, fbF .add a b = some c ∧ Mag (g + 2) c := by
  obtain ⟨x, ax, bx⟩ := ha.mono he
  obtain ⟨y, ay, by'⟩ := hb.mono hf
  have hxy : (x + y).abs ≤ (2 : Rat) ^ (g + 1) := by
    have := abs_add_le x y
    rw [p2_succ]
    grind
  obtain ⟨r, z, g1, g2, g3⟩ := add_is ax ay (lt_1023_of hxy (by omega))
  exact ⟨r, g1, z, g2, (by have := rnd_mag g3 hxy (by omega); rw [show g + 2 = g + 1 + 1 by omega]; exact this)⟩

theorem mag_sub {a b : Nat} {e f g : Int} (ha : Mag e a) (hb : Mag f b) (he : e ≤ g) (hf : f ≤ g) (h1 : -500 ≤ g) (h2 : g ≤ 900) : ∃ c, fbF .sub a b = some c ∧ Mag (g + 2) c := by
  obtain ⟨x, ax, bx⟩ := ha.mono he
  obtain ⟨y, ay, by'⟩ := hb.mono hf
  have hxy : (x - y).abs ≤ (2 : Rat) ^ (g + 1) := by
    have := abs_add_le x (-y)
    rw [abs_neg, show x + -y = x - y by grind] at this
    rw [p2_succ]
    grind
  obtain ⟨r, z, g1, g2, g3⟩ := sub_is ax ay (lt_1023_of hxy (by omega))
  exact ⟨r, g1, z, g2, (by have := rnd_mag g3 hxy (by omega); rw [show g + 2 = g + 1 + 1 by omega]; exact this)⟩

theorem mag_quo {a b : Nat} {e f : Int} {y : Rat} (ha : Mag e a) (hb : Is b y) (hf : (2 : Rat) ^ f ≤ y.abs) (h1 : -500 ≤ e - f) (h2 : e - f ≤ 900) : ∃ c, fbF .quo a b = some c ∧ Mag (e - f + 1) c := by
  obtain ⟨x, ax, bx⟩ := ha
  have hy0 : 0 < y.abs := by have := p2_pos f; grind
  have hy : y ≠ 0 := by rintro rfl; rw [abs_zero] at hy0; grind
  have hq : (x / y).abs * y.abs = x.abs := by
    rw [← abs_mul]
    congr 1
    rw [Rat.div_def, Rat.mul_assoc, Rat.inv_mul_cancel _ hy, Rat.mul_one]
  have hq2 : (x / y).abs ≤ (2 : Rat) ^ (e - f) := by
    refine Rat.le_of_mul_le_mul_right (c := y.abs) ?_ hy0
    rw [hq]
    refine Rat.le_trans bx ?_
    rw [show (2 : Rat) ^ e = (2 : Rat) ^ (e - f) * (2 : Rat) ^ f by rw [← p2_add]; congr 1; omega]
    exact Rat.mul_le_mul_of_nonneg_left hf (Rat.le_of_lt (p2_pos _))
  obtain ⟨r, z, g1, g2, g3⟩ := div_is ax hb hy (by
    have h3 := p2_le (p := e - f) (q := 900) h2
    have h4 : (2 : Rat) ^ (900 + 1 : Int) ≤ (2 : Rat) ^ (1022 : Int) := p2_le (by decide)
    rw [p2_succ] at h4
    have := p2_pos 900
    grind)
  refine ⟨r, g1, z, g2, ?_⟩
  have h1' : (z - x / y).abs ≤ (2 : Rat) ^ (e - f) := by
    rcases g3.near with h | h
    · have : (x / y).abs * (2 : Rat) ^ (-52 : Int) ≤ (2 : Rat) ^ (e - f) * 1 := mul_mono' hq2 (by have := p2_le (p := -52) (q := 0) (by decide); simpa using this) (Rat.le_of_lt (p2_pos _)) (Rat.le_of_lt (p2_pos _))
      grind
    · exact Rat.le_trans h (p2_le (by omega))
  have h2' := abs_near h1'
  rw [p2_succ]
  grind

/-- a word that is written out -/
theorem mag_word {w : Nat} {e : Int} (h1 : w < 2 ^ 64) (h2 : w % 2 ^ 63 < 2047 * 2 ^ 52) (h3 : ((w % 2 ^ 63 / 2 ^ 52 : Nat) : Int) - 1022 ≤ e) (h4 : -1022 ≤ e) : Mag e w := by
  have e1 : double.signWeight = 2 ^ 63 := by decide
  have e2 : double.binade = 2 ^ 52 := by decide
  have e3 : double.infRung = 2047 * 2 ^ 52 := by decide
  have e4 : double.leastPlace = -1074 := by decide
  by_cases hs : w % 2 ^ 63 < 2 ^ 52
  · refine ⟨dv (w / 2 ^ 63 % 2 == 1) (w % 2 ^ 63) (-1074), ⟨h1, _, _, _, ?_, rfl⟩, ?_⟩
    · unfold Format.read
      simp only [e1, e2, e3, e4]
      rw [if_pos hs]
    · rw [dv_abs]
      have : ((w % 2 ^ 63 : Nat) : Rat) * (2 : Rat) ^ (-1074 : Int) ≤ ((2 ^ 52 : Nat) : Rat) * (2 : Rat) ^ (-1074 : Int) := Rat.mul_le_mul_of_nonneg_right (nat_cast_le (Nat.le_of_lt hs)) (Rat.le_of_lt (p2_pos _))
      rw [← p2_nat, ← p2_add] at this
      exact Rat.le_trans this (p2_le (by omega))
  · refine ⟨dv (w / 2 ^ 63 % 2 == 1) (2 ^ 52 + w % 2 ^ 63 % 2 ^ 52) (-1074 + (w % 2 ^ 63 / 2 ^ 52 - 1 : Nat)), ⟨h1, _, _, _, ?_, rfl⟩, ?_⟩
    · unfold Format.read
      simp only [e1, e2, e3, e4]
      rw [if_neg hs, if_pos h2]
    · rw [dv_abs]
      have hlt : 2 ^ 52 + w % 2 ^ 63 % 2 ^ 52 ≤ 2 ^ 53 := by have := Nat.mod_lt (w % 2 ^ 63) (show 0 < 2 ^ 52 by decide); omega
      have := Rat.mul_le_mul_of_nonneg_right (nat_cast_le hlt) (Rat.le_of_lt (p2_pos (-1074 + (w % 2 ^ 63 / 2 ^ 52 - 1 : Nat))))
      rw [← p2_nat, ← p2_add] at this
      exact Rat.le_trans this (p2_le (by omega))

def magB (e : Int) (w : Nat) : Bool := decide (w < 2 ^ 64) && decide (w % 2 ^ 63 < 2047 * 2 ^ 52) && decide (((w % 2 ^ 63 / 2 ^ 52 : Nat) : Int) - 1022 ≤ e) && decide (-1022 ≤ e)
theorem mag_lit {e : Int} {w : Nat} (h : magB e w = true) : Mag e w := by
  unfold magB at h
  simp only [Bool.and_eq_true, decide_eq_true_eq] at h
  exact mag_word h.1.1.1 h.1.1.2 h.1.2 h.2
theorem mag_lits {e : Int} {l : List Nat} (h : l.all (magB e) = true) : ∀ r ∈ l, Mag e r := fun r hr => mag_lit (List.all_eq_true.1 h r hr)

/-! ### Series -/
theorem series_mag {z : Nat} {f : Int} (hz : Mag f z) (hf : 0 ≤ f) : ∀ (l : List Nat) (s : Nat) (e : Int), (∀ r ∈ l, Mag 1 r) → Mag e s → 0 ≤ e → e + (f + 3) * l.length ≤ 800 →
    ∃ s', Mag (e + (f + 3) * l.length) s' ∧ ∀ (R : Type) (k : Nat → Option R), series z l s k = k s'
  | [], s, e, _, hs, _, _ => ⟨s, by simpa using hs, fun R k => rfl⟩
  | r :: l, s, e, hl, hs, he, hb => by
    have hlen : ((r :: l).length : Int) = l.length + 1 := by simp
    rw [hlen] at hb ⊢
    have hnn : 0 ≤ (f + 3) * (l.length : Int) := Int.mul_nonneg (by omega) (by omega)
    rw [Int.mul_add, Int.mul_one] at hb ⊢
    obtain ⟨p, p1, p2⟩ := mag_mul hz hs (by omega) (by omega)
    obtain ⟨q, q1, q2⟩ := mag_sub (hl r (by simp)) p2 (g := f + e + 1) (by omega) (by omega) (by omega) (by omega)
    obtain ⟨s', h1, h2⟩ := series_mag hz hf l q (f + e + 3) (fun r hr => hl r (by simp [hr])) (by rw [show f + e + 3 = f + e + 1 + 2 by omega]; exact q2) (by omega) (by omega)
    refine ⟨s', by rw [show e + ((f + 3) * (l.length : Int) + (f + 3)) = f + e + 3 + (f + 3) * (l.length : Int) by omega]; exact h1, fun R k => ?_⟩
    show bindF (fbF .mul z s) (fun p => bindF (fbF .sub r p) fun s => series z l s k) = k s'
    rw [bindF_eq p1, bindF_eq q1, h2]

theorem seriesP_mag {z : Nat} {f : Int} (hz : Mag f z) (hf : 0 ≤ f) : ∀ (l : List Nat) (s : Nat) (e : Int), (∀ r ∈ l, Mag 1 r) → Mag e s → 0 ≤ e → e + (f + 3) * l.length ≤ 800 →
    ∃ s', Mag (e + (f + 3) * l.length) s' ∧ ∀ (R : Type) (k : Nat → Option R), seriesP z l s k = k s'
  | [], s, e, _, hs, _, _ => ⟨s, by simpa using hs, fun R k => rfl⟩
  | r :: l, s, e, hl, hs, he, hb => by
    have hlen : ((r :: l).length : Int) = l.length + 1 := by simp
    rw [hlen] at hb ⊢
    have hnn : 0 ≤ (f + 3) * (l.length : Int) := Int.mul_nonneg (by omega) (by omega)
    rw [Int.mul_add, Int.mul_one] at hb ⊢
    obtain ⟨p, p1, p2⟩ := mag_mul hz hs (by omega) (by omega)
    obtain ⟨q, q1, q2⟩ := mag_add (hl r (by simp)) p2 (g := f + e + 1) (by omega) (by omega) (by omega) (by omega)
    obtain ⟨s', h1, h2⟩ := seriesP_mag hz hf l q (f + e + 3) (fun r hr => hl r (by simp [hr])) (by rw [show f + e + 3 = f + e + 1 + 2 by omega]; exact q2) (by omega) (by omega)
    refine ⟨s', by rw [show e + ((f + 3) * (l.length : Int) + (f + 3)) = f + e + 3 + (f + 3) * (l.length : Int) by omega]; exact h1, fun R k => ?_⟩
    show bindF (fbF .mul z s) (fun p => bindF (fbF .add r p) fun s => seriesP z l s k) = k s'
    rw [bindF_eq p1, bindF_eq q1, h2]
end Go.Vm
namespace Go.Vm
open Ieee
set_option linter.unusedVariables false
set_option linter.unusedSimpArgs false

/-! ### Angles always come -/
theorem core_all : coreList.all (magB 1) = true := by kernel_rfl
theorem odd_all : oddList.all (magB 1) = true := by kernel_rfl
theorem core_len : coreList.length = 25 := rfl
theorem odd_len : oddList.length = 11 := rfl

theorem mag_zero {e : Int} (he : -1022 ≤ e) : Mag e 0 := mag_word (by decide) (by decide) (by simp; omega) he

/-- one more than what is not below nought -/
theorem add_one {t : Nat} {x : Rat} (ht : Is t x) (h0 : 0 ≤ x) (h1 : x ≤ 4) : ∃ e z, fbF .add t 4607182418800017408 = some e ∧ Is e z ∧ (2 : Rat) ^ (-1 : Int) ≤ z.abs := by
  have i1 : Is 4607182418800017408 ((1 : Int) : Rat) := by
    have := ofInt_is (n := 1) (by decide)
    rw [show floatOfInt .f64 1 = 4607182418800017408 by decide] at this
    exact this
  have hx : (x + ((1 : Int) : Rat)).abs ≤ (2 : Rat) ^ (3 : Int) := by
    rw [Rat.abs_of_nonneg (by push_cast; grind)]
    have : (2 : Rat) ^ (3 : Int) = 8 := by decide
    rw [this]; push_cast; grind
  obtain ⟨e, z, g1, g2, g3⟩ := add_is ht i1 (lt_1023_of hx (by decide))
  refine ⟨e, z, g1, g2, ?_⟩
  have hc := g3.coarse
  rw [Rat.abs_of_nonneg (x := x + ((1 : Int) : Rat)) (by push_cast; grind)] at hc
  have hs : (2 : Rat) ^ (-1075 : Int) ≤ 1 / 1000 := p2_small (by decide)
  have h2 := abs_le_iff.1 hc
  have hh : (1 : Rat) = 2 * (2 : Rat) ^ (-1 : Int) := by have := p2_half 0; simpa using this
  have h3 := abs_le_self z
  have h4 : ((1 : Int) : Rat) = 1 := by norm_cast
  rw [h4] at h2
  generalize (2 : Rat) ^ (-1075 : Int) = q at *
  generalize (2 : Rat) ^ (-1 : Int) = q2 at *
  clear g1 g2 g3 hc i1 ht hx
  grind

theorem coreK_tot {t : Nat} {x : Rat} (ht : Is t x) (h0 : 0 ≤ x) (h1 : x ≤ 4) : ∃ c, Mag 700 c ∧ ∀ (R : Type) (k : Nat → Option R), coreK R t k = k c := by
  have mt : Mag 2 t := ⟨x, ht, by rw [Rat.abs_of_nonneg h0, show (2 : Rat) ^ (2 : Int) = 4 by decide]; exact h1⟩
  cases hg : gtF t 4601130706800738304 with
  | true =>
    obtain ⟨d, d1, d2⟩ := mag_sub (b := 4607182418800017408) mt (mag_lit (e := 1) (by decide)) (g := 2) (by decide) (by decide) (by decide) (by decide)
    obtain ⟨e, z, e1, e2, e3⟩ := add_one ht h0 h1
    obtain ⟨u, u1, u2⟩ := mag_quo d2 e2 e3 (by decide) (by decide)
    obtain ⟨s2, s1, s3⟩ := mag_mul u2 u2 (by decide) (by decide)
    obtain ⟨s, q1, q2⟩ := series_mag s3 (by decide) coreList 0 0 (mag_lits core_all) (mag_zero (by decide)) (by decide) (by rw [core_len]; decide)
    rw [core_len] at q1
    obtain ⟨v, v1, v2⟩ := mag_mul u2 q1 (by decide) (by decide)
    obtain ⟨y, y1, y2⟩ := mag_add (b := 4359948597267291143) v2 (mag_lit (e := 1) (by decide)) (g := 600) (by decide) (by decide) (by decide) (by decide)
    obtain ⟨c, c1, c2⟩ := mag_add (a := 4605249457297304856) (mag_lit (e := 1) (by decide)) y2 (g := 650) (by decide) (by decide) (by decide) (by decide)
    refine ⟨c, c2.mono (by decide), fun R k => ?_⟩
    unfold coreK
    rw [hg, forceB_eq]
    simp only
    rw [bindF_eq d1, bindF_eq e1, bindF_eq u1, bindF_eq s1, q2, bindF_eq v1, bindF_eq y1, bindF_eq c1]
  | false =>
    obtain ⟨s2, s1, s3⟩ := mag_mul mt mt (by decide) (by decide)
    obtain ⟨s, q1, q2⟩ := series_mag s3 (by decide) coreList 0 0 (mag_lits core_all) (mag_zero (by decide)) (by decide) (by rw [core_len]; decide)
    rw [core_len] at q1
    obtain ⟨v, v1, v2⟩ := mag_mul mt q1 (by decide) (by decide)
    refine ⟨v, v2.mono (by decide), fun R k => ?_⟩
    unfold coreK
    rw [hg, forceB_eq]
    simp only
    rw [bindF_eq s1, q2, bindF_eq v1]

theorem oddK_tot {t : Nat} (mt : Mag 3 t) : ∃ c, Mag 300 c ∧ ∀ (R : Type) (k : Nat → Option R), oddK R t k = k c := by
  obtain ⟨s, s1, s3⟩ := mag_mul mt mt (by decide) (by decide)
  obtain ⟨q, q1, q2⟩ := seriesP_mag s3 (by decide) oddList 4585925428558828667 1 (mag_lits odd_all) (mag_lit (by decide)) (by decide) (by rw [odd_len]; decide)
  rw [odd_len] at q1
  obtain ⟨a, a1, a2⟩ := mag_mul (a := 4611686018427387904) (mag_lit (e := 2) (by decide)) mt (by decide) (by decide)
  obtain ⟨x, x1, x2⟩ := mag_mul s3 q1 (by decide) (by decide)
  obtain ⟨y, y1, y2⟩ := mag_mul a2 x2 (by decide) (by decide)
  obtain ⟨c, c1, c2⟩ := mag_add a2 y2 (g := 250) (by decide) (by decide) (by decide) (by decide)
  refine ⟨c, c2.mono (by decide), fun R k => ?_⟩
  unfold oddK
  rw [bindF_eq s1, q2, bindF_eq a1, bindF_eq x1, bindF_eq y1, bindF_eq c1]
end Go.Vm
