/- The square root of a complex number on words; no conditions. Products, sums and quotients of words of bounded magnitude come and are bounded; no conditions. The series of the arctangent and the logarithm come; no conditions. -/
import Derived.Test.YtnbpfafngidimaaVmP11
import Derived.Test.YtnbpfafngidimaaVmKF
import Derived.Test.YtnbpfafngidimaaVmP3
namespace Go.Vm
open Ieee Cq
set_option linter.unusedVariables false
set_option linter.unusedSimpArgs false

theorem is0 : Is 0 0 := ⟨by decide, false, 0, -1074, by decide, dv_zero _ _⟩
theorem bindF_ok {R : Type} {o : Option Nat} {n : Nat} (h : o = some n) (k : Nat → Option R) : bindF o k = k n := by
  subst h; exact forceN_eq n k
theorem squareK_ok {x y a b c : Nat} (h1 : fbF .mul x x = some a) (h2 : fbF .mul y y = some b) (h3 : fbF .add a b = some c) {R : Type} (k : Nat → Option R) : squareK R x y k = k c := by
  unfold squareK; rw [bindF_ok h1, bindF_ok h2, bindF_ok h3]
theorem sqrtK_ok {x a : Nat} (h : double.sqrt x = some a) {R : Type} (k : Nat → Option R) : sqrtK R x k = k a := by
  unfold sqrtK; rw [bindF_ok h]
theorem absK_ok {x : Nat} {R : Type} (k : Nat → Option R) : absK R x k = k (absW x) := rfl
theorem isInfPK_no {a : Nat} {x : Rat} (h : Is a x) {R : Type} (k : Bool → Option R) : isInfPK R a k = k false := by
  show forceB (gtF a 9218868437227405311) (fun t => k t) = k false
  rw [forceB_eq, gtF_is h is_max]
  have := abs_le_max h
  have := abs_le_self x
  have : ¬ (((2 ^ 53 - 1 : Nat) : Rat) * (2 : Rat) ^ (971 : Int) < x) := by grind
  simp only [this, decide_false]
theorem isInfMK_no {a : Nat} {x : Rat} (h : Is a x) {R : Type} (k : Bool → Option R) : isInfMK R a k = k false := by
  show forceN (Op.negFloat .f64 a) (fun x => forceB (gtF x 9218868437227405311) (fun t => k t)) = k false
  rw [forceN_eq, forceB_eq, gtF_is (neg_is h) is_max]
  have := abs_le_max h
  have := abs_le_self x
  have : ¬ (((2 ^ 53 - 1 : Nat) : Rat) * (2 : Rat) ^ (971 : Int) < -x) := by grind
  simp only [this, decide_false]

def edgeK : KFFCB := edgeB isInfK isInfPK isInfMK isNanK copyK
def rootK : KCC := rootB fiReal edgeK greatestK frexpK scaleK absK squareK sqrtK copyK

theorem edgeK_is {a b : Nat} {x y : Rat} (ha : Is a x) (hb : Is b y) {R : Type} (k : Nat → Nat → Bool → Option R) :
    edgeK R a b k = if x = 0 ∧ y = 0 then k 0 b true else k 0 0 false := by
  unfold edgeK edgeB
  rw [isInfK_no hb, forceB_eq]
  simp only
  rw [isInfPK_no ha, forceB_eq]
  simp only
  rw [isInfMK_no ha, forceB_eq]
  simp only
  rw [isInfMK_no ha, forceB_eq]
  simp only
  rw [isNanK_no ha, forceB_eq]
  simp only
  rw [isNanK_no hb, forceB_eq]
  simp only
  rw [forceB_eq, eqF_is ha is0]
  by_cases h1 : x = 0
  · simp only [h1, decide_true, forceB_eq, eqF_is hb is0]
    by_cases h2 : y = 0
    · simp [h2]
    · simp [h2]
  · simp [h1]

theorem shr1 (n : Int) : shrU n 1 = n / 2 := by
  unfold shrU
  have : (2 : Int) ^ min (1 : Int).toNat IntKind.u64.bits = 2 := by decide
  rw [this, Int.fdiv_eq_ediv_of_nonneg _ (by decide)]

/-- THE ROOT on words. -/
theorem rootK_is {a b : Nat} {X Y : Rat} (ia : Is a X) (ib : Is b Y) (hX : X.abs ≤ (2 : Rat) ^ (300 : Int)) (hY : Y.abs ≤ (2 : Rat) ^ (300 : Int)) :
    ∃ p q P Q, Is p P ∧ Is q Q ∧ RootOf ⟨P, Q⟩ ⟨X, Y⟩ ∧ ∀ (R : Type) (k : Nat → Nat → Option R), rootK R a b k = k p q := by
  by_cases h0 : X = 0 ∧ Y = 0
  · obtain ⟨rfl, rfl⟩ := h0
    refine ⟨0, b, 0, 0, is0, ib, ?_, fun R k => ?_⟩
    · unfold RootOf n sub mul; simp only; grind
    · unfold rootK rootB
      rw [edgeK_is ia ib]
      simp [forceB_eq]
  obtain ⟨g, G, ig, gx, gy, hG, eg⟩ := greatestK_is ia ib
  have gne : G ≠ 0 := by
    rintro rfl
    have h1 := abs_nonneg X
    have h2 := abs_nonneg Y
    have h3 := abs_le_self X
    have h4 := abs_le_self Y
    exact h0 ⟨by grind, by grind⟩
  have G0 : 0 ≤ G := by have := abs_nonneg X; grind
  obtain ⟨w, n, l1, l2, n1, n2, ef⟩ := frexpK_is ig gne
  rw [Rat.abs_of_nonneg G0] at l1 l2
  have n3 : n ≤ 301 := by
    have h1 : G ≤ (2 : Rat) ^ (300 : Int) := by rcases hG with h | h <;> (rw [h]; assumption)
    have h2 : (2 : Rat) ^ (n - 1) < (2 : Rat) ^ (301 : Int) := by
      have := p2_succ 300
      rw [show (300 + 1 : Int) = 301 by decide] at this
      have := p2_pos 300
      grind
    have := p2_lt_of h2
    omega
  have hk1 : -600 ≤ n / 2 := by omega
  have hk2 : n / 2 ≤ 450 := by omega
  have pc := p2_pos (-2 * (n / 2))
  have top : G * (2 : Rat) ^ (-2 * (n / 2)) ≤ 2 := by
    have h1 := Rat.mul_le_mul_of_nonneg_right (Rat.le_of_lt l2) (Rat.le_of_lt pc)
    rw [← p2_add] at h1
    have h2 := p2_le (show n + -2 * (n / 2) ≤ 1 by omega)
    rw [p2_one] at h2
    exact Rat.le_trans h1 h2
  have bot : 1 / 2 ≤ G * (2 : Rat) ^ (-2 * (n / 2)) := by
    have h1 := Rat.mul_le_mul_of_nonneg_right l1 (Rat.le_of_lt pc)
    rw [← p2_add] at h1
    have h2 := p2_le (show -1 ≤ n - 1 + -2 * (n / 2) by omega)
    have h3 : (2 : Rat) ^ (-1 : Int) = 1 / 2 := by
      have := p2_half 0
      rw [Rat.zpow_zero, show (0 - 1 : Int) = -1 by decide] at this
      grind
    rw [h3] at h2
    exact Rat.le_trans h2 h1
  have ax : X.abs * (2 : Rat) ^ (-2 * (n / 2)) ≤ 2 := Rat.le_trans (Rat.mul_le_mul_of_nonneg_right gx (Rat.le_of_lt pc)) top
  have ay : (Y * (2 : Rat) ^ (-2 * (n / 2))).abs ≤ 2 := by
    rw [abs_mul, p2_abs]
    exact Rat.le_trans (Rat.mul_le_mul_of_nonneg_right gy (Rat.le_of_lt pc)) top
  have lo : 1 / 2 ≤ X.abs * (2 : Rat) ^ (-2 * (n / 2)) ∨ 1 / 2 ≤ (Y * (2 : Rat) ^ (-2 * (n / 2))).abs := by
    rcases hG with h | h
    · left; rw [← h]; exact bot
    · right; rw [abs_mul, p2_abs, ← h]; exact bot
  obtain ⟨b1, b2, m1, m2, q, r, t, h, s, S, d, Z, e1, e2, f1, f2, f3, f4, f5, f6, f7, e3, f8, iS, Z0, iD, Z1, Z2, key⟩ := root_words (abs_is ia) ib (abs_nonneg X) hk1 hk2 ax ay lo
  have hrun : ∀ (R : Type) (k : Nat → Nat → Option R), rootK R a b k = forceB (geF a 0) fun t => match t with
    | true => bindF (fbF .mul 4611686018427387904 S) fun d => bindF (fbF .quo b d) fun q => k S q
    | false => absK R b fun ay => bindF (fbF .mul 4611686018427387904 S) fun d => bindF (fbF .quo ay d) fun p => copyK R S b fun q => k p q := fun R k => by
    unfold rootK rootB
    rw [edgeK_is ia ib]
    simp only [h0, if_false, forceB_eq]
    rw [eg, ef]
    have hw : IntKind.i64.wrap (-2 * shrU n 1) = -2 * (n / 2) := by rw [shr1]; exact wrapI (by omega) (by omega)
    have fr : ∀ (R : Type) (n : Int) (k : Int → Option R), fiReal R n k = k n := fiReal_fair
    rw [absK_ok, fr, hw, e1, fr, e2, squareK_ok f1 f2 f3, sqrtK_ok f4, bindF_ok f5, bindF_ok f6, sqrtK_ok f7, shr1, e3]
    cases geF a 0 <;> rfl
  have fin : (2 : Rat) ^ (2 * (n / 2)) * (2 : Rat) ^ (2 * (n / 2)) ≤ 4 * (X.abs * X.abs + Y * Y) → (2 : Rat) ^ (2 * (n / 2)) * (2 : Rat) ^ (2 * (n / 2)) ≤ 4 * (X * X + Y * Y) := fun h => by
    rw [show X.abs * X.abs = X * X by rw [← abs_mul, Rat.abs_of_nonneg (sq_nonneg X)]] at h
    exact h
  have cpos := Rat.le_of_lt (p2_pos (2 * (n / 2)))
  by_cases hs : 0 ≤ X
  · obtain ⟨w, Q, g1, g2, g3, g4, g5⟩ := root_quo hk1 hk2 ib iD Z0 Z2 ay lo key
    rw [Rat.abs_of_nonneg hs] at g3
    refine ⟨S, w, Z, Q, iS, g2, rootOf_mk cpos g3 g4 (fin g5), fun R k => ?_⟩
    rw [hrun, forceB_eq, geF_is ia is0]
    simp only [hs, decide_true]
    rw [bindF_ok f8, bindF_ok g1]
  · have hs' : X ≤ 0 := by grind
    have ay' : (Y.abs * (2 : Rat) ^ (-2 * (n / 2))).abs = (Y * (2 : Rat) ^ (-2 * (n / 2))).abs := by
      rw [abs_mul, abs_mul, Rat.abs_of_nonneg (abs_nonneg Y)]
    obtain ⟨w, Q, g1, g2, g3, g4, g5⟩ := root_quo (b := absW b) (Y := Y.abs) hk1 hk2 (abs_is ib) iD Z0 Z2 (by rw [ay']; exact ay) (by rw [ay']; exact lo) (by rw [ay']; exact key)
    obtain ⟨v, sn, c1, c2, c3, c4⟩ := copy_is iS ib
    rw [Rat.abs_of_nonneg (Rat.le_of_lt Z0)] at c2
    rw [Rat.abs_of_nonpos hs'] at g3
    refine ⟨w, v, Q, sn * Z, g2, c2, rootOf_mk cpos (P := ⟨Q, sn * Z⟩) (d := ⟨X, Y⟩) ?_ ?_ ?_, fun R k => ?_⟩
    · have e : Q * Q - sn * Z * (sn * Z) - X = -(Z * Z - Q * Q - -X) := by
        rcases c1 with rfl | rfl <;> grind
      show (Q * Q - sn * Z * (sn * Z) - X).abs ≤ _
      rw [e, abs_neg]; exact g3
    · have e : 2 * Q * (sn * Z) - Y = sn * (2 * Z * Q - Y.abs) := by rw [← c3]; rcases c1 with rfl | rfl <;> grind
      show (2 * Q * (sn * Z) - Y).abs ≤ _
      rw [e, abs_mul]
      rcases c1 with rfl | rfl
      · rw [Rat.abs_of_nonneg (show (0 : Rat) ≤ 1 by decide), Rat.one_mul]; exact g4
      · rw [abs_neg, Rat.abs_of_nonneg (show (0 : Rat) ≤ 1 by decide), Rat.one_mul]; exact g4
    · rw [show Y.abs * Y.abs = Y * Y by rw [← abs_mul, Rat.abs_of_nonneg (sq_nonneg Y)]] at g5
      exact fin g5
    · rw [hrun, forceB_eq, geF_is ia is0]
      simp only [hs, decide_false]
      rw [absK_ok, bindF_ok f8, bindF_ok g1, c4]
end Go.Vm
namespace Go.Vm
open Ieee
set_option linter.unusedVariables false
set_option linter.unusedSimpArgs false

/-! ### Magnitudes: floats that are at most a power of two -/
def Mag (e : Int) (w : Nat) : Prop := ∃ x, Is w x ∧ x.abs ≤ (2 : Rat) ^ e

theorem Mag.mono {e f : Int} {w : Nat} (h : Mag e w) (hf : e ≤ f) : Mag f w := let ⟨x, h1, h2⟩ := h; ⟨x, h1, Rat.le_trans h2 (p2_le hf)⟩

theorem mul_mono' {x y a b : Rat} (h1 : x ≤ a) (h2 : y ≤ b) (hy : 0 ≤ y) (ha : 0 ≤ a) : x * y ≤ a * b :=
  Rat.le_trans (Rat.mul_le_mul_of_nonneg_right h1 hy) (Rat.mul_le_mul_of_nonneg_left h2 ha)

/-- what is rounded stays below twice the power -/
theorem rnd_mag {x z : Rat} {e : Int} (h : Rnd x z) (hx : x.abs ≤ (2 : Rat) ^ e) (he : -500 ≤ e) : z.abs ≤ (2 : Rat) ^ (e + 1) := by
  have h1 : (z - x).abs ≤ (2 : Rat) ^ e := by
    rcases h.near with h | h
    · have : x.abs * (2 : Rat) ^ (-53 : Int) ≤ (2 : Rat) ^ e * 1 := mul_mono' hx (by have := p2_le (p := -53) (q := 0) (by decide); simpa using this) (Rat.le_of_lt (p2_pos _)) (Rat.le_of_lt (p2_pos _))
      grind
    · exact Rat.le_trans h (p2_le (by omega))
  have h2 := abs_near h1
  rw [p2_succ]
  grind

theorem lt_1023_of {x : Rat} {e : Int} (h : x.abs ≤ (2 : Rat) ^ e) (he : e ≤ 1000) : x.abs < (2 : Rat) ^ (1023 : Int) := by
  have h1 := p2_le he
  have h2 : (2 : Rat) ^ (1000 : Int) < (2 : Rat) ^ (1023 : Int) := by
    have : (2 : Rat) ^ (1000 + 1 : Int) ≤ (2 : Rat) ^ (1023 : Int) := p2_le (by decide)
    rw [p2_succ] at this
    have := p2_pos 1000
    grind
  grind

theorem mag_mul {a b : Nat} {e f : Int} (ha : Mag e a) (hb : Mag f b) (h1 : -500 ≤ e + f) (h2 : e + f ≤ 1000) : ∃ c, fbF .mul a b = some c ∧ Mag (e + f + 1) c := by
  obtain ⟨x, ax, bx⟩ := ha
  obtain ⟨y, ay, by'⟩ := hb
  have hxy : (x * y).abs ≤ (2 : Rat) ^ (e + f) := by
    rw [abs_mul, p2_add]
    exact mul_mono' bx by' (abs_nonneg _) (Rat.le_of_lt (p2_pos _))
  obtain ⟨r, z, g1, g2, g3⟩ := mul_is ax ay (lt_1023_of hxy h2)
  exact ⟨r, g1, z, g2, rnd_mag g3 hxy h1⟩

theorem mag_add {a b : Nat} {e f g : Int} (ha : Mag e a) (hb : Mag f b) (he : e ≤ g) (hf : f ≤ g) (h1 : -500 ≤ g) (h2 : g ≤ 900) : ∃ c, fbF .add a b = some c ∧ Mag (g + 2) c := by
  obtain ⟨x, ax, bx⟩ := ha.mono he
  obtain ⟨y, ay, by'⟩ := hb.mono hf
  have hxy : (x + y).abs ≤ (2 : Rat) ^ (g + 1) := by
    have := abs_add_le x y
    rw [p2_succ]
    grind
  obtain ⟨r, z, g1, g2, g3⟩ := add_is ax ay (lt_1023_of hxy (by omega))
  exact ⟨r, g1, z, g2, (by have := rnd_mag g3 hxy (by omega); rw [show g + 2 = g + 1 + 1 by omega]; exact this)⟩

theorem mag_sub {a b : Nat} {e f g : Int} (ha : Mag e a) (hb : Mag f b) (he : e ≤ g) (hf : f ≤ g) (h1 : -500 ≤ g) (h2 : g ≤ 900) : ∃ c, fbF .sub a b = some c ∧ Mag (g + 2) c := by
  obtain ⟨x, ax, bx⟩ := ha.mono he
  obtain ⟨y, ay, by'⟩ := hb.mono hf
  have hxy : (x - y).abs ≤ (2 : Rat) ^ (g + 1) := by
    have := abs_add_le x (-y)
    rw [abs_neg, show x + -y = x - y by grind] at this
    rw [p2_succ]
    grind
  obtain ⟨r, z, g1, g2, g3⟩ := sub_is ax ay (lt_1023_of hxy (by omega))
  exact ⟨r, g1, z, g2, (by have := rnd_mag g3 hxy (by omega); rw [show g + 2 = g + 1 + 1 by omega]; exact this)⟩

theorem mag_quo {a b : Nat} {e f : Int} {y : Rat} (ha : Mag e a) (hb : Is b y) (hf : (2 : Rat) ^ f ≤ y.abs) (h1 : -500 ≤ e - f) (h2 : e - f ≤ 900) : ∃ c, fbF .quo a b = some c ∧ Mag (e - f + 1) c := by
  obtain ⟨x, ax, bx⟩ := ha
  have hy0 : 0 < y.abs := by have := p2_pos f; grind
  have hy : y ≠ 0 := by rintro rfl; rw [abs_zero] at hy0; grind
  have hq : (x / y).abs * y.abs = x.abs := by
    rw [← abs_mul]
    congr 1
    rw [Rat.div_def, Rat.mul_assoc, Rat.inv_mul_cancel _ hy, Rat.mul_one]
  have hq2 : (x / y).abs ≤ (2 : Rat) ^ (e - f) := by
    refine Rat.le_of_mul_le_mul_right (c := y.abs) ?_ hy0
    rw [hq]
    refine Rat.le_trans bx ?_
    rw [show (2 : Rat) ^ e = (2 : Rat) ^ (e - f) * (2 : Rat) ^ f by rw [← p2_add]; congr 1; omega]
    exact Rat.mul_le_mul_of_nonneg_left hf (Rat.le_of_lt (p2_pos _))
  obtain ⟨r, z, g1, g2, g3⟩ := div_is ax hb hy (by
    have h3 := p2_le (p := e - f) (q := 900) h2
    have h4 : (2 : Rat) ^ (900 + 1 : Int) ≤ (2 : Rat) ^ (1022 : Int) := p2_le (by decide)
    rw [p2_succ] at h4
    have := p2_pos 900
    grind)
  refine ⟨r, g1, z, g2, ?_⟩
  have h1' : (z - x / y).abs ≤ (2 : Rat) ^ (e - f) := by
    rcases g3.near with h | h
    · have : (x / y).abs * (2 : Rat) ^ (-52 : Int) ≤ (2 : Rat) ^ (e - f) * 1 := mul_mono' hq2 (by have := p2_le (p := -52) (q := 0) (by decide); simpa using this) (Rat.le_of_lt (p2_pos _)) (Rat.le_of_lt (p2_pos _))
      grind
    · exact Rat.le_trans h (p2_le (by omega))
  have h2' := abs_near h1'
  rw [p2_succ]
  grind

/-- a word that is written out -/
theorem mag_word {w : Nat} {e : Int} (h1 : w < 2 ^ 64) (h2 : w % 2 ^ 63 < 2047 * 2 ^ 52) (h3 : ((w % 2 ^ 63 / 2 ^ 52 : Nat) : Int) - 1022 ≤ e) (h4 : -1022 ≤ e) : Mag e w := by
  have e1 : double.signWeight = 2 ^ 63 := by decide
  have e2 : double.binade = 2 ^ 52 := by decide
  have e3 : double.infRung = 2047 * 2 ^ 52 := by decide
  have e4 : double.leastPlace = -1074 := by decide
  by_cases hs : w % 2 ^ 63 < 2 ^ 52
  · refine ⟨dv (w / 2 ^ 63 % 2 == 1) (w % 2 ^ 63) (-1074), ⟨h1, _, _, _, ?_, rfl⟩, ?_⟩
    · unfold Format.read
      simp only [e1, e2, e3, e4]
      rw [if_pos hs]
    · rw [dv_abs]
      have : ((w % 2 ^ 63 : Nat) : Rat) * (2 : Rat) ^ (-1074 : Int) ≤ ((2 ^ 52 : Nat) : Rat) * (2 : Rat) ^ (-1074 : Int) := Rat.mul_le_mul_of_nonneg_right (nat_cast_le (Nat.le_of_lt hs)) (Rat.le_of_lt (p2_pos _))
      rw [← p2_nat, ← p2_add] at this
      exact Rat.le_trans this (p2_le (by omega))
  · refine ⟨dv (w / 2 ^ 63 % 2 == 1) (2 ^ 52 + w % 2 ^ 63 % 2 ^ 52) (-1074 + (w % 2 ^ 63 / 2 ^ 52 - 1 : Nat)), ⟨h1, _, _, _, ?_, rfl⟩, ?_⟩
    · unfold Format.read
      simp only [e1, e2, e3, e4]
      rw [if_neg hs, if_pos h2]
    · rw [dv_abs]
      have hlt : 2 ^ 52 + w % 2 ^ 63 % 2 ^ 52 ≤ 2 ^ 53 := by have := Nat.mod_lt (w % 2 ^ 63) (show 0 < 2 ^ 52 by decide); omega
      have := Rat.mul_le_mul_of_nonneg_right (nat_cast_le hlt) (Rat.le_of_lt (p2_pos (-1074 + (w % 2 ^ 63 / 2 ^ 52 - 1 : Nat))))
      rw [← p2_nat, ← p2_add] at this
      exact Rat.le_trans this (p2_le (by omega))

def magB (e : Int) (w : Nat) : Bool := decide (w < 2 ^ 64) && decide (w % 2 ^ 63 < 2047 * 2 ^ 52) && decide (((w % 2 ^ 63 / 2 ^ 52 : Nat) : Int) - 1022 ≤ e) && decide (-1022 ≤ e)
theorem mag_lit {e : Int} {w : Nat} (h : magB e w = true) : Mag e w := by
  unfold magB at h
  simp only [Bool.and_eq_true, decide_eq_true_eq] at h
  exact mag_word h.1.1.1 h.1.1.2 h.1.2 h.2
theorem mag_lits {e : Int} {l : List Nat} (h : l.all (magB e) = true) : ∀ r ∈ l, Mag e r := fun r hr => mag_lit (List.all_eq_true.1 h r hr)

/-! ### Series -/
theorem series_mag {z : Nat} {f : Int} (hz : Mag f z) (hf : 0 ≤ f) : ∀ (l : List Nat) (s : Nat) (e : Int), (∀ r ∈ l, Mag 1 r) → Mag e s → 0 ≤ e → e + (f + 3) * l.length ≤ 800 →
    ∃ s', Mag (e + (f + 3) * l.length) s' ∧ ∀ (R : Type) (k : Nat → Option R), series z l s k = k s'
  | [], s, e, _, hs, _, _ => ⟨s, by simpa using hs, fun R k => rfl⟩
  | r :: l, s, e, hl, hs, he, hb => by
    have hlen : ((r :: l).length : Int) = l.length + 1 := by simp
    rw [hlen] at hb ⊢
    have hnn : 0 ≤ (f + 3) * (l.length : Int) := Int.mul_nonneg (by omega) (by omega)
    rw [Int.mul_add, Int.mul_one] at hb ⊢
    obtain ⟨p, p1, p2⟩ := mag_mul hz hs (by omega) (by omega)
    obtain ⟨q, q1, q2⟩ := mag_sub (hl r (by simp)) p2 (g := f + e + 1) (by omega) (by omega) (by omega) (by omega)
    obtain ⟨s', h1, h2⟩ := series_mag hz hf l q (f + e + 3) (fun r hr => hl r (by simp [hr])) (by rw [show f + e + 3 = f + e + 1 + 2 by omega]; exact q2) (by omega) (by omega)
    refine ⟨s', by rw [show e + ((f + 3) * (l.length : Int) + (f + 3)) = f + e + 3 + (f + 3) * (l.length : Int) by omega]; exact h1, fun R k => ?_⟩
    show bindF (fbF .mul z s) (fun p => bindF (fbF .sub r p) fun s => series z l s k) = k s'
    rw [bindF_eq p1, bindF_eq q1, h2]

theorem seriesP_mag {z : Nat} {f : Int} (hz : Mag f z) (hf : 0 ≤ f) : ∀ (l : List Nat) (s : Nat) (e : Int), (∀ r ∈ l, Mag 1 r) → Mag e s → 0 ≤ e → e + (f + 3) * l.length ≤ 800 →
    ∃ s', Mag (e + (f + 3) * l.length) s' ∧ ∀ (R : Type) (k : Nat → Option R), seriesP z l s k = k s'
  | [], s, e, _, hs, _, _ => ⟨s, by simpa using hs, fun R k => rfl⟩
  | r :: l, s, e, hl, hs, he, hb => by
    have hlen : ((r :: l).length : Int) = l.length + 1 := by simp
    rw [hlen] at hb ⊢
    have hnn : 0 ≤ (f + 3) * (l.length : Int) := Int.mul_nonneg (by omega) (by omega)
    rw [Int.mul_add, Int.mul_one] at hb ⊢
    obtain ⟨p, p1, p2⟩ := mag_mul hz hs (by omega) (by omega)
    obtain ⟨q, q1, q2⟩ := mag_add (hl r (by simp)) p2 (g := f + e + 1) (by omega) (by omega) (by omega) (by omega)
    obtain ⟨s', h1, h2⟩ := seriesP_mag hz hf l q (f + e + 3) (fun r hr => hl r (by simp [hr])) (by rw [show f + e + 3 = f + e + 1 + 2 by omega]; exact q2) (by omega) (by omega)
    refine ⟨s', by rw [show e + ((f + 3) * (l.length : Int) + (f + 3)) = f + e + 3 + (f + 3) * (l.length : Int) by omega]; exact h1, fun R k => ?_⟩
    show bindF (fbF .mul z s) (fun p => bindF (fbF .add r p) fun s => seriesP z l s k) = k s'
    rw [bindF_eq p1, bindF_eq q1, h2]
end Go.Vm
namespace Go.Vm
open Ieee
set_option linter.unusedVariables false
set_option linter.unusedSimpArgs false

/-! ### Angles always come -/
theorem core_all : coreList.all (magB 1) = true := by kernel_rfl
theorem odd_all : oddList.all (magB 1) = true := by kernel_rfl
theorem core_len : coreList.length = 25 := rfl
theorem odd_len : oddList.length = 11 := rfl

theorem mag_zero {e : Int} (he : -1022 ≤ e) : Mag e 0 := mag_word (by decide) (by decide) (by simp; omega) he

/-- one more than what is not below nought -/
theorem add_one {t : Nat} {x : Rat} (ht : Is t x) (h0 : 0 ≤ x) (h1 : x ≤ 4) : ∃ e z, fbF .add t 4607182418800017408 = some e ∧ Is e z ∧ (2 : Rat) ^ (-1 : Int) ≤ z.abs := by
  have i1 : Is 4607182418800017408 ((1 : Int) : Rat) := by
    have := ofInt_is (n := 1) (by decide)
    rw [show floatOfInt .f64 1 = 4607182418800017408 by decide] at this
    exact this
  have hx : (x + ((1 : Int) : Rat)).abs ≤ (2 : Rat) ^ (3 : Int) := by
    rw [Rat.abs_of_nonneg (by push_cast; grind)]
    have : (2 : Rat) ^ (3 : Int) = 8 := by decide
    rw [this]; push_cast; grind
  obtain ⟨e, z, g1, g2, g3⟩ := add_is ht i1 (lt_1023_of hx (by decide))
  refine ⟨e, z, g1, g2, ?_⟩
  have hc := g3.coarse
  rw [Rat.abs_of_nonneg (x := x + ((1 : Int) : Rat)) (by push_cast; grind)] at hc
  have hs : (2 : Rat) ^ (-1075 : Int) ≤ 1 / 1000 := p2_small (by decide)
  have h2 := abs_le_iff.1 hc
  have hh : (1 : Rat) = 2 * (2 : Rat) ^ (-1 : Int) := by have := p2_half 0; simpa using this
  have h3 := abs_le_self z
  have h4 : ((1 : Int) : Rat) = 1 := by norm_cast
  rw [h4] at h2
  generalize (2 : Rat) ^ (-1075 : Int) = q at *
  generalize (2 : Rat) ^ (-1 : Int) = q2 at *
  clear g1 g2 g3 hc i1 ht hx
  grind

theorem coreK_tot {t : Nat} {x : Rat} (ht : Is t x) (h0 : 0 ≤ x) (h1 : x ≤ 4) : ∃ c, Mag 700 c ∧ ∀ (R : Type) (k : Nat → Option R), coreK R t k = k c := by
  have mt : Mag 2 t := ⟨x, ht, by rw [Rat.abs_of_nonneg h0, show (2 : Rat) ^ (2 : Int) = 4 by decide]; exact h1⟩
  cases hg : gtF t 4601130706800738304 with
  | true =>
    obtain ⟨d, d1, d2⟩ := mag_sub (b := 4607182418800017408) mt (mag_lit (e := 1) (by decide)) (g := 2) (by decide) (by decide) (by decide) (by decide)
    obtain ⟨e, z, e1, e2, e3⟩ := add_one ht h0 h1
    obtain ⟨u, u1, u2⟩ := mag_quo d2 e2 e3 (by decide) (by decide)
    obtain ⟨s2, s1, s3⟩ := mag_mul u2 u2 (by decide) (by decide)
    obtain ⟨s, q1, q2⟩ := series_mag s3 (by decide) coreList 0 0 (mag_lits core_all) (mag_zero (by decide)) (by decide) (by rw [core_len]; decide)
    rw [core_len] at q1
    obtain ⟨v, v1, v2⟩ := mag_mul u2 q1 (by decide) (by decide)
    obtain ⟨y, y1, y2⟩ := mag_add (b := 4359948597267291143) v2 (mag_lit (e := 1) (by decide)) (g := 600) (by decide) (by decide) (by decide) (by decide)
    obtain ⟨c, c1, c2⟩ := mag_add (a := 4605249457297304856) (mag_lit (e := 1) (by decide)) y2 (g := 650) (by decide) (by decide) (by decide) (by decide)
    refine ⟨c, c2.mono (by decide), fun R k => ?_⟩
    unfold coreK
    rw [hg, forceB_eq]
    simp only
    rw [bindF_eq d1, bindF_eq e1, bindF_eq u1, bindF_eq s1, q2, bindF_eq v1, bindF_eq y1, bindF_eq c1]
  | false =>
    obtain ⟨s2, s1, s3⟩ := mag_mul mt mt (by decide) (by decide)
    obtain ⟨s, q1, q2⟩ := series_mag s3 (by decide) coreList 0 0 (mag_lits core_all) (mag_zero (by decide)) (by decide) (by rw [core_len]; decide)
    rw [core_len] at q1
    obtain ⟨v, v1, v2⟩ := mag_mul mt q1 (by decide) (by decide)
    refine ⟨v, v2.mono (by decide), fun R k => ?_⟩
    unfold coreK
    rw [hg, forceB_eq]
    simp only
    rw [bindF_eq s1, q2, bindF_eq v1]

theorem oddK_tot {t : Nat} (mt : Mag 3 t) : ∃ c, Mag 300 c ∧ ∀ (R : Type) (k : Nat → Option R), oddK R t k = k c := by
  obtain ⟨s, s1, s3⟩ := mag_mul mt mt (by decide) (by decide)
  obtain ⟨q, q1, q2⟩ := seriesP_mag s3 (by decide) oddList 4585925428558828667 1 (mag_lits odd_all) (mag_lit (by decide)) (by decide) (by rw [odd_len]; decide)
  rw [odd_len] at q1
  obtain ⟨a, a1, a2⟩ := mag_mul (a := 4611686018427387904) (mag_lit (e := 2) (by decide)) mt (by decide) (by decide)
  obtain ⟨x, x1, x2⟩ := mag_mul s3 q1 (by decide) (by decide)
  obtain ⟨y, y1, y2⟩ := mag_mul a2 x2 (by decide) (by decide)
  obtain ⟨c, c1, c2⟩ := mag_add a2 y2 (g := 250) (by decide) (by decide) (by decide) (by decide)
  refine ⟨c, c2.mono (by decide), fun R k => ?_⟩
  unfold oddK
  rw [bindF_eq s1, q2, bindF_eq a1, bindF_eq x1, bindF_eq y1, bindF_eq c1]
end Go.Vm
