/- Sums, products and quotients of words, bounded by values; no conditions. Parts of the arctangent on words, bounded; no conditions. The arctangent on words, bounded; no conditions. The angle of a word of two whole parts is at most 16; no conditions. The parts of a float, by value; no conditions. The logarithm of a word, bounded; no conditions. What is within a bound is a finite number; no conditions. Contracts that tell at once what is so, and go on if it is; no conditions. What ForceLift and its small functions compute, in Lean; no conditions. Relative errors, and the words of Pi and of its inverse; no conditions. The rest by 1000, nearness, and clean, of whole numbers; no conditions. How near a product in six roundings comes to a whole number; no conditions. A part of the evaluator and of what is told of floats; no conditions. -/
import Derived.Test.YtnbpfafngidimaaGreatVmP7
namespace Go.Vm
open Ieee
set_option linter.unusedVariables false
set_option linter.unusedSimpArgs false

/-! ### Bounds by values -/
def Bv (B : Rat) (w : Nat) : Prop := ∃ x, Is w x ∧ x.abs ≤ B
theorem Bv.mono {A B : Rat} {w : Nat} (h : Bv A w) (hb : A ≤ B) : Bv B w := let ⟨x, h1, h2⟩ := h; ⟨x, h1, Rat.le_trans h2 hb⟩
theorem Bv.nonneg {B : Rat} {w : Nat} (h : Bv B w) : 0 ≤ B := by obtain ⟨x, _, h⟩ := h; have := abs_nonneg x; grind
theorem bd_lit {e : Int} {B : Rat} {w : Nat} (h : magB e w = true) (hb : (2 : Rat) ^ e ≤ B) : Bv B w := by
  obtain ⟨x, h1, h2⟩ := mag_lit h
  exact ⟨x, h1, Rat.le_trans h2 hb⟩
theorem bd_rnd {x z A C : Rat} (h : Rnd x z) (hx : x.abs ≤ A) (hC : A * (1001 / 1000) + 1 / 1000 ≤ C) : z.abs ≤ C := by
  have h1 := h.coarse
  have h2 : (2 : Rat) ^ (-1075 : Int) ≤ 1 / 1000 := p2_small (by decide)
  have h3 := abs_near h1
  generalize (2 : Rat) ^ (-1075 : Int) = t at *
  grind
theorem bd_mul {a b : Nat} {A B C : Rat} (ha : Bv A a) (hb : Bv B b) (h : A * B * (1001 / 1000) + 1 / 1000 ≤ C) (hC : C ≤ 1000) : ∃ c, fbF .mul a b = some c ∧ Bv C c := by
  have hA := ha.nonneg
  have hB := hb.nonneg
  obtain ⟨x, ax, bx⟩ := ha
  obtain ⟨y, ay, by'⟩ := hb
  have hxy : (x * y).abs ≤ A * B := by rw [abs_mul]; exact mul_mono' bx by' (abs_nonneg _) hA
  have := Rat.mul_nonneg hA hB
  obtain ⟨r, z, g1, g2, g3⟩ := mul_is ax ay (lt_p2_1023 (by grind))
  exact ⟨r, g1, z, g2, bd_rnd g3 hxy h⟩
theorem bd_add {a b : Nat} {A B C : Rat} (ha : Bv A a) (hb : Bv B b) (h : (A + B) * (1001 / 1000) + 1 / 1000 ≤ C) (hC : C ≤ 1000) : ∃ c, fbF .add a b = some c ∧ Bv C c := by
  have hA := ha.nonneg
  have hB := hb.nonneg
  obtain ⟨x, ax, bx⟩ := ha
  obtain ⟨y, ay, by'⟩ := hb
  have hxy : (x + y).abs ≤ A + B := by have := abs_add_le x y; grind
  obtain ⟨r, z, g1, g2, g3⟩ := add_is ax ay (lt_p2_1023 (by grind))
  exact ⟨r, g1, z, g2, bd_rnd g3 hxy h⟩
theorem bd_sub {a b : Nat} {A B C : Rat} (ha : Bv A a) (hb : Bv B b) (h : (A + B) * (1001 / 1000) + 1 / 1000 ≤ C) (hC : C ≤ 1000) : ∃ c, fbF .sub a b = some c ∧ Bv C c := by
  have hA := ha.nonneg
  have hB := hb.nonneg
  obtain ⟨x, ax, bx⟩ := ha
  obtain ⟨y, ay, by'⟩ := hb
  have hxy : (x - y).abs ≤ A + B := by have := abs_add_le x (-y); rw [abs_neg, show x + -y = x - y by grind] at this; grind
  obtain ⟨r, z, g1, g2, g3⟩ := sub_is ax ay (lt_p2_1023 (by grind))
  exact ⟨r, g1, z, g2, bd_rnd g3 hxy h⟩
theorem bd_quo {a b : Nat} {A D Q C y : Rat} (ha : Bv A a) (hb : Is b y) (hD : D ≤ y.abs) (hD0 : 0 < D) (hQ : A ≤ Q * D) (hQ0 : 0 ≤ Q) (h : Q * (1001 / 1000) + 1 / 1000 ≤ C) (hC : C ≤ 500) : ∃ c, fbF .quo a b = some c ∧ Bv C c := by
  obtain ⟨x, ax, bx⟩ := ha
  have hy0 : 0 < y.abs := by grind
  have hy : y ≠ 0 := by rintro rfl; rw [abs_zero] at hy0; grind
  have hq : (x / y).abs * y.abs = x.abs := by
    rw [← abs_mul]
    congr 1
    rw [Rat.div_def, Rat.mul_assoc, Rat.inv_mul_cancel _ hy, Rat.mul_one]
  have hq2 : (x / y).abs ≤ Q := by
    refine Rat.le_of_mul_le_mul_right (c := y.abs) ?_ hy0
    rw [hq]
    refine Rat.le_trans bx (Rat.le_trans hQ ?_)
    exact Rat.mul_le_mul_of_nonneg_left hD hQ0
  obtain ⟨r, z, g1, g2, g3⟩ := div_is ax hb hy (by
    have h1 : (x / y).abs ≤ (2 : Rat) ^ (9 : Int) := by
      have : (2 : Rat) ^ (9 : Int) = 512 := by rw [show (9 : Int) = ((9 : Nat) : Int) by rfl, p2_nat]; rfl
      rw [this]; grind
    have h2 : (2 : Rat) ^ (9 + 1 : Int) ≤ (2 : Rat) ^ (1022 : Int) := p2_le (by decide)
    rw [p2_succ] at h2
    have := p2_pos 9
    grind)
  refine ⟨r, g1, z, g2, ?_⟩
  have e52 : (2 : Rat) ^ (-52 : Int) ≤ 2 / 1000 := by
    have h7 := p2_half (-52)
    rw [show (-52 - 1 : Int) = -53 by decide] at h7
    have := e53_le
    grind
  have e1074 : (2 : Rat) ^ (-1074 : Int) ≤ 1 / 1000 := p2_small (by decide)
  have h8 : (z - x / y).abs ≤ (x / y).abs * (1 / 1000) + 1 / 1000 := by
    rcases g3.near with g | g
    · have e53 : (2 : Rat) ^ (-52 : Int) ≤ 1 / 1000 := by
        have h7 := p2_half (-51)
        rw [show (-51 - 1 : Int) = -52 by decide] at h7
        exact p2_le (show (-52 : Int) ≤ -52 by decide) |> fun _ => Rat.le_trans (p2_le (show (-52 : Int) ≤ -10 by decide)) (by
          have h10 := p2_cancel 10
          have : (2 : Rat) ^ (10 : Int) = 1024 := by rw [show (10 : Int) = ((10 : Nat) : Int) by rfl, p2_nat]; rfl
          rw [this] at h10
          grind)
      have := Rat.mul_le_mul_of_nonneg_left e53 (abs_nonneg (x / y))
      grind
    · have := abs_nonneg (x / y)
      grind
  have h9 := abs_near h8
  grind

/-! ### The series of an angle -/
theorem series_bd {z : Nat} (hz : Bv (3 / 8) z) : ∀ (l : List Nat) (s : Nat), (∀ r ∈ l, Bv 2 r) → Bv 4 s → ∃ s', Bv 4 s' ∧ ∀ (R : Type) (k : Nat → Option R), series z l s k = k s'
  | [], s, _, hs => ⟨s, hs, fun R k => rfl⟩
  | r :: l, s, hl, hs => by
    obtain ⟨p, p1, p2⟩ := bd_mul hz hs (C := 8 / 5) (by grind) (by grind)
    obtain ⟨q, q1, q2⟩ := bd_sub (hl r (by simp)) p2 (C := 4) (by grind) (by grind)
    obtain ⟨s', h1, h2⟩ := series_bd hz l q (fun r hr => hl r (by simp [hr])) q2
    refine ⟨s', h1, fun R k => ?_⟩
    show bindF (fbF .mul z s) (fun p => bindF (fbF .sub r p) fun s => series z l s k) = k s'
    rw [bindF_eq p1, bindF_eq q1, h2]
theorem core_bd : ∀ r ∈ coreList, Bv 2 r := fun r hr => by
  obtain ⟨x, h1, h2⟩ := mag_lits core_all r hr
  exact ⟨x, h1, by rw [p2_one] at h2; exact h2⟩
end Go.Vm
namespace Go.Vm
open Ieee
set_option linter.unusedVariables false
set_option linter.unusedSimpArgs false

/-! ### Angles, by values -/
theorem far_is : ∃ c0, Is 4601130706800738304 c0 ∧ 1 / 4 ≤ c0 ∧ c0 ≤ 1 / 2 := by
  have h1 := fields_is (s := false) (E := 1021) (f := 4601130706800738304 - 1021 * 2 ^ 52) (by decide) (by decide) (by decide)
  obtain ⟨h2, h3⟩ := dv_band (s := false) (E := 1021) (f := 4601130706800738304 - 1021 * 2 ^ 52) (by decide)
  have e : (if false = true then 2 ^ 63 else 0) + 1021 * 2 ^ 52 + (4601130706800738304 - 1021 * 2 ^ 52) = 4601130706800738304 := by decide
  rw [e] at h1
  refine ⟨_, h1, ?_, ?_⟩
  · have hp : 0 ≤ dv false (2 ^ 52 + (4601130706800738304 - 1021 * 2 ^ 52)) (((1021 : Nat) : Int) - 1075) := by
      unfold dv sg
      have := Rat.mul_nonneg (show (0 : Rat) ≤ ((2 ^ 52 + (4601130706800738304 - 1021 * 2 ^ 52) : Nat) : Rat) by exact_mod_cast Nat.zero_le _) (Rat.le_of_lt (p2_pos (((1021 : Nat) : Int) - 1075)))
      simp only [Bool.false_eq_true, if_false]
      grind
    rw [Rat.abs_of_nonneg hp] at h2
    have h4 := p2_cancel 2
    have h5 : (2 : Rat) ^ (2 : Int) = 4 := by rw [show (2 : Int) = ((2 : Nat) : Int) by rfl, p2_nat]; rfl
    rw [h5] at h4
    have h6 : (2 : Rat) ^ (((1021 : Nat) : Int) - 1023) = (2 : Rat) ^ (-2 : Int) := by rfl
    rw [h6] at h2
    generalize dv false (2 ^ 52 + (4601130706800738304 - 1021 * 2 ^ 52)) (((1021 : Nat) : Int) - 1075) = g at *
    generalize (2 : Rat) ^ (-2 : Int) = q at *
    grind
  · have h4 := p2_half 0
    have h6 : (2 : Rat) ^ (((1021 : Nat) : Int) - 1022) = (2 : Rat) ^ (-1 : Int) := by rfl
    rw [h6] at h3
    rw [show (2 : Rat) ^ (0 : Int) = 1 by simp, show (0 - 1 : Int) = -1 by decide] at h4
    have := (abs_le_self (dv false (2 ^ 52 + (4601130706800738304 - 1021 * 2 ^ 52)) (((1021 : Nat) : Int) - 1075))).1
    generalize dv false (2 ^ 52 + (4601130706800738304 - 1021 * 2 ^ 52)) (((1021 : Nat) : Int) - 1075) = g at *
    generalize (2 : Rat) ^ (-1 : Int) = q at *
    grind

theorem bd_one {e : Int} {w : Nat} (h : magB 0 w = true) : Bv 1 w := by
  refine bd_lit h ?_
  rw [show (2 : Rat) ^ (0 : Int) = 1 by simp]
  exact Rat.le_refl

theorem coreK_val {t : Nat} {x : Rat} (ht : Is t x) (h0 : -1 / 2 ≤ x) (h1 : x ≤ 101 / 100) : ∃ c, Bv 5 c ∧ ∀ (R : Type) (k : Nat → Option R), coreK R t k = k c := by
  obtain ⟨c0, ic, c1, c2⟩ := far_is
  have hg := gtF_is ht ic
  by_cases hx : c0 < x
  · rw [decide_eq_true hx] at hg
    obtain ⟨d, z, d1, d2, d3⟩ := sub_is ht is_oneI (lt_p2_1023 (x := x - ((1 : Int) : Rat)) (by rw [show ((1 : Int) : Rat) = 1 by norm_cast]; exact abs_le_iff.2 ⟨by grind, by grind⟩))
    have b1 : Bv (752 / 1000) d := ⟨z, d2, bd_rnd (A := 3 / 4) d3 (by rw [show ((1 : Int) : Rat) = 1 by norm_cast]; exact abs_le_iff.2 ⟨by grind, by grind⟩) (by grind)⟩
    obtain ⟨e, y, e1, e2, e3⟩ := add_is ht is_oneI (lt_p2_1023 (x := x + ((1 : Int) : Rat)) (by rw [show ((1 : Int) : Rat) = 1 by norm_cast]; exact abs_le_iff.2 ⟨by grind, by grind⟩))
    have hy : 1247 / 1000 ≤ y.abs := by
      have hc := e3.coarse
      have hs : (2 : Rat) ^ (-1075 : Int) ≤ 1 / 1000 := p2_small (by decide)
      rw [show ((1 : Int) : Rat) = 1 by norm_cast, Rat.abs_of_nonneg (x := x + 1) (by grind)] at hc
      have h2 := abs_le_iff.1 hc
      have h3 := (abs_le_self y).1
      generalize (2 : Rat) ^ (-1075 : Int) = q at *
      grind
    obtain ⟨u, u1, u2⟩ := bd_quo b1 e2 hy (by grind) (Q := 604 / 1000) (C := 606 / 1000) (by grind) (by grind) (by grind) (by grind)
    obtain ⟨s2, s1, s3⟩ := bd_mul u2 u2 (C := 3 / 8) (by grind) (by grind)
    obtain ⟨s, q1, q2⟩ := series_bd s3 coreList 0 core_bd (show Bv 4 0 from ⟨0, is0, by rw [abs_zero]; grind⟩)
    obtain ⟨v, v1, v2⟩ := bd_mul u2 q1 (C := 5 / 2) (by grind) (by grind)
    obtain ⟨w, w1, w2⟩ := bd_add (b := 4359948597267291143) v2 (bd_one (e := 0) (by decide)) (C := 18 / 5) (by grind) (by grind)
    obtain ⟨c, k1, k2⟩ := bd_add (a := 4605249457297304856) (bd_one (e := 0) (by decide)) w2 (C := 5) (by grind) (by grind)
    refine ⟨c, k2, fun R k => ?_⟩
    unfold coreK
    rw [hg, forceB_eq]
    simp only
    rw [bindF_eq d1, bindF_eq e1, bindF_eq u1, bindF_eq s1, q2, bindF_eq v1, bindF_eq w1, bindF_eq k1]
  · rw [decide_eq_false hx] at hg
    have bt : Bv (1 / 2) t := ⟨x, ht, abs_le_iff.2 ⟨by grind, by grind⟩⟩
    obtain ⟨s2, s1, s3⟩ := bd_mul bt bt (C := 3 / 8) (by grind) (by grind)
    obtain ⟨s, q1, q2⟩ := series_bd s3 coreList 0 core_bd (show Bv 4 0 from ⟨0, is0, by rw [abs_zero]; grind⟩)
    obtain ⟨v, v1, v2⟩ := bd_mul bt q1 (C := 5) (by grind) (by grind)
    refine ⟨v, v2, fun R k => ?_⟩
    unfold coreK
    rw [hg, forceB_eq]
    simp only
    rw [bindF_eq s1, q2, bindF_eq v1]
end Go.Vm
namespace Go.Vm
open Ieee
set_option linter.unusedVariables false
set_option linter.unusedSimpArgs false

/-! ### Every angle of finite floats comes -/
theorem ratio_is {p q : Nat} {P Q : Rat} (hp : Is p P) (hq : Is q Q) (h0 : 0 ≤ P) (h1 : P ≤ Q) (h2 : 0 < Q) : ∃ t v, fbF .quo p q = some t ∧ Is t v ∧ -1 / 2 ≤ v ∧ v ≤ 101 / 100 := by
  have hQ : Q ≠ 0 := by grind
  have hr : (P / Q) * Q = P := by rw [Rat.div_def, Rat.mul_assoc, Rat.inv_mul_cancel _ hQ, Rat.mul_one]
  have r0 : 0 ≤ P / Q := Rat.le_of_mul_le_mul_right (c := Q) (by rw [hr, Rat.zero_mul]; exact h0) h2
  have r1 : P / Q ≤ 1 := Rat.le_of_mul_le_mul_right (c := Q) (by rw [hr, Rat.one_mul]; exact h1) h2
  have ra : (P / Q).abs = P / Q := Rat.abs_of_nonneg r0
  obtain ⟨t, v, g1, g2, g3⟩ := div_is hp hq hQ (by
    rw [ra]
    have h3 : (2 : Rat) ^ (1 : Int) ≤ (2 : Rat) ^ (1022 : Int) := p2_le (by decide)
    rw [p2_one] at h3
    grind)
  refine ⟨t, v, g1, g2, ?_⟩
  have hn : (v - P / Q).abs ≤ 1 / 1000 := by
    rcases g3.near with g | g
    · rw [ra] at g
      have e : (2 : Rat) ^ (-52 : Int) ≤ 1 / 1000 := Rat.le_trans (p2_le (show (-52 : Int) ≤ -10 by decide)) (by
        have h10 := p2_cancel 10
        have : (2 : Rat) ^ (10 : Int) = 1024 := by rw [show (10 : Int) = ((10 : Nat) : Int) by rfl, p2_nat]; rfl
        rw [this] at h10
        grind)
      have := mul_mono' r1 e (Rat.le_of_lt (p2_pos _)) (by decide)
      grind
    · exact Rat.le_trans g (p2_small (by decide))
  have := abs_le_iff.1 hn
  constructor <;> grind

theorem minusK_tot (w : Nat) : ∃ t, ∀ (R : Type) (k : Bool → Option R), minusK R w k = k t := by
  cases h : eqF w w with
  | true =>
    refine ⟨decide (IntKind.i64.wrap (w : Int) < 0), fun R k => ?_⟩
    unfold minusK minusB signK signB
    rw [h, forceB_eq]
    simp only
    rw [fiReal_fair, forceB_eq, forceB_eq]
  | false =>
    refine ⟨false, fun R k => ?_⟩
    unfold minusK minusB
    rw [h, forceB_eq]

theorem bd_abs {B : Rat} {w : Nat} (h : Bv B w) : Bv B (absW w) := by
  obtain ⟨x, h1, h2⟩ := h
  exact ⟨x.abs, abs_is h1, by rw [Rat.abs_of_nonneg (abs_nonneg x)]; exact h2⟩
theorem bd_neg {B : Rat} {w : Nat} (h : Bv B w) : Bv B (Op.negFloat .f64 w) := by
  obtain ⟨x, h1, h2⟩ := h
  exact ⟨-x, neg_is h1, by rw [abs_neg]; exact h2⟩

theorem signedK_tot {B : Rat} {a b : Nat} (h : Bv B a) : ∃ c, Bv B c ∧ ∀ (R : Type) (k : Nat → Option R), signedK R a b k = k c := by
  obtain ⟨t, ht⟩ := minusK_tot b
  cases t with
  | true =>
    refine ⟨Op.negFloat .f64 (absW a), bd_neg (bd_abs h), fun R k => ?_⟩
    unfold signedK signedB
    rw [ht, forceB_eq]
    simp only
    rw [absK_ok, forceN_eq]
  | false =>
    refine ⟨absW a, bd_abs h, fun R k => ?_⟩
    unfold signedK signedB
    rw [ht, forceB_eq]
    simp only
    rw [absK_ok]

def restA {R : Type} (x y b : Nat) (k : Nat → Option R) : Option R := minusK R x fun t => forceB t fun t => match t with
  | true => bindF (fbF .sub b 4368955796522032135) fun c => bindF (fbF .sub 4614256656552045848 c) fun b => signedK R b y k
  | false => signedK R b y k
theorem restA_tot {x y b : Nat} (hb : Bv 9 b) : ∃ c, Bv 16 c ∧ ∀ (R : Type) (k : Nat → Option R), restA x y b k = k c := by
  obtain ⟨t, ht⟩ := minusK_tot x
  cases t with
  | true =>
    obtain ⟨c, c1, c2⟩ := bd_sub (b := 4368955796522032135) hb (bd_one (e := 0) (by decide)) (C := 101 / 10) (by grind) (by grind)
    have b4 : Bv 4 4614256656552045848 := bd_lit (e := 2) (by decide) (by rw [show (2 : Int) = ((2 : Nat) : Int) by rfl, p2_nat]; exact Rat.le_refl)
    obtain ⟨d, d1, d2⟩ := bd_sub b4 c2 (C := 16) (by grind) (by grind)
    obtain ⟨e, e1, e2⟩ := signedK_tot (b := y) d2
    refine ⟨e, e1, fun R k => ?_⟩
    unfold restA
    rw [ht, forceB_eq]
    simp only
    rw [bindF_eq c1, bindF_eq d1, e2]
  | false =>
    obtain ⟨e, e1, e2⟩ := signedK_tot (b := y) (hb.mono (B := 16) (by grind))
    refine ⟨e, e1, fun R k => ?_⟩
    unfold restA
    rw [ht, forceB_eq]
    exact e2 R k
end Go.Vm
namespace Go.Vm
open Ieee
set_option linter.unusedVariables false
set_option linter.unusedSimpArgs false

theorem angleK_def {R : Type} (y x : Nat) (k : Nat → Option R) : angleK R y x k = forceB (neF y y) fun t => match t with
  | true => none
  | false => forceB (neF x x) fun t => match t with
    | true => none
    | false => forceB (eqF (absW y) 0) fun t => match t with
      | true => restA x y 0 k
      | false =>
        let three : Option R := forceB (leF (absW y) (absW x)) fun t => match t with
          | true => bindF (fbF .quo (absW y) (absW x)) fun t => coreK R t fun b => restA x y b k
          | false => bindF (fbF .quo (absW x) (absW y)) fun t => coreK R t fun c => bindF (fbF .sub c 4364452196894661639) fun d => bindF (fbF .sub 4609753056924675352 d) fun b => restA x y b k
        forceB (eqF (absW y) (absW x)) fun t => match t with
        | true => isInfPK R (absW y) fun t => forceB t fun t => match t with
          | true => restA x y 4605249457297304856 k
          | false => three
        | false => three := rfl

theorem angleK_val {a b : Nat} {y x : Rat} (ha : Is a y) (hb : Is b x) : ∃ c, Bv 16 c ∧ ∀ (R : Type) (k : Nat → Option R), angleK R a b k = k c := by
  have pa := abs_is ha
  have pb := abs_is hb
  have start : ∀ (R : Type) (k : Nat → Option R), angleK R a b k = forceB (eqF (absW a) 0) fun t => match t with
      | true => restA b a 0 k
      | false =>
        let three : Option R := forceB (leF (absW a) (absW b)) fun t => match t with
          | true => bindF (fbF .quo (absW a) (absW b)) fun t => coreK R t fun c => restA b a c k
          | false => bindF (fbF .quo (absW b) (absW a)) fun t => coreK R t fun c => bindF (fbF .sub c 4364452196894661639) fun d => bindF (fbF .sub 4609753056924675352 d) fun c => restA b a c k
        three := fun R k => by
    rw [angleK_def, forceB_eq, neF_is ha ha]
    simp only [decide_true, Bool.not_true]
    rw [forceB_eq, neF_is hb hb]
    simp only [decide_true, Bool.not_true]
    congr 1
    funext t
    cases t with
    | true => rfl
    | false =>
      simp only
      rw [forceB_eq]
      cases eqF (absW a) (absW b) with
      | false => rfl
      | true =>
        simp only
        rw [isInfPK_no pa, forceB_eq]
  have h0 : eqF (absW a) 0 = decide (y.abs = 0) := by
    rw [eqF_is pa is0]
  by_cases hy : y.abs = 0
  · obtain ⟨c, c1, c2⟩ := restA_tot (x := b) (y := a) (b := 0) ⟨0, is0, by rw [abs_zero]; grind⟩
    refine ⟨c, c1, fun R k => ?_⟩
    rw [start, forceB_eq, h0]
    simp only [hy, decide_true]
    exact c2 R k
  · have hy0 : 0 < y.abs := by have := abs_nonneg y; grind
    by_cases hle : y.abs ≤ x.abs
    · obtain ⟨t, v, t1, t2, t3, t4⟩ := ratio_is pa pb (abs_nonneg y) hle (by grind)
      obtain ⟨c, c1, c2⟩ := coreK_val t2 t3 t4
      obtain ⟨e, e1, e2⟩ := restA_tot (x := b) (y := a) (c1.mono (B := 9) (by grind))
      refine ⟨e, e1, fun R k => ?_⟩
      rw [start, forceB_eq, h0]
      simp only [hy, decide_false]
      rw [forceB_eq, leF_is pa pb]
      simp only [hle, decide_true]
      rw [bindF_eq t1, c2, e2]
    · obtain ⟨t, v, t1, t2, t3, t4⟩ := ratio_is pb pa (abs_nonneg x) (by grind) hy0
      obtain ⟨c, c1, c2⟩ := coreK_val t2 t3 t4
      obtain ⟨d, d1, d2⟩ := bd_sub (b := 4364452196894661639) c1 (bd_one (e := 0) (by decide)) (C := 61 / 10) (by grind) (by grind)
      have b2 : Bv 2 4609753056924675352 := bd_lit (e := 1) (by decide) (by rw [p2_one]; exact Rat.le_refl)
      obtain ⟨f, f1, f2⟩ := bd_sub b2 d2 (C := 9) (by grind) (by grind)
      obtain ⟨e, e1, e2⟩ := restA_tot (x := b) (y := a) f2
      refine ⟨e, e1, fun R k => ?_⟩
      rw [start, forceB_eq, h0]
      simp only [hy, decide_false]
      rw [forceB_eq, leF_is pa pb]
      simp only [hle, decide_false]
      rw [bindF_eq t1, c2, bindF_eq d1, bindF_eq f1, e2]
end Go.Vm
namespace Go.Vm
open Ieee
set_option linter.unusedVariables false
set_option linter.unusedSimpArgs false

/-! ### A number's parts, with their values -/
theorem frexpK_val {a : Nat} {x : Rat} (h : Is a x) (hx : 0 < x) : ∃ (w : Nat) (n : Int) (v : Rat), Is w v ∧ 1 / 2 ≤ v ∧ v ≤ 1 ∧ (2 : Rat) ^ (n - 1) ≤ x ∧ x < (2 : Rat) ^ n ∧ -1100 ≤ n ∧ n ≤ 1024 ∧
    ∀ (R : Type) (k : Nat → Int → Option R), frexpK R a k = k w n := by
  have hx0 : x ≠ 0 := by grind
  have hxa : x.abs = x := Rat.abs_of_nonneg (by grind)
  obtain ⟨y, e, he, hy, hn, hk⟩ := normK_is h hx0
  obtain ⟨s, E, f, rfl, b1, b2, b3, hv⟩ := normal_fields hy hn
  have hs : s = false := dv_sign (m := 2 ^ 52 + f) (i := (E : Int) - 1075) (by rw [← hv]; exact Rat.mul_pos hx (p2_pos _))
  subst hs
  obtain ⟨d1, d2⟩ := dv_band (s := false) (E := E) b3
  rw [← hv, abs_mul, p2_abs, hxa] at d1 d2
  obtain ⟨g1, g2⟩ := dv_band (s := false) (E := 1022) b3
  have hi := fields_is (s := false) (E := 1022) (f := f) (by decide) (by decide) b3
  have hp : 0 ≤ dv false (2 ^ 52 + f) (((1022 : Nat) : Int) - 1075) := by
    unfold dv sg
    have := Rat.mul_nonneg (show (0 : Rat) ≤ ((2 ^ 52 + f : Nat) : Rat) by exact_mod_cast Nat.zero_le _) (Rat.le_of_lt (p2_pos (((1022 : Nat) : Int) - 1075)))
    simp only [Bool.false_eq_true, if_false]
    grind
  rw [Rat.abs_of_nonneg hp] at g1 g2
  have q1 : (2 : Rat) ^ (((1022 : Nat) : Int) - 1023) = (2 : Rat) ^ (-1 : Int) := by rfl
  have q2 : (2 : Rat) ^ (((1022 : Nat) : Int) - 1022) = 1 := by rw [show (((1022 : Nat) : Int) - 1022) = 0 by decide]; simp
  rw [q1] at g1
  rw [q2] at g2
  have hh := p2_half 0
  rw [show (2 : Rat) ^ (0 : Int) = 1 by simp, show (0 - 1 : Int) = -1 by decide] at hh
  have hw : (orU (andNotU ((((if false then 2 ^ 63 else 0) + E * 2 ^ 52 + f : Nat)) : Int) 9218868437227405312) 4602678819172646912).toNat = (if false then 2 ^ 63 else 0) + 1022 * 2 ^ 52 + f := by
    rw [strip_eq b2 b3]
    exact lay_eq (s := false) (E := 1022) (by decide) b3
  refine ⟨(if false then 2 ^ 63 else 0) + 1022 * 2 ^ 52 + f, e + (E - 1022), dv false (2 ^ 52 + f) (((1022 : Nat) : Int) - 1075), hi, by grind, by grind, ?_, ?_, by omega, by omega, fun R k => ?_⟩
  · have := Rat.mul_le_mul_of_nonneg_right d1 (Rat.le_of_lt (p2_pos e))
    rw [← p2_add, Rat.mul_assoc, Rat.mul_comm ((2 : Rat) ^ (-e)), p2_cancel, Rat.mul_one, show (E : Int) - 1023 + e = e + (E - 1022) - 1 by omega] at this
    exact this
  · have := Rat.mul_lt_mul_of_pos_right d2 (p2_pos e)
    rw [← p2_add, Rat.mul_assoc, Rat.mul_comm ((2 : Rat) ^ (-e)), p2_cancel, Rat.mul_one, show (E : Int) - 1022 + e = e + (E - 1022) by omega] at this
    exact this
  · unfold frexpK frexpB
    have h0 : ¬ (x = ((0 : Int) : Rat)) := by simpa using hx0
    rw [forceB_eq, eqF_is h is_zero]
    simp only [h0, decide_false]
    rw [isInfK_no h, forceB_eq]
    simp only
    rw [isNanK_no h, forceB_eq]
    simp only
    rw [hk]
    unfold frexpTail expoOf
    rw [expo_eq b2 b3]
    simp only [fiReal_fair R]
    rw [wrapI (n := (E : Int)) (by omega) (by omega), wrapI (n := (E : Int) - 1023) (by omega) (by omega), wrapI (n := (E : Int) - 1023 + 1) (by omega) (by omega)]
    rw [show (E : Int) - 1023 + 1 = (E : Int) - 1022 by omega, wrapI (by omega) (by omega), hw]
end Go.Vm
namespace Go.Vm
open Ieee
set_option linter.unusedVariables false
set_option linter.unusedSimpArgs false

/-! ### Logarithms, by values -/
theorem seriesP_bd {z : Nat} (hz : Bv (47 / 100) z) : ∀ (l : List Nat) (s : Nat), (∀ r ∈ l, Bv 2 r) → Bv 4 s → ∃ s', Bv 4 s' ∧ ∀ (R : Type) (k : Nat → Option R), seriesP z l s k = k s'
  | [], s, _, hs => ⟨s, hs, fun R k => rfl⟩
  | r :: l, s, hl, hs => by
    obtain ⟨p, p1, p2⟩ := bd_mul hz hs (C := 19 / 10) (by grind) (by grind)
    obtain ⟨q, q1, q2⟩ := bd_add (hl r (by simp)) p2 (C := 4) (by grind) (by grind)
    obtain ⟨s', h1, h2⟩ := seriesP_bd hz l q (fun r hr => hl r (by simp [hr])) q2
    refine ⟨s', h1, fun R k => ?_⟩
    show bindF (fbF .mul z s) (fun p => bindF (fbF .add r p) fun s => seriesP z l s k) = k s'
    rw [bindF_eq p1, bindF_eq q1, h2]
theorem odd_bd : ∀ r ∈ oddList, Bv 2 r := fun r hr => by
  obtain ⟨x, h1, h2⟩ := mag_lits odd_all r hr
  exact ⟨x, h1, by rw [p2_one] at h2; exact h2⟩
theorem bd_two {w : Nat} (h : magB 1 w = true) : Bv 2 w := bd_lit (e := 1) h (by rw [p2_one]; exact Rat.le_refl)
theorem bd_four {w : Nat} (h : magB 2 w = true) : Bv 4 w := bd_lit (e := 2) h (by rw [show (2 : Int) = ((2 : Nat) : Int) by rfl, p2_nat]; exact Rat.le_refl)

theorem oddK_val {t : Nat} (bt : Bv (68 / 100) t) : ∃ c, Bv 8 c ∧ ∀ (R : Type) (k : Nat → Option R), oddK R t k = k c := by
  obtain ⟨s, s1, s3⟩ := bd_mul bt bt (C := 47 / 100) (by grind) (by grind)
  obtain ⟨q, q1, q2⟩ := seriesP_bd s3 oddList 4585925428558828667 odd_bd ((bd_two (by decide)).mono (by grind))
  obtain ⟨a, a1, a2⟩ := bd_mul (a := 4611686018427387904) (bd_four (by decide)) bt (C := 2725 / 1000) (by grind) (by grind)
  obtain ⟨x, x1, x2⟩ := bd_mul s3 q1 (C := 1885 / 1000) (by grind) (by grind)
  obtain ⟨y, y1, y2⟩ := bd_mul a2 x2 (C := 515 / 100) (by grind) (by grind)
  obtain ⟨c, c1, c2⟩ := bd_add a2 y2 (C := 8) (by grind) (by grind)
  refine ⟨c, c2, fun R k => ?_⟩
  unfold oddK
  rw [bindF_eq s1, q2, bindF_eq a1, bindF_eq x1, bindF_eq y1, bindF_eq c1]

def restL {R : Type} (m : Nat) (e : Int) (k : Nat → Option R) : Option R := forceN (floatOfInt .f64 e) fun n => bindF (fbF .mul n 4604418534311723008) fun h => bindF (fbF .mul n 4461442080421002358) fun l =>
  bindF (fbF .sub m 4607182418800017408) fun p => bindF (fbF .add m 4607182418800017408) fun q => bindF (fbF .quo p q) fun f => oddK R f fun o => bindF (fbF .add l o) fun x => bindF (fbF .add h x) k

theorem logK_def {R : Type} (x : Nat) (k : Nat → Option R) : logK R x k = forceB (neF x x) fun t => match t with
  | true => k x
  | false => isInfPK R x fun t => forceB t fun t => match t with
    | true => k x
    | false => forceB (ltF x 0) fun t => match t with
      | true => none
      | false => forceB (eqF x 0) fun t => match t with
        | true => k 18442240474082181120
        | false => frexpK R x fun m e => forceB (ltF m 4604544271217802189) fun t => match t with
          | true => bindF (fbF .mul 4611686018427387904 m) fun m => fiReal R (IntKind.i64.wrap (e - 1)) fun e => restL m e k
          | false => restL m e k := rfl

end Go.Vm
namespace Go.Vm
open Ieee
set_option linter.unusedVariables false
set_option linter.unusedSimpArgs false

/-! ### What is within a bound is a number -/
theorem read_not {w : Nat} (h : finW w = false) : double.read (absW w) = .infinity false ∨ ∃ t, double.read (absW w) = .nan false t := by
  have e1 : double.signWeight = 9223372036854775808 := by decide
  have e2 : double.binade = 4503599627370496 := by decide
  have e3 : double.infRung = 9218868437227405312 := by decide
  unfold finW at h
  rw [nl] at h
  have hE : ¬ expoW w < 2047 := by simpa using h
  have hEe : expoW w = w / 4503599627370496 % 2048 := rfl
  rw [absW_eq]
  have hm : w % 2 ^ 63 = w % 9223372036854775808 := rfl
  rw [hm]
  have hge : 9218868437227405312 ≤ w % 9223372036854775808 := by omega
  have h64 : w % 9223372036854775808 < 9223372036854775808 := Nat.mod_lt _ (by decide)
  generalize w % 9223372036854775808 = r at *
  unfold Format.read
  simp only [e1, e2, e3]
  have hr : r % 9223372036854775808 = r := Nat.mod_eq_of_lt h64
  have hs : (r / 9223372036854775808 % 2 == 1) = false := by rw [Nat.div_eq_of_lt h64]; rfl
  rw [hr, hs, if_neg (by omega), if_neg (by omega)]
  by_cases he : r = 9218868437227405312
  · rw [if_pos he]; exact .inl rfl
  · rw [if_neg he]; exact .inr ⟨_, rfl⟩

theorem within_is {p : Nat} (hp : p < 2 ^ 64) (h : leF (absW p) 4787326403894837248 = true) : ∃ P, Is p P ∧ P.abs ≤ ((2 ^ 40 : Int) : Rat) := by
  cases hf : finW p with
  | true =>
    have hi : Is p (dv (sgnW p) (mantW p) ((plcW p : Int) - 1074)) := ⟨hp, _, _, _, read_fast hf, rfl⟩
    refine ⟨_, hi, ?_⟩
    rw [leF_is (abs_is hi) is_p40] at h
    simpa using h
  | false =>
    exfalso
    unfold leF at h
    rw [ordW_eq] at h
    unfold Format.order at h
    rw [show double.read 4787326403894837248 = .number false 4503599627370496 (-12) by decide] at h
    rcases read_not hf with g | ⟨t, g⟩ <;> (rw [g] at h; cases h)
end Go.Vm
namespace Go.Vm
set_option linter.unusedVariables false

/-! ### Told at once: what is so is told ahead of the way, and the way goes on if it is -/
abbrev KC1 := ∀ R : Type, Nat → Nat → Option R → Option R
abbrev KF1 := ∀ R : Type, Nat → Option R → Option R
abbrev KE1 := ∀ R : Type, Int → Nat → Nat → Nat → Nat → Nat → Option R → Option R
abbrev KIF := ∀ R : Type, Int → (Nat → Option R) → Option R
def sCB1 (g : KC1) : Sum := fun R args k => match args with
  | [.complex .f64 a b] => g R a b (k (.bool true))
  | _ => none
def sFB1 (g : KF1) : Sum := fun R args k => match args with
  | [.float .f64 a] => g R a (k (.bool true))
  | _ => none
def sEI1 (g : KE1) : Sum := fun R args k => match args with
  | [.agg ⟨[.int .u8 kind, .complex .f64 a1 a2, .complex .f64 s1 s2, .float .f64 p]⟩] => g R kind a1 a2 s1 s2 p (k (.int .i64 0))
  | _ => none
def sIF (g : KIF) : Sum := fun R args k => match args with
  | [.int .i64 n] => g R n fun x => k (.float .f64 x)
  | _ => none
/-! ### Read from what is there: three elements -/
def gtab : List (Nat × HSum) → FuncId → Option HSum
  | [], _ => none
  | (n, s) :: r, f => bif Nat.beq n f then some s else gtab r f
end Go.Vm
namespace Go.Vm
set_option linter.unusedVariables false

/-! ### ForceLift -/
def conjK : KCC := fun R a b k => forceN (Op.negFloat .f64 b) fun y => k a y
def timesK : KCC := fun R a b k => forceN (Op.negFloat .f64 b) fun x => k x a
/-- where an element lies -/
def sideB (sub : KCCC) (ln : KCF) : ∀ R : Type, Int → Nat → Nat → Nat → Nat → Nat → (Int → Option R) → Option R := fun R kind a b c1 c2 r k =>
  sub R a b c1 c2 fun x y => ln R x y fun l => bif kind == 1 then k 0 else forceB (ltF l r) fun t => match t with | true => k (-1) | false => k 1
/-! ### Told at once -/
def yesB {R : Type} (X : Option R) : Bool → Option R := fun t => match t with | true => X | false => none
def fCT (g : KCB) : KC1 := fun R a b X => g R a b (yesB X)
def fFT (g : KFB) : KF1 := fun R a X => g R a (yesB X)
end Go.Vm
namespace Go.Vm
open Ieee
set_option linter.unusedVariables false
set_option linter.unusedSimpArgs false

/-! ### Relative errors -/
/-! ### 1/(2 Pi) and Pi, as words -/
theorem p2_neg (n : Nat) : (2 : Rat) ^ (-(n : Int)) * ((2 ^ n : Nat) : Rat) = 1 := by
  rw [← p2_nat, ← p2_add, show -(n : Int) + n = 0 by omega, Rat.zpow_zero]
theorem eps_eq : eps = 1 / 2251799813685248 := by
  have h := p2_neg 51
  have e : ((2 ^ 51 : Nat) : Rat) = 2251799813685248 := rfl
  rw [e] at h
  unfold eps
  rw [show (-51 : Int) = -((51 : Nat) : Int) by rfl]
  grind
end Go.Vm
namespace Go.Vm
open Ieee
set_option linter.unusedVariables false
set_option linter.unusedSectionVars false
set_option linter.unusedSimpArgs false

section
variable {R : Type}
/-! ### Near -/
/-! ### Clean -/
theorem p20m : (2 : Rat) ^ (-20 : Int) = 1 / 1048576 := by
  have h := p2_neg 20
  have e : ((2 ^ 20 : Nat) : Rat) = 1048576 := rfl
  rw [e] at h
  rw [show (-20 : Int) = -((20 : Nat) : Int) by rfl]
  grind
theorem lt_big {x : Rat} (h : x.abs ≤ 1000000000000000) : x.abs < (2 : Rat) ^ (1023 : Int) := by
  have h6 := p2_le (show (50 : Int) ≤ 1023 by decide)
  have h8 : (2 : Rat) ^ (50 : Int) = 1125899906842624 := by rw [show (50 : Int) = ((50 : Nat) : Int) by rfl, p2_nat]; rfl
  grind
end
end Go.Vm
namespace Go.Vm
open Ieee
set_option linter.unusedVariables false
set_option linter.unusedSimpArgs false

/-! ### How near the push comes -/
theorem int_ok (n : Int) : ((n : Rat)) = 0 ∨ 1 ≤ ((n : Rat)).abs := by
  by_cases h : n = 0
  · left; subst h; rfl
  · right
    rw [int_abs]
    have : ((1 : Nat) : Rat) ≤ ((n.natAbs : Nat) : Rat) := nat_cast_le (by omega)
    exact this
end Go.Vm
namespace Go.Vm
open Ieee
set_option linter.unusedVariables false
set_option linter.unusedSectionVars false
set_option linter.unusedSimpArgs false

/-! ### Words and their values -/
def Fin (w : Nat) : Prop := ∃ x, Is w x
open Classical in
noncomputable def vl (w : Nat) : Rat := if h : Fin w then Classical.choose h else 0
theorem vl_is {w : Nat} (h : Fin w) : Is w (vl w) := by
  unfold vl
  rw [dif_pos h]
  exact Classical.choose_spec h
theorem vl_eq {w : Nat} {x : Rat} (h : Is w x) : vl w = x := is_fun (vl_is ⟨x, h⟩) h
/-- a word that stands for a number at most B -/
def Le (B : Rat) (w : Nat) : Prop := Fin w ∧ (vl w).abs ≤ B
theorem Le.mono {B C : Rat} {w : Nat} (h : Le B w) (hc : B ≤ C) : Le C w := ⟨h.1, Rat.le_trans h.2 hc⟩
theorem Le.of {B x : Rat} {w : Nat} (h : Is w x) (hx : x.abs ≤ B) : Le B w := ⟨⟨x, h⟩, by rw [vl_eq h]; exact hx⟩
def gQuo (a b : Nat) : Nat := (fbF .quo a b).getD 0
def gMul (a b : Nat) : Nat := (fbF .mul a b).getD 0
def gSub (a b : Nat) : Nat := (fbF .sub a b).getD 0
def gAdd (a b : Nat) : Nat := (fbF .add a b).getD 0
def tau : Rat := (2 : Rat) ^ (-1000 : Int)
def huge : Rat := (2 : Rat) ^ (400 : Int)
theorem huge_lt {x : Rat} (h : x.abs ≤ huge) : x.abs < (2 : Rat) ^ (1022 : Int) := by
  have h1 := p2_le (show (401 : Int) ≤ 1022 by decide)
  have h2 := p2_half 401
  rw [show (401 - 1 : Int) = 400 by decide] at h2
  have := p2_pos 400
  unfold huge at h
  grind
theorem huge_lt' {x : Rat} (h : x.abs ≤ huge) : x.abs < (2 : Rat) ^ (1023 : Int) := by
  have := huge_lt h
  have h2 := p2_le (show (1022 : Int) ≤ 1023 by decide)
  grind
section
variable {a b : Nat} {A B C : Rat}
/-- a product: 'C' bounds it -/
theorem g_mul (ha : Le A a) (hb : Le B b) (hC : A * B ≤ C) (h0 : tau ≤ C) (hh : C ≤ huge) : fbF .mul a b = some (gMul a b) ∧ Fin (gMul a b) ∧ (vl (gMul a b) - vl a * vl b).abs ≤ eps * C ∧ (vl a * vl b).abs ≤ C := by
  have n1 := abs_nonneg (vl a)
  have n2 := abs_nonneg (vl b)
  have hx : (vl a * vl b).abs ≤ C := by
    rw [abs_mul]
    have g1 := Rat.mul_le_mul_of_nonneg_right ha.2 n2
    have g2 := Rat.mul_le_mul_of_nonneg_left hb.2 (show 0 ≤ A by have := ha.2; grind)
    grind
  obtain ⟨w, z, e1, e2, e3⟩ := mul_is (vl_is ha.1) (vl_is hb.1) (huge_lt' (Rat.le_trans hx hh))
  have hw : gMul a b = w := by unfold gMul; rw [e1]; rfl
  rw [hw, vl_eq e2]
  exact ⟨e1, ⟨z, e2⟩, e3.le hx h0, hx⟩
theorem g_sub (ha : Le A a) (hb : Le B b) (hC : A + B ≤ C) (h0 : tau ≤ C) (hh : C ≤ huge) : fbF .sub a b = some (gSub a b) ∧ Fin (gSub a b) ∧ (vl (gSub a b) - (vl a - vl b)).abs ≤ eps * C ∧ (vl a - vl b).abs ≤ C := by
  have hx : (vl a - vl b).abs ≤ C := by
    have := abs_add_le (vl a) (-vl b)
    rw [abs_neg, show vl a + -vl b = vl a - vl b by grind] at this
    have := ha.2
    have := hb.2
    grind
  obtain ⟨w, z, e1, e2, e3⟩ := sub_is (vl_is ha.1) (vl_is hb.1) (huge_lt' (Rat.le_trans hx hh))
  have hw : gSub a b = w := by unfold gSub; rw [e1]; rfl
  rw [hw, vl_eq e2]
  exact ⟨e1, ⟨z, e2⟩, e3.le hx h0, hx⟩
/-- a quotient that is at most C -/
theorem g_quo (ha : Fin a) (hb : Fin b) (hb0 : vl b ≠ 0) (hC : (vl a).abs ≤ C * (vl b).abs) (h0 : tau ≤ C) (hh : C ≤ huge) : fbF .quo a b = some (gQuo a b) ∧ Fin (gQuo a b) ∧ (vl (gQuo a b) - vl a / vl b).abs ≤ eps * C ∧ (vl a / vl b).abs ≤ C := by
  have hx : (vl a / vl b).abs ≤ C := abs_div_le hb0 hC
  obtain ⟨w, z, e1, e2, e3⟩ := div_is (vl_is ha) (vl_is hb) hb0 (huge_lt (Rat.le_trans hx hh))
  have hw : gQuo a b = w := by unfold gQuo; rw [e1]; rfl
  rw [hw, vl_eq e2]
  exact ⟨e1, ⟨z, e2⟩, e3.le hx h0, hx⟩
end
theorem near_bd {z x e B : Rat} (h : (z - x).abs ≤ e) (hx : x.abs ≤ B) : z.abs ≤ B + e := by
  have := abs_add_le (z - x) x
  rw [show z - x + x = z by grind] at this
  grind
theorem le_both {a b c d e : Rat} (h1 : e ≤ a + b) (h2 : a ≤ c) (h3 : b ≤ d) : e ≤ c + d := by grind
/-! ### Sums of fractions -/
def sm (f : Nat → Rat) : Nat → Nat → Rat
  | _, 0 => 0
  | c, m + 1 => f c + sm f (c + 1) m
theorem sm_congr {f g : Nat → Rat} : ∀ (m c : Nat), (∀ j, c ≤ j → j < c + m → f j = g j) → sm f c m = sm g c m
  | 0, c, h => rfl
  | m + 1, c, h => by
    unfold sm
    rw [h c (Nat.le_refl _) (by omega), sm_congr m (c + 1) fun j h1 h2 => h j (by omega) (by omega)]
theorem sm_add (f g : Nat → Rat) : ∀ (m c : Nat), sm (fun j => f j + g j) c m = sm f c m + sm g c m
  | 0, c => by simp only [sm]; grind
  | m + 1, c => by simp only [sm, sm_add f g m (c + 1)]; grind
theorem sm_mul (k : Rat) (f : Nat → Rat) : ∀ (m c : Nat), sm (fun j => k * f j) c m = k * sm f c m
  | 0, c => by simp only [sm]; grind
  | m + 1, c => by simp only [sm, sm_mul k f m (c + 1)]; grind
theorem sm_abs {f g : Nat → Rat} : ∀ (m c : Nat), (∀ j, c ≤ j → j < c + m → (f j).abs ≤ g j) → (sm f c m).abs ≤ sm g c m
  | 0, c, h => by simp only [sm]; rw [abs_zero]; grind
  | m + 1, c, h => by
    simp only [sm]
    have h1 := h c (Nat.le_refl _) (by omega)
    have h2 := sm_abs m (c + 1) fun j h1 h2 => h j (by omega) (by omega)
    have := abs_add_le (f c) (sm f (c + 1) m)
    grind
theorem sm_nonneg {f : Nat → Rat} (h : ∀ j, 0 ≤ f j) : ∀ (m c : Nat), 0 ≤ sm f c m
  | 0, c => by simp only [sm]; grind
  | m + 1, c => by simp only [sm]; have := h c; have := sm_nonneg h m (c + 1); grind
theorem sm_split (f : Nat → Rat) : ∀ (a b c : Nat), sm f c (a + b) = sm f c a + sm f (c + a) b
  | 0, b, c => by simp only [sm, Nat.zero_add, Nat.add_zero]; grind
  | a + 1, b, c => by
    rw [show a + 1 + b = (a + b) + 1 by omega]
    simp only [sm, sm_split f a b (c + 1)]
    rw [show c + 1 + a = c + (a + 1) by omega]
    grind

/-! ### One step of the elimination -/
/-- rows c and p change places -/
def swp (c p : Nat) (W : Nat → Nat → Nat) : Nat → Nat → Nat := fun r j => if r = c then W p j else if r = p then W c j else W r j
/-- behind the step at c: the row c takes part in all below it -/
def stepW (W : Nat → Nat → Nat) (c : Nat) : Nat → Nat → Nat := fun r j => if r ≤ c ∨ j ≤ c then W r j else gSub (W r j) (gMul (gQuo (W r c) (W c c)) (W c j))
structure ElimOk (W : Nat → Nat → Nat) (c r j : Nat) (B : Rat) : Prop where
  quo : fbF .quo (W r c) (W c c) = some (gQuo (W r c) (W c c))
  mul : fbF .mul (gQuo (W r c) (W c c)) (W c j) = some (gMul (gQuo (W r c) (W c c)) (W c j))
  sub : fbF .sub (W r j) (gMul (gQuo (W r c) (W c c)) (W c j)) = some (stepW W c r j)
  le : Le (201 / 100 * B) (stepW W c r j)
  near : (vl (stepW W c r j) - (vl (W r j) - vl (gQuo (W r c) (W c c)) * vl (W c j))).abs ≤ 4 * (eps * B)
theorem step_ok {W : Nat → Nat → Nat} {c r j : Nat} {B : Rat} (hr : c < r) (hj : c < j) (h1 : Le B (W r j)) (h2 : Le B (W c j)) (hp : Fin (W c c)) (hp0 : vl (W c c) ≠ 0) (hq : Fin (W r c)) (hle : (vl (W r c)).abs ≤ (vl (W c c)).abs)
    (hB : tau ≤ B) (hB2 : B ≤ (2 : Rat) ^ (300 : Int)) : ElimOk W c r j B := by
  have he := eps_pos
  have he1 := eps_tiny
  have ht : tau ≤ 1 := by
    unfold tau
    have := p2_le (show (-1000 : Int) ≤ 0 by decide)
    rw [Rat.zpow_zero] at this
    exact this
  have ht0 : 0 < tau := p2_pos _
  have hu : 10 * B ≤ huge := by
    have h6 := p2_le (show (310 : Int) ≤ 400 by decide)
    have h7 := p2_add 300 10
    rw [show (300 + 10 : Int) = 310 by decide] at h7
    have h8 : (2 : Rat) ^ (10 : Int) = 1024 := by rw [show (10 : Int) = ((10 : Nat) : Int) by rfl, p2_nat]; rfl
    rw [h8] at h7
    have := p2_pos 300
    unfold huge
    grind
  have B0 : 0 ≤ B := by grind
  have hu1 : (1001 : Rat) / 1000 ≤ huge := by
    have := one_le_p2 400
    have h6 := p2_le (show (1 : Int) ≤ 400 by decide)
    rw [p2_one] at h6
    unfold huge
    grind
  obtain ⟨q1, q2, q3, q4⟩ := g_quo (C := 1) hq hp hp0 (by grind) ht (by grind)
  have qB : Le (1001 / 1000) (gQuo (W r c) (W c c)) := ⟨q2, by
    have := near_bd q3 q4
    grind⟩
  obtain ⟨m1, m2, m3, m4⟩ := g_mul (C := 1001 / 1000 * B) qB h2 Rat.le_refl (by grind) (by grind)
  have eB : eps * B ≤ B * (1 / 1000000000) := by
    have := Rat.mul_le_mul_of_nonneg_right he1 B0
    grind
  have mB : Le (1002 / 1000 * B) (gMul (gQuo (W r c) (W c c)) (W c j)) := ⟨m2, by
    have := near_bd m3 m4
    have e1 : eps * (1001 / 1000 * B) = 1001 / 1000 * (eps * B) := by grind
    grind⟩
  obtain ⟨s1, s2, s3, s4⟩ := g_sub (C := 2002 / 1000 * B) h1 mB (by grind) (by grind) (by grind)
  have hW : stepW W c r j = gSub (W r j) (gMul (gQuo (W r c) (W c c)) (W c j)) := by
    unfold stepW
    rw [if_neg (by omega)]
  have e1 : eps * (1001 / 1000 * B) = 1001 / 1000 * (eps * B) := by grind
  have e2 : eps * (2002 / 1000 * B) = 2002 / 1000 * (eps * B) := by grind
  refine ⟨q1, m1, by rw [hW]; exact s1, ⟨by rw [hW]; exact s2, by
    rw [hW]
    have := near_bd s3 s4
    grind⟩, ?_⟩
  rw [hW]
  have t := abs_add_le (vl (gSub (W r j) (gMul (gQuo (W r c) (W c c)) (W c j))) - (vl (W r j) - vl (gMul (gQuo (W r c) (W c c)) (W c j)))) (vl (gQuo (W r c) (W c c)) * vl (W c j) - vl (gMul (gQuo (W r c) (W c c)) (W c j)))
  rw [show vl (gSub (W r j) (gMul (gQuo (W r c) (W c c)) (W c j))) - (vl (W r j) - vl (gMul (gQuo (W r c) (W c c)) (W c j))) + (vl (gQuo (W r c) (W c c)) * vl (W c j) - vl (gMul (gQuo (W r c) (W c c)) (W c j))) = vl (gSub (W r j) (gMul (gQuo (W r c) (W c c)) (W c j))) - (vl (W r j) - vl (gQuo (W r c) (W c c)) * vl (W c j)) by grind] at t
  rw [abs_sub_comm] at m3
  rw [e1] at m3
  rw [e2] at s3
  have eB0 := Rat.mul_nonneg (Rat.le_of_lt he) B0
  refine Rat.le_trans (le_both t s3 m3) ?_
  clear t s3 m3 e1 e2 eB hu hu1
  grind
end Go.Vm
