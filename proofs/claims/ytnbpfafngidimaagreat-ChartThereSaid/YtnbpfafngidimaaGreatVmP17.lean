/- The square root of a complex number on words; no conditions. -/
import Derived.Test.YtnbpfafngidimaaGreatVmP16
import Derived.Test.YtnbpfafngidimaaGreatVmKM
namespace Go.Vm
open Ieee Cq
set_option linter.unusedVariables false
set_option linter.unusedSimpArgs false

theorem is0 : Is 0 0 := ⟨by decide, false, 0, -1074, by decide, dv_zero _ _⟩
theorem bindF_ok {R : Type} {o : Option Nat} {n : Nat} (h : o = some n) (k : Nat → Option R) : bindF o k = k n := by
  subst h; exact forceN_eq n k
theorem squareK_ok {x y a b c : Nat} (h1 : floatBits .mul .f64 x x = some a) (h2 : floatBits .mul .f64 y y = some b) (h3 : floatBits .add .f64 a b = some c) {R : Type} (k : Nat → Option R) : squareK R x y k = k c := by
  unfold squareK; rw [bindF_ok h1, bindF_ok h2, bindF_ok h3]
theorem sqrtK_ok {x a : Nat} (h : double.sqrt x = some a) {R : Type} (k : Nat → Option R) : sqrtK R x k = k a := by
  unfold sqrtK; rw [bindF_ok h]
theorem absK_ok {x : Nat} {R : Type} (k : Nat → Option R) : absK R x k = k (absW x) := rfl
theorem isInfPK_no {a : Nat} {x : Rat} (h : Is a x) {R : Type} (k : Bool → Option R) : isInfPK R a k = k false := by
  show forceB (gtF a 9218868437227405311) (fun t => k t) = k false
  rw [forceB_eq, gtF_is h is_max]
  have := abs_le_max h
  have := abs_le_self x
  have : ¬ (((2 ^ 53 - 1 : Nat) : Rat) * (2 : Rat) ^ (971 : Int) < x) := by grind
  simp only [this, decide_false]
theorem isInfMK_no {a : Nat} {x : Rat} (h : Is a x) {R : Type} (k : Bool → Option R) : isInfMK R a k = k false := by
  show forceN (Op.negFloat .f64 a) (fun x => forceB (gtF x 9218868437227405311) (fun t => k t)) = k false
  rw [forceN_eq, forceB_eq, gtF_is (neg_is h) is_max]
  have := abs_le_max h
  have := abs_le_self x
  have : ¬ (((2 ^ 53 - 1 : Nat) : Rat) * (2 : Rat) ^ (971 : Int) < -x) := by grind
  simp only [this, decide_false]

def edgeK : KFFCB := edgeB isInfK isInfPK isInfMK isNanK copyK
def rootK : KCC := rootB fiReal edgeK greatestK frexpK scaleK absK squareK sqrtK copyK

theorem edgeK_is {a b : Nat} {x y : Rat} (ha : Is a x) (hb : Is b y) {R : Type} (k : Nat → Nat → Bool → Option R) :
    edgeK R a b k = if x = 0 ∧ y = 0 then k 0 b true else k 0 0 false := by
  unfold edgeK edgeB
  rw [isInfK_no hb, forceB_eq]
  simp only
  rw [isInfPK_no ha, forceB_eq]
  simp only
  rw [isInfMK_no ha, forceB_eq]
  simp only
  rw [isInfMK_no ha, forceB_eq]
  simp only
  rw [isNanK_no ha, forceB_eq]
  simp only
  rw [isNanK_no hb, forceB_eq]
  simp only
  rw [forceB_eq, eqF_is ha is0]
  by_cases h1 : x = 0
  · simp only [h1, decide_true, forceB_eq, eqF_is hb is0]
    by_cases h2 : y = 0
    · simp [h2]
    · simp [h2]
  · simp [h1]

theorem shr1 (n : Int) : shrU n 1 = n / 2 := by
  unfold shrU
  have : (2 : Int) ^ min (1 : Int).toNat IntKind.u64.bits = 2 := by decide
  rw [this, Int.fdiv_eq_ediv_of_nonneg _ (by decide)]

/-- THE ROOT on words. -/
theorem rootK_is {a b : Nat} {X Y : Rat} (ia : Is a X) (ib : Is b Y) (hX : X.abs ≤ (2 : Rat) ^ (300 : Int)) (hY : Y.abs ≤ (2 : Rat) ^ (300 : Int)) :
    ∃ p q P Q, Is p P ∧ Is q Q ∧ RootOf ⟨P, Q⟩ ⟨X, Y⟩ ∧ ∀ (R : Type) (k : Nat → Nat → Option R), rootK R a b k = k p q := by
  by_cases h0 : X = 0 ∧ Y = 0
  · obtain ⟨rfl, rfl⟩ := h0
    refine ⟨0, b, 0, 0, is0, ib, ?_, fun R k => ?_⟩
    · unfold RootOf n sub mul; simp only; grind
    · unfold rootK rootB
      rw [edgeK_is ia ib]
      simp [forceB_eq]
  obtain ⟨g, G, ig, gx, gy, hG, eg⟩ := greatestK_is ia ib
  have gne : G ≠ 0 := by
    rintro rfl
    have h1 := abs_nonneg X
    have h2 := abs_nonneg Y
    have h3 := abs_le_self X
    have h4 := abs_le_self Y
    exact h0 ⟨by grind, by grind⟩
  have G0 : 0 ≤ G := by have := abs_nonneg X; grind
  obtain ⟨w, n, l1, l2, n1, n2, ef⟩ := frexpK_is ig gne
  rw [Rat.abs_of_nonneg G0] at l1 l2
  have n3 : n ≤ 301 := by
    have h1 : G ≤ (2 : Rat) ^ (300 : Int) := by rcases hG with h | h <;> (rw [h]; assumption)
    have h2 : (2 : Rat) ^ (n - 1) < (2 : Rat) ^ (301 : Int) := by
      have := p2_succ 300
      rw [show (300 + 1 : Int) = 301 by decide] at this
      have := p2_pos 300
      grind
    have := p2_lt_of h2
    omega
  have hk1 : -600 ≤ n / 2 := by omega
  have hk2 : n / 2 ≤ 450 := by omega
  have pc := p2_pos (-2 * (n / 2))
  have top : G * (2 : Rat) ^ (-2 * (n / 2)) ≤ 2 := by
    have h1 := Rat.mul_le_mul_of_nonneg_right (Rat.le_of_lt l2) (Rat.le_of_lt pc)
    rw [← p2_add] at h1
    have h2 := p2_le (show n + -2 * (n / 2) ≤ 1 by omega)
    rw [p2_one] at h2
    exact Rat.le_trans h1 h2
  have bot : 1 / 2 ≤ G * (2 : Rat) ^ (-2 * (n / 2)) := by
    have h1 := Rat.mul_le_mul_of_nonneg_right l1 (Rat.le_of_lt pc)
    rw [← p2_add] at h1
    have h2 := p2_le (show -1 ≤ n - 1 + -2 * (n / 2) by omega)
    have h3 : (2 : Rat) ^ (-1 : Int) = 1 / 2 := by
      have := p2_half 0
      rw [Rat.zpow_zero, show (0 - 1 : Int) = -1 by decide] at this
      grind
    rw [h3] at h2
    exact Rat.le_trans h2 h1
  have ax : X.abs * (2 : Rat) ^ (-2 * (n / 2)) ≤ 2 := Rat.le_trans (Rat.mul_le_mul_of_nonneg_right gx (Rat.le_of_lt pc)) top
  have ay : (Y * (2 : Rat) ^ (-2 * (n / 2))).abs ≤ 2 := by
    rw [abs_mul, p2_abs]
    exact Rat.le_trans (Rat.mul_le_mul_of_nonneg_right gy (Rat.le_of_lt pc)) top
  have lo : 1 / 2 ≤ X.abs * (2 : Rat) ^ (-2 * (n / 2)) ∨ 1 / 2 ≤ (Y * (2 : Rat) ^ (-2 * (n / 2))).abs := by
    rcases hG with h | h
    · left; rw [← h]; exact bot
    · right; rw [abs_mul, p2_abs, ← h]; exact bot
  obtain ⟨b1, b2, m1, m2, q, r, t, h, s, S, d, Z, e1, e2, f1, f2, f3, f4, f5, f6, f7, e3, f8, iS, Z0, iD, Z1, Z2, key⟩ := root_words (abs_is ia) ib (abs_nonneg X) hk1 hk2 ax ay lo
  have hrun : ∀ (R : Type) (k : Nat → Nat → Option R), rootK R a b k = forceB (geF a 0) fun t => match t with
    | true => bindF (floatBits .mul .f64 4611686018427387904 S) fun d => bindF (floatBits .quo .f64 b d) fun q => k S q
    | false => absK R b fun ay => bindF (floatBits .mul .f64 4611686018427387904 S) fun d => bindF (floatBits .quo .f64 ay d) fun p => copyK R S b fun q => k p q := fun R k => by
    unfold rootK rootB
    rw [edgeK_is ia ib]
    simp only [h0, if_false, forceB_eq]
    rw [eg, ef]
    have hw : IntKind.i64.wrap (-2 * shrU n 1) = -2 * (n / 2) := by rw [shr1]; exact wrapI (by omega) (by omega)
    have fr : ∀ (R : Type) (n : Int) (k : Int → Option R), fiReal R n k = k n := fiReal_fair
    rw [absK_ok, fr, hw, e1, fr, e2, squareK_ok f1 f2 f3, sqrtK_ok f4, bindF_ok f5, bindF_ok f6, sqrtK_ok f7, shr1, e3]
    cases geF a 0 <;> rfl
  have fin : (2 : Rat) ^ (2 * (n / 2)) * (2 : Rat) ^ (2 * (n / 2)) ≤ 4 * (X.abs * X.abs + Y * Y) → (2 : Rat) ^ (2 * (n / 2)) * (2 : Rat) ^ (2 * (n / 2)) ≤ 4 * (X * X + Y * Y) := fun h => by
    rw [show X.abs * X.abs = X * X by rw [← abs_mul, Rat.abs_of_nonneg (sq_nonneg X)]] at h
    exact h
  have cpos := Rat.le_of_lt (p2_pos (2 * (n / 2)))
  by_cases hs : 0 ≤ X
  · obtain ⟨w, Q, g1, g2, g3, g4, g5⟩ := root_quo hk1 hk2 ib iD Z0 Z2 ay lo key
    rw [Rat.abs_of_nonneg hs] at g3
    refine ⟨S, w, Z, Q, iS, g2, rootOf_mk cpos g3 g4 (fin g5), fun R k => ?_⟩
    rw [hrun, forceB_eq, geF_is ia is0]
    simp only [hs, decide_true]
    rw [bindF_ok f8, bindF_ok g1]
  · have hs' : X ≤ 0 := by grind
    have ay' : (Y.abs * (2 : Rat) ^ (-2 * (n / 2))).abs = (Y * (2 : Rat) ^ (-2 * (n / 2))).abs := by
      rw [abs_mul, abs_mul, Rat.abs_of_nonneg (abs_nonneg Y)]
    obtain ⟨w, Q, g1, g2, g3, g4, g5⟩ := root_quo (b := absW b) (Y := Y.abs) hk1 hk2 (abs_is ib) iD Z0 Z2 (by rw [ay']; exact ay) (by rw [ay']; exact lo) (by rw [ay']; exact key)
    obtain ⟨v, sn, c1, c2, c3, c4⟩ := copy_is iS ib
    rw [Rat.abs_of_nonneg (Rat.le_of_lt Z0)] at c2
    rw [Rat.abs_of_nonpos hs'] at g3
    refine ⟨w, v, Q, sn * Z, g2, c2, rootOf_mk cpos (P := ⟨Q, sn * Z⟩) (d := ⟨X, Y⟩) ?_ ?_ ?_, fun R k => ?_⟩
    · have e : Q * Q - sn * Z * (sn * Z) - X = -(Z * Z - Q * Q - -X) := by
        rcases c1 with rfl | rfl <;> grind
      show (Q * Q - sn * Z * (sn * Z) - X).abs ≤ _
      rw [e, abs_neg]; exact g3
    · have e : 2 * Q * (sn * Z) - Y = sn * (2 * Z * Q - Y.abs) := by rw [← c3]; rcases c1 with rfl | rfl <;> grind
      show (2 * Q * (sn * Z) - Y).abs ≤ _
      rw [e, abs_mul]
      rcases c1 with rfl | rfl
      · rw [Rat.abs_of_nonneg (show (0 : Rat) ≤ 1 by decide), Rat.one_mul]; exact g4
      · rw [abs_neg, Rat.abs_of_nonneg (show (0 : Rat) ≤ 1 by decide), Rat.one_mul]; exact g4
    · rw [show Y.abs * Y.abs = Y * Y by rw [← abs_mul, Rat.abs_of_nonneg (sq_nonneg Y)]] at g5
      exact fin g5
    · rw [hrun, forceB_eq, geF_is ia is0]
      simp only [hs, decide_false]
      rw [absK_ok, bindF_ok f8, bindF_ok g1, c4]
end Go.Vm
