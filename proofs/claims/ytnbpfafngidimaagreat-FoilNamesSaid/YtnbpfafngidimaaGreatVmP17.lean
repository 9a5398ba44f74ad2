/- The square root of a complex number on words; no conditions. Sums, products, quotients of complex words are near to those of their numbers; no conditions. The parts of Joukowski's map on words; no conditions. Joukowski's map on words, there and back; no conditions. Of Joukowski's map one of both ways back comes near; no conditions. A Moebius map on words, there and back; no conditions. What ChartThere computes is true for each map and places; no conditions. -/
import Derived.Test.YtnbpfafngidimaaGreatVmP11
import Derived.Test.YtnbpfafngidimaaGreatVmKF
namespace Go.Vm
open Ieee Cq
set_option linter.unusedVariables false
set_option linter.unusedSimpArgs false

theorem is0 : Is 0 0 := ⟨by decide, false, 0, -1074, by decide, dv_zero _ _⟩
theorem bindF_ok {R : Type} {o : Option Nat} {n : Nat} (h : o = some n) (k : Nat → Option R) : bindF o k = k n := by
  subst h; exact forceN_eq n k
theorem squareK_ok {x y a b c : Nat} (h1 : fbF .mul x x = some a) (h2 : fbF .mul y y = some b) (h3 : fbF .add a b = some c) {R : Type} (k : Nat → Option R) : squareK R x y k = k c := by
  unfold squareK; rw [bindF_ok h1, bindF_ok h2, bindF_ok h3]
theorem sqrtK_ok {x a : Nat} (h : double.sqrt x = some a) {R : Type} (k : Nat → Option R) : sqrtK R x k = k a := by
  unfold sqrtK; rw [bindF_ok h]
theorem absK_ok {x : Nat} {R : Type} (k : Nat → Option R) : absK R x k = k (absW x) := rfl
theorem isInfPK_no {a : Nat} {x : Rat} (h : Is a x) {R : Type} (k : Bool → Option R) : isInfPK R a k = k false := by
  show forceB (gtF a 9218868437227405311) (fun t => k t) = k false
  rw [forceB_eq, gtF_is h is_max]
  have := abs_le_max h
  have := abs_le_self x
  have : ¬ (((2 ^ 53 - 1 : Nat) : Rat) * (2 : Rat) ^ (971 : Int) < x) := by grind
  simp only [this, decide_false]
theorem isInfMK_no {a : Nat} {x : Rat} (h : Is a x) {R : Type} (k : Bool → Option R) : isInfMK R a k = k false := by
  show forceN (Op.negFloat .f64 a) (fun x => forceB (gtF x 9218868437227405311) (fun t => k t)) = k false
  rw [forceN_eq, forceB_eq, gtF_is (neg_is h) is_max]
  have := abs_le_max h
  have := abs_le_self x
  have : ¬ (((2 ^ 53 - 1 : Nat) : Rat) * (2 : Rat) ^ (971 : Int) < -x) := by grind
  simp only [this, decide_false]

def edgeK : KFFCB := edgeB isInfK isInfPK isInfMK isNanK copyK
def rootK : KCC := rootB fiReal edgeK greatestK frexpK scaleK absK squareK sqrtK copyK

theorem edgeK_is {a b : Nat} {x y : Rat} (ha : Is a x) (hb : Is b y) {R : Type} (k : Nat → Nat → Bool → Option R) :
    edgeK R a b k = if x = 0 ∧ y = 0 then k 0 b true else k 0 0 false := by
  unfold edgeK edgeB
  rw [isInfK_no hb, forceB_eq]
  simp only
  rw [isInfPK_no ha, forceB_eq]
  simp only
  rw [isInfMK_no ha, forceB_eq]
  simp only
  rw [isInfMK_no ha, forceB_eq]
  simp only
  rw [isNanK_no ha, forceB_eq]
  simp only
  rw [isNanK_no hb, forceB_eq]
  simp only
  rw [forceB_eq, eqF_is ha is0]
  by_cases h1 : x = 0
  · simp only [h1, decide_true, forceB_eq, eqF_is hb is0]
    by_cases h2 : y = 0
    · simp [h2]
    · simp [h2]
  · simp [h1]

theorem shr1 (n : Int) : shrU n 1 = n / 2 := by
  unfold shrU
  have : (2 : Int) ^ min (1 : Int).toNat IntKind.u64.bits = 2 := by decide
  rw [this, Int.fdiv_eq_ediv_of_nonneg _ (by decide)]

/-- THE ROOT on words. -/
theorem rootK_is {a b : Nat} {X Y : Rat} (ia : Is a X) (ib : Is b Y) (hX : X.abs ≤ (2 : Rat) ^ (300 : Int)) (hY : Y.abs ≤ (2 : Rat) ^ (300 : Int)) :
    ∃ p q P Q, Is p P ∧ Is q Q ∧ RootOf ⟨P, Q⟩ ⟨X, Y⟩ ∧ ∀ (R : Type) (k : Nat → Nat → Option R), rootK R a b k = k p q := by
  by_cases h0 : X = 0 ∧ Y = 0
  · obtain ⟨rfl, rfl⟩ := h0
    refine ⟨0, b, 0, 0, is0, ib, ?_, fun R k => ?_⟩
    · unfold RootOf n sub mul; simp only; grind
    · unfold rootK rootB
      rw [edgeK_is ia ib]
      simp [forceB_eq]
  obtain ⟨g, G, ig, gx, gy, hG, eg⟩ := greatestK_is ia ib
  have gne : G ≠ 0 := by
    rintro rfl
    have h1 := abs_nonneg X
    have h2 := abs_nonneg Y
    have h3 := abs_le_self X
    have h4 := abs_le_self Y
    exact h0 ⟨by grind, by grind⟩
  have G0 : 0 ≤ G := by have := abs_nonneg X; grind
  obtain ⟨w, n, l1, l2, n1, n2, ef⟩ := frexpK_is ig gne
  rw [Rat.abs_of_nonneg G0] at l1 l2
  have n3 : n ≤ 301 := by
    have h1 : G ≤ (2 : Rat) ^ (300 : Int) := by rcases hG with h | h <;> (rw [h]; assumption)
    have h2 : (2 : Rat) ^ (n - 1) < (2 : Rat) ^ (301 : Int) := by
      have := p2_succ 300
      rw [show (300 + 1 : Int) = 301 by decide] at this
      have := p2_pos 300
      grind
    have := p2_lt_of h2
    omega
  have hk1 : -600 ≤ n / 2 := by omega
  have hk2 : n / 2 ≤ 450 := by omega
  have pc := p2_pos (-2 * (n / 2))
  have top : G * (2 : Rat) ^ (-2 * (n / 2)) ≤ 2 := by
    have h1 := Rat.mul_le_mul_of_nonneg_right (Rat.le_of_lt l2) (Rat.le_of_lt pc)
    rw [← p2_add] at h1
    have h2 := p2_le (show n + -2 * (n / 2) ≤ 1 by omega)
    rw [p2_one] at h2
    exact Rat.le_trans h1 h2
  have bot : 1 / 2 ≤ G * (2 : Rat) ^ (-2 * (n / 2)) := by
    have h1 := Rat.mul_le_mul_of_nonneg_right l1 (Rat.le_of_lt pc)
    rw [← p2_add] at h1
    have h2 := p2_le (show -1 ≤ n - 1 + -2 * (n / 2) by omega)
    have h3 : (2 : Rat) ^ (-1 : Int) = 1 / 2 := by
      have := p2_half 0
      rw [Rat.zpow_zero, show (0 - 1 : Int) = -1 by decide] at this
      grind
    rw [h3] at h2
    exact Rat.le_trans h2 h1
  have ax : X.abs * (2 : Rat) ^ (-2 * (n / 2)) ≤ 2 := Rat.le_trans (Rat.mul_le_mul_of_nonneg_right gx (Rat.le_of_lt pc)) top
  have ay : (Y * (2 : Rat) ^ (-2 * (n / 2))).abs ≤ 2 := by
    rw [abs_mul, p2_abs]
    exact Rat.le_trans (Rat.mul_le_mul_of_nonneg_right gy (Rat.le_of_lt pc)) top
  have lo : 1 / 2 ≤ X.abs * (2 : Rat) ^ (-2 * (n / 2)) ∨ 1 / 2 ≤ (Y * (2 : Rat) ^ (-2 * (n / 2))).abs := by
    rcases hG with h | h
    · left; rw [← h]; exact bot
    · right; rw [abs_mul, p2_abs, ← h]; exact bot
  obtain ⟨b1, b2, m1, m2, q, r, t, h, s, S, d, Z, e1, e2, f1, f2, f3, f4, f5, f6, f7, e3, f8, iS, Z0, iD, Z1, Z2, key⟩ := root_words (abs_is ia) ib (abs_nonneg X) hk1 hk2 ax ay lo
  have hrun : ∀ (R : Type) (k : Nat → Nat → Option R), rootK R a b k = forceB (geF a 0) fun t => match t with
    | true => bindF (fbF .mul 4611686018427387904 S) fun d => bindF (fbF .quo b d) fun q => k S q
    | false => absK R b fun ay => bindF (fbF .mul 4611686018427387904 S) fun d => bindF (fbF .quo ay d) fun p => copyK R S b fun q => k p q := fun R k => by
    unfold rootK rootB
    rw [edgeK_is ia ib]
    simp only [h0, if_false, forceB_eq]
    rw [eg, ef]
    have hw : IntKind.i64.wrap (-2 * shrU n 1) = -2 * (n / 2) := by rw [shr1]; exact wrapI (by omega) (by omega)
    have fr : ∀ (R : Type) (n : Int) (k : Int → Option R), fiReal R n k = k n := fiReal_fair
    rw [absK_ok, fr, hw, e1, fr, e2, squareK_ok f1 f2 f3, sqrtK_ok f4, bindF_ok f5, bindF_ok f6, sqrtK_ok f7, shr1, e3]
    cases geF a 0 <;> rfl
  have fin : (2 : Rat) ^ (2 * (n / 2)) * (2 : Rat) ^ (2 * (n / 2)) ≤ 4 * (X.abs * X.abs + Y * Y) → (2 : Rat) ^ (2 * (n / 2)) * (2 : Rat) ^ (2 * (n / 2)) ≤ 4 * (X * X + Y * Y) := fun h => by
    rw [show X.abs * X.abs = X * X by rw [← abs_mul, Rat.abs_of_nonneg (sq_nonneg X)]] at h
    exact h
  have cpos := Rat.le_of_lt (p2_pos (2 * (n / 2)))
  by_cases hs : 0 ≤ X
  · obtain ⟨w, Q, g1, g2, g3, g4, g5⟩ := root_quo hk1 hk2 ib iD Z0 Z2 ay lo key
    rw [Rat.abs_of_nonneg hs] at g3
    refine ⟨S, w, Z, Q, iS, g2, rootOf_mk cpos g3 g4 (fin g5), fun R k => ?_⟩
    rw [hrun, forceB_eq, geF_is ia is0]
    simp only [hs, decide_true]
    rw [bindF_ok f8, bindF_ok g1]
  · have hs' : X ≤ 0 := by grind
    have ay' : (Y.abs * (2 : Rat) ^ (-2 * (n / 2))).abs = (Y * (2 : Rat) ^ (-2 * (n / 2))).abs := by
      rw [abs_mul, abs_mul, Rat.abs_of_nonneg (abs_nonneg Y)]
    obtain ⟨w, Q, g1, g2, g3, g4, g5⟩ := root_quo (b := absW b) (Y := Y.abs) hk1 hk2 (abs_is ib) iD Z0 Z2 (by rw [ay']; exact ay) (by rw [ay']; exact lo) (by rw [ay']; exact key)
    obtain ⟨v, sn, c1, c2, c3, c4⟩ := copy_is iS ib
    rw [Rat.abs_of_nonneg (Rat.le_of_lt Z0)] at c2
    rw [Rat.abs_of_nonpos hs'] at g3
    refine ⟨w, v, Q, sn * Z, g2, c2, rootOf_mk cpos (P := ⟨Q, sn * Z⟩) (d := ⟨X, Y⟩) ?_ ?_ ?_, fun R k => ?_⟩
    · have e : Q * Q - sn * Z * (sn * Z) - X = -(Z * Z - Q * Q - -X) := by
        rcases c1 with rfl | rfl <;> grind
      show (Q * Q - sn * Z * (sn * Z) - X).abs ≤ _
      rw [e, abs_neg]; exact g3
    · have e : 2 * Q * (sn * Z) - Y = sn * (2 * Z * Q - Y.abs) := by rw [← c3]; rcases c1 with rfl | rfl <;> grind
      show (2 * Q * (sn * Z) - Y).abs ≤ _
      rw [e, abs_mul]
      rcases c1 with rfl | rfl
      · rw [Rat.abs_of_nonneg (show (0 : Rat) ≤ 1 by decide), Rat.one_mul]; exact g4
      · rw [abs_neg, Rat.abs_of_nonneg (show (0 : Rat) ≤ 1 by decide), Rat.one_mul]; exact g4
    · rw [show Y.abs * Y.abs = Y * Y by rw [← abs_mul, Rat.abs_of_nonneg (sq_nonneg Y)]] at g5
      exact fin g5
    · rw [hrun, forceB_eq, geF_is ia is0]
      simp only [hs, decide_false]
      rw [absK_ok, bindF_ok f8, bindF_ok g1, c4]
end Go.Vm
namespace Go.Vm
open Ieee Cq
set_option linter.unusedVariables false
set_option linter.unusedSimpArgs false

/-! ### Complex words, near to complex fractions -/
def IsQ (a b : Nat) (z : Cq) : Prop := Is a z.x ∧ Is b z.y
def Nr (a b : Cq) (e : Rat) : Prop := (a.x - b.x).abs ≤ e ∧ (a.y - b.y).abs ≤ e
def Bd (a : Cq) (m : Rat) : Prop := a.x.abs ≤ m ∧ a.y.abs ≤ m

theorem big_lt {x B : Rat} (h : x.abs ≤ B) (hB : B ≤ 1000000000000) : x.abs < (2 : Rat) ^ (1022 : Int) := by
  have h6 := p2_le (show (50 : Int) ≤ 1022 by decide)
  have h8 : (2 : Rat) ^ (50 : Int) = 1125899906842624 := by rw [show (50 : Int) = ((50 : Nat) : Int) by rfl, p2_nat]; rfl
  grind
theorem big_lt' {x B : Rat} (h : x.abs ≤ B) (hB : B ≤ 1000000000000) : x.abs < (2 : Rat) ^ (1023 : Int) := by
  have h6 := p2_le (show (1022 : Int) ≤ 1023 by decide)
  have := big_lt h hB
  grind
theorem low_le {B : Rat} (h : 1 / 1000 ≤ B) : (2 : Rat) ^ (-1000 : Int) ≤ B := by have := m1000_small; grind

theorem Nr.bd {a b : Cq} {e m : Rat} (h : Nr a b e) (g : Bd b m) : Bd a (m + e) := ⟨by have := abs_near h.1; have := g.1; grind, by have := abs_near h.2; have := g.2; grind⟩
theorem Bd.mono {a : Cq} {m n : Rat} (h : Bd a m) (g : m ≤ n) : Bd a n := ⟨Rat.le_trans h.1 g, Rat.le_trans h.2 g⟩
theorem Nr.mono {a b : Cq} {m n : Rat} (h : Nr a b m) (g : m ≤ n) : Nr a b n := ⟨Rat.le_trans h.1 g, Rat.le_trans h.2 g⟩
theorem Bd.add {a b : Cq} {m n : Rat} (h : Bd a m) (g : Bd b n) : Bd (a.add b) (m + n) :=
  ⟨by have := abs_add_le a.x b.x; have := h.1; have := g.1; show (a.x + b.x).abs ≤ _; grind, by have := abs_add_le a.y b.y; have := h.2; have := g.2; show (a.y + b.y).abs ≤ _; grind⟩
theorem Bd.neg {a : Cq} {m : Rat} (h : Bd a m) : Bd a.neg m := ⟨by show (-a.x).abs ≤ m; rw [abs_neg]; exact h.1, by show (-a.y).abs ≤ m; rw [abs_neg]; exact h.2⟩
theorem sub_eq (a b : Cq) : a.sub b = a.add b.neg := ext' (by simp only [Cq.sub, Cq.add, Cq.neg]; grind) (by simp only [Cq.sub, Cq.add, Cq.neg]; grind)
theorem Bd.sub {a b : Cq} {m n : Rat} (h : Bd a m) (g : Bd b n) : Bd (a.sub b) (m + n) := by rw [sub_eq]; exact h.add g.neg
theorem Nr.trans {a b c : Cq} {e d : Rat} (h : Nr a b e) (g : Nr b c d) : Nr a c (e + d) :=
  ⟨by have := tri (x := a.x) (y := b.x) (z := c.x); have := h.1; have := g.1; grind, by have := tri (x := a.y) (y := b.y) (z := c.y); have := h.2; have := g.2; grind⟩
theorem Nr.add {a b c d : Cq} {e f : Rat} (h : Nr a b e) (g : Nr c d f) : Nr (a.add c) (b.add d) (e + f) := by
  constructor
  · have := abs_add_le (a.x - b.x) (c.x - d.x); have := h.1; have := g.1
    show (a.x + c.x - (b.x + d.x)).abs ≤ _
    rw [show a.x + c.x - (b.x + d.x) = a.x - b.x + (c.x - d.x) by grind]; grind
  · have := abs_add_le (a.y - b.y) (c.y - d.y); have := h.2; have := g.2
    show (a.y + c.y - (b.y + d.y)).abs ≤ _
    rw [show a.y + c.y - (b.y + d.y) = a.y - b.y + (c.y - d.y) by grind]; grind
theorem Nr.neg {a b : Cq} {e : Rat} (h : Nr a b e) : Nr a.neg b.neg e := by
  constructor
  · show (-a.x - -b.x).abs ≤ e
    rw [show -a.x - -b.x = -(a.x - b.x) by grind, abs_neg]; exact h.1
  · show (-a.y - -b.y).abs ≤ e
    rw [show -a.y - -b.y = -(a.y - b.y) by grind, abs_neg]; exact h.2
theorem Nr.sub {a b c d : Cq} {e f : Rat} (h : Nr a b e) (g : Nr c d f) : Nr (a.sub c) (b.sub d) (e + f) := by rw [sub_eq, sub_eq]; exact h.add g.neg
theorem Nr.refl (a : Cq) : Nr a a 0 := ⟨by rw [Rat.sub_self, abs_zero]; exact Rat.le_refl, by rw [Rat.sub_self, abs_zero]; exact Rat.le_refl⟩
theorem Nr.n {a b : Cq} {e : Rat} (h : Nr a b e) : (a.sub b).n ≤ 2 * (e * e) := n_le h.1 h.2
/-- a factor times what is near -/
theorem Nr.mulLeft {a b c : Cq} {e m : Rat} (h : Nr a b e) (g : Bd c m) : Nr (c.mul a) (c.mul b) (2 * (m * e)) := by
  have k1 := abs_mul_le g.1 h.1
  have k2 := abs_mul_le g.2 h.2
  have k3 := abs_mul_le g.1 h.2
  have k4 := abs_mul_le g.2 h.1
  constructor
  · show (c.x * a.x - c.y * a.y - (c.x * b.x - c.y * b.y)).abs ≤ _
    have := abs_add_le (c.x * (a.x - b.x)) (-(c.y * (a.y - b.y)))
    rw [abs_neg] at this
    rw [show c.x * a.x - c.y * a.y - (c.x * b.x - c.y * b.y) = c.x * (a.x - b.x) + -(c.y * (a.y - b.y)) by grind]; grind
  · show (c.x * a.y + c.y * a.x - (c.x * b.y + c.y * b.x)).abs ≤ _
    have := abs_add_le (c.x * (a.y - b.y)) (c.y * (a.x - b.x))
    rw [show c.x * a.y + c.y * a.x - (c.x * b.y + c.y * b.x) = c.x * (a.y - b.y) + c.y * (a.x - b.x) by grind]; grind
theorem Bd.mul {a b : Cq} {m n : Rat} (h : Bd a m) (g : Bd b n) : Bd (a.mul b) (2 * (m * n)) := by
  have k1 := abs_mul_le h.1 g.1
  have k2 := abs_mul_le h.2 g.2
  have k3 := abs_mul_le h.1 g.2
  have k4 := abs_mul_le h.2 g.1
  constructor
  · show (a.x * b.x - a.y * b.y).abs ≤ _
    have := abs_add_le (a.x * b.x) (-(a.y * b.y))
    rw [abs_neg] at this
    rw [show a.x * b.x - a.y * b.y = a.x * b.x + -(a.y * b.y) by grind]; grind
  · show (a.x * b.y + a.y * b.x).abs ≤ _
    have := abs_add_le (a.x * b.y) (a.y * b.x)
    grind

theorem addQ {a b c d : Nat} {z w : Cq} {B : Rat} (h : IsQ a b z) (g : IsQ c d w) (hB : Bd (z.add w) B) (B1 : 1 / 1000 ≤ B) (B2 : B ≤ 1000000000000) :
    ∃ p q s, IsQ p q s ∧ Nr s (z.add w) (eps * B) ∧ ∀ (R : Type) (k : Nat → Nat → Option R), addK R a b c d k = k p q := by
  obtain ⟨p, x, e1, i1, n1⟩ := add_is h.1 g.1 (big_lt' hB.1 B2)
  obtain ⟨q, y, e2, i2, n2⟩ := add_is h.2 g.2 (big_lt' hB.2 B2)
  exact ⟨p, q, ⟨x, y⟩, ⟨i1, i2⟩, ⟨n1.le hB.1 (low_le B1), n2.le hB.2 (low_le B1)⟩, fun R k => by unfold addK; rw [bindF_eq e1, bindF_eq e2]⟩
theorem subQ {a b c d : Nat} {z w : Cq} {B : Rat} (h : IsQ a b z) (g : IsQ c d w) (hB : Bd (z.sub w) B) (B1 : 1 / 1000 ≤ B) (B2 : B ≤ 1000000000000) :
    ∃ p q s, IsQ p q s ∧ Nr s (z.sub w) (eps * B) ∧ ∀ (R : Type) (k : Nat → Nat → Option R), subK R a b c d k = k p q := by
  obtain ⟨p, x, e1, i1, n1⟩ := sub_is h.1 g.1 (big_lt' hB.1 B2)
  obtain ⟨q, y, e2, i2, n2⟩ := sub_is h.2 g.2 (big_lt' hB.2 B2)
  exact ⟨p, q, ⟨x, y⟩, ⟨i1, i2⟩, ⟨n1.le hB.1 (low_le B1), n2.le hB.2 (low_le B1)⟩, fun R k => by unfold subK; rw [bindF_eq e1, bindF_eq e2]⟩
theorem mulQ {a b c d : Nat} {z w : Cq} {m n B : Rat} (h : IsQ a b z) (g : IsQ c d w) (hz : Bd z m) (hw : Bd w n) (hB : m * n ≤ B) (B1 : 1 / 1000 ≤ B) (B2 : B ≤ 100000000000) :
    ∃ p q s, IsQ p q s ∧ Nr s (z.mul w) (401 / 100 * (eps * B)) ∧ ∀ (R : Type) (k : Nat → Nat → Option R), mulK R a b c d k = k p q := by
  have he := eps_pos
  have he2 := eps_tiny
  have k1 := Rat.le_trans (abs_mul_le hz.1 hw.1) hB
  have k2 := Rat.le_trans (abs_mul_le hz.2 hw.2) hB
  have k3 := Rat.le_trans (abs_mul_le hz.1 hw.2) hB
  have k4 := Rat.le_trans (abs_mul_le hz.2 hw.1) hB
  have B2' : B ≤ 1000000000000 := by grind
  have eB : eps * B * 1000000000 ≤ B := by
    have := Rat.mul_le_mul_of_nonneg_right he2 (show 0 ≤ B by grind)
    grind
  have eB0 : 0 ≤ eps * B := Rat.mul_nonneg (Rat.le_of_lt he) (by grind)
  obtain ⟨r1, x1, e1, i1, n1⟩ := mul_is h.1 g.1 (big_lt' k1 B2')
  obtain ⟨r2, x2, e2, i2, n2⟩ := mul_is h.2 g.2 (big_lt' k2 B2')
  have d1 := n1.le k1 (low_le B1)
  have d2 := n2.le k2 (low_le B1)
  have s1 : (x1 - x2).abs ≤ 2002 / 1000 * B := by
    have a1 := abs_near d1
    have a2 := abs_near d2
    have a3 := abs_add_le x1 (-x2)
    rw [abs_neg] at a3
    rw [show x1 - x2 = x1 + -x2 by grind]; grind
  obtain ⟨r3, x3, e3, i3, n3⟩ := sub_is i1 i2 (big_lt' s1 (by grind))
  have d3 := n3.le s1 (low_le (by grind))
  obtain ⟨r4, x4, e4, i4, n4⟩ := mul_is h.1 g.2 (big_lt' k3 B2')
  obtain ⟨r5, x5, e5, i5, n5⟩ := mul_is h.2 g.1 (big_lt' k4 B2')
  have d4 := n4.le k3 (low_le B1)
  have d5 := n5.le k4 (low_le B1)
  have s2 : (x4 + x5).abs ≤ 2002 / 1000 * B := by
    have a1 := abs_near d4
    have a2 := abs_near d5
    have a3 := abs_add_le x4 x5
    grind
  obtain ⟨r6, x6, e6, i6, n6⟩ := add_is i4 i5 (big_lt' s2 (by grind))
  have d6 := n6.le s2 (low_le (by grind))
  refine ⟨r3, r6, ⟨x3, x6⟩, ⟨i3, i6⟩, ⟨?_, ?_⟩, fun R k => by unfold mulK; rw [bindF_eq e1, bindF_eq e2, bindF_eq e3, bindF_eq e4, bindF_eq e5, bindF_eq e6]⟩
  · show (x3 - (z.x * w.x - z.y * w.y)).abs ≤ _
    have a1 := abs_add_le (x3 - (x1 - x2)) (x1 - z.x * w.x)
    have a2 := abs_add_le (x3 - (x1 - x2) + (x1 - z.x * w.x)) (-(x2 - z.y * w.y))
    rw [abs_neg] at a2
    rw [show x3 - (z.x * w.x - z.y * w.y) = x3 - (x1 - x2) + (x1 - z.x * w.x) + -(x2 - z.y * w.y) by grind]; grind
  · show (x6 - (z.x * w.y + z.y * w.x)).abs ≤ _
    have a1 := abs_add_le (x6 - (x4 + x5)) (x4 - z.x * w.y)
    have a2 := abs_add_le (x6 - (x4 + x5) + (x4 - z.x * w.y)) (x5 - z.y * w.x)
    rw [show x6 - (z.x * w.y + z.y * w.x) = x6 - (x4 + x5) + (x4 - z.x * w.y) + (x5 - z.y * w.x) by grind]; grind

theorem divQ {a b c d : Nat} {z g u : Cq} {M : Rat} (h : IsQ a b z) (hg : IsQ c d g) (gn : 1 / 1000000 ≤ g.n) (gb : Bd g 1000000000000) (e : u.mul g = z) (hu : Bd u M) (M1 : 1 ≤ M) (M2 : M ≤ 1000000) :
    ∃ p q s, IsQ p q s ∧ Nr s u (32 * (M * eps)) ∧ ∀ (R : Type) (k : Nat → Nat → Option R), divK R a b c d k = k p q := by
  have h6 := p2_le (show (50 : Int) ≤ 300 by decide)
  have h8 : (2 : Rat) ^ (50 : Int) = 1125899906842624 := by rw [show (50 : Int) = ((50 : Nat) : Int) by rfl, p2_nat]; rfl
  have h7 : (2 : Rat) ^ (-300 : Int) ≤ 1 / 2000 := by
    have g1 := p2_le (show (-300 : Int) ≤ -51 by decide)
    have g2 : (2 : Rat) ^ (-51 : Int) = eps := rfl
    have := eps_tiny
    rw [g2] at g1
    grind
  have ex := congrArg Cq.x e
  have ey := congrArg Cq.y e
  simp only [Cq.mul] at ex ey
  have hW : ∃ W : Rat, g.x.abs ≤ W ∧ g.y.abs ≤ W ∧ (W = g.x.abs ∨ W = g.y.abs) := by
    rcases (Rat.le_total : g.x.abs ≤ g.y.abs ∨ g.y.abs ≤ g.x.abs) with h | h
    · exact ⟨_, h, Rat.le_refl, .inr rfl⟩
    · exact ⟨_, Rat.le_refl, h, .inl rfl⟩
  obtain ⟨W, w1, w2, w3⟩ := hW
  have W0 : 0 ≤ W := by have := abs_nonneg g.x; grind
  have W1 : 1 / 2000 ≤ W := by
    rcases (Rat.le_total : W ≤ 1 / 2000 ∨ 1 / 2000 ≤ W) with k | k
    · have s1 := sq_le (Rat.le_trans w1 k)
      have s2 := sq_le (Rat.le_trans w2 k)
      unfold Cq.n at gn
      grind
    · exact k
  have W2 : W ≤ 1000000000000 := by rcases w3 with k | k <;> (rw [k]; first | exact gb.1 | exact gb.2)
  obtain ⟨p, q, U, V, j1, j2, j3, j4, j5⟩ := divK_near (u := u.x) (v := u.y) h.1 h.2 hg.1 hg.2 w1 w2 w3 (by grind) (by grind) hu.1 hu.2 (by grind) (by grind) (by rw [← ex]) (by rw [← ey])
  exact ⟨p, q, ⟨U, V⟩, ⟨j1, j2⟩, ⟨j3, j4⟩, j5⟩

theorem p40_eq : ((2 ^ 40 : Int) : Rat) = 1099511627776 := by rfl
theorem withinK_is {a : Nat} {x : Rat} (h : Is a x) (hb : x.abs ≤ 1000000) {R : Type} (k : Bool → Option R) : withinK R a 4787326403894837248 k = k true := by
  unfold withinK withinB absK
  show forceB (leF (absW a) 4787326403894837248) (fun t => k t) = k true
  rw [forceB_eq, leF_is (abs_is h) is_p40]
  have : x.abs ≤ ((2 ^ 40 : Int) : Rat) := by rw [p40_eq]; grind
  simp only [this, decide_true]
theorem placeQ {a b : Nat} {z : Cq} (h : IsQ a b z) (hb : Bd z 1000000) {R : Type} (k : Bool → Option R) : placeK R a b k = k true := by
  unfold placeK placeB WithinK WithinB
  rw [withinK_is h.1 hb.1, forceB_eq]
  simp only
  rw [withinK_is h.2 hb.2]
  simp only [forceB_eq]
theorem noughtQ {a b : Nat} {z : Cq} (h : IsQ a b z) (hz : z.n ≠ 0) {R : Type} (k : Bool → Option R) : noughtK R a b k = k false := by
  unfold noughtK
  rw [forceB_eq, eqF_is h.1 is0]
  by_cases h1 : z.x = 0
  · simp only [h1, decide_true]
    rw [forceB_eq, eqF_is h.2 is0]
    by_cases h2 : z.y = 0
    · exact absurd (by unfold Cq.n; rw [h1, h2]; grind) hz
    · simp [h2]
  · simp [h1]
theorem negQ {a b : Nat} {z : Cq} (h : IsQ a b z) : ∃ p q, IsQ p q z.neg ∧ ∀ (R : Type) (k : Nat → Nat → Option R), negK R a b k = k p q :=
  ⟨_, _, ⟨neg_is h.1, neg_is h.2⟩, fun R k => by unfold negK; rw [forceN_eq, forceN_eq]⟩
theorem rootQ {a b : Nat} {z : Cq} (h : IsQ a b z) (hb : Bd z 1000000000000) : ∃ p q P, IsQ p q P ∧ RootOf P z ∧ ∀ (R : Type) (k : Nat → Nat → Option R), rootK R a b k = k p q := by
  have h6 := p2_le (show (50 : Int) ≤ 300 by decide)
  have h8 : (2 : Rat) ^ (50 : Int) = 1125899906842624 := by rw [show (50 : Int) = ((50 : Nat) : Int) by rfl, p2_nat]; rfl
  obtain ⟨p, q, P, Q, i1, i2, r, e⟩ := rootK_is h.1 h.2 (by have := hb.1; grind) (by have := hb.2; grind)
  exact ⟨p, q, ⟨P, Q⟩, ⟨i1, i2⟩, r, e⟩
/-- near or not: an answer comes -/
theorem nearQ {a b c d m : Nat} {z w : Cq} {M : Rat} (h : IsQ a b z) (g : IsQ c d w) (hm : Is m M) (hz : Bd z 1000000) (hw : Bd w 1000000) : ∃ t, ∀ (R : Type) (k : Bool → Option R), nearK R a b c d m k = k t := by
  obtain ⟨p, q, s, i, n, e⟩ := subQ h g (hz.sub hw) (by grind) (by grind)
  have he := eps_tiny
  have h6 := p2_le (show (50 : Int) ≤ 400 by decide)
  have h8 : (2 : Rat) ^ (50 : Int) = 1125899906842624 := by rw [show (50 : Int) = ((50 : Nat) : Int) by rfl, p2_nat]; rfl
  have hs := n.bd (hz.sub hw)
  obtain ⟨r, L, j, _, el⟩ := lengthK_le (d := 3000000) i.1 i.2 (by have := hs.1; grind) (by have := hs.2; grind) (by
    have g1 := p2_le (show (-900 : Int) ≤ 0 by decide)
    rw [Rat.zpow_zero] at g1
    grind) (by grind)
  refine ⟨leF r m, fun R k => ?_⟩
  unfold nearK nearB
  rw [e, el, forceB_eq]
theorem nearQ_yes {a b c d m : Nat} {z w : Cq} {M e : Rat} (h : IsQ a b z) (g : IsQ c d w) (hm : Is m M) (he : Nr z w e) (e1 : 1 / 1000000000000 ≤ e) (e2 : e ≤ 1) (hM : 3 * e ≤ M) {R : Type} (k : Bool → Option R) : nearK R a b c d m k = k true :=
  nearK_yes h.1 h.2 g.1 g.2 hm he.1 he.2 (by
    have g1 := p2_le (show (-800 : Int) ≤ -51 by decide)
    have g2 : (2 : Rat) ^ (-51 : Int) = eps := rfl
    rw [g2, eps_val] at g1
    grind) (by
    have g1 := p2_le (show (0 : Int) ≤ 300 by decide)
    rw [Rat.zpow_zero] at g1
    grind) hM k
end Go.Vm
namespace Go.Vm
open Ieee Cq
set_option linter.unusedVariables false
set_option linter.unusedSimpArgs false

def sqrK : KMC := sqrB mulK
def joukK : KMZ := joukB noughtK sqrK divK addK
def mbackK : KMZ := moebBackB noughtK mulK subK divK
def jbackK : KMZ := joukBackB sclK mulK subK addK negK rootK
def jotherK : KMZ := joukOtherB jbackK sqrK divK

theorem is_half : Is 4602678819172646912 (1 / 2) := by
  have := fields_is (s := false) (E := 1022) (f := 0) (by decide) (by decide) (by decide)
  have e : dv false (2 ^ 52 + 0) (((1022 : Nat) : Int) - 1075) = 1 / 2 := by
    unfold dv sg
    rw [if_neg (by decide), Rat.one_mul, Nat.add_zero, ← p2_nat, ← p2_add]
    show (2 : Rat) ^ (-1 : Int) = 1 / 2
    have := p2_half 0
    rw [Rat.zpow_zero, show (0 - 1 : Int) = -1 by decide] at this
    grind
  rw [e] at this
  exact this

theorem sclQ {a b c : Nat} {z : Cq} {s B : Rat} (h : IsQ a b z) (g : Is c s) (hB : Bd ⟨z.x * s, z.y * s⟩ B) (B1 : 1 / 1000 ≤ B) (B2 : B ≤ 1000000000000) :
    ∃ p q w, IsQ p q w ∧ Nr w ⟨z.x * s, z.y * s⟩ (eps * B) ∧ ∀ (R : Type) (k : Nat → Nat → Option R), sclK R a b c k = k p q := by
  obtain ⟨p, x, e1, i1, n1⟩ := mul_is h.1 g (big_lt' hB.1 B2)
  obtain ⟨q, y, e2, i2, n2⟩ := mul_is h.2 g (big_lt' hB.2 B2)
  exact ⟨p, q, ⟨x, y⟩, ⟨i1, i2⟩, ⟨n1.le hB.1 (low_le B1), n2.le hB.2 (low_le B1)⟩, fun R k => by unfold sclK; rw [bindF_eq e1, bindF_eq e2]⟩

/-- a map of Joukowski's of whole parts, as it lies in words -/
structure IsJ (m : Mp) (A : Cq) (a1 a2 : Int) : Prop where
  a : IsC m.a1 m.a2 a1 a2
  A : A = ⟨a1, a2⟩
  l1 : a1.natAbs ≤ 8
  l2 : a2.natAbs ≤ 8
  b1 : m.b1 = 0
  b2 : m.b2 = 0
  c1 : m.c1 = 0
  c2 : m.c2 = 0
  d1 : m.d1 = 0
  d2 : m.d2 = 0
  p : m.p = 0

theorem intQ {a b : Nat} {x y : Int} (h : IsC a b x y) : IsQ a b ⟨x, y⟩ := ⟨h.1, h.2⟩
theorem int_bd {x y : Int} {n : Nat} (h : x.natAbs ≤ n) (g : y.natAbs ≤ n) : Bd ⟨x, y⟩ n := ⟨by rw [int_abs_nat]; exact nat_cast_le h, by rw [int_abs_nat]; exact nat_cast_le g⟩
theorem bd8 {x y : Int} (h : x.natAbs ≤ 8) (g : y.natAbs ≤ 8) : Bd ⟨x, y⟩ 8 := int_bd h g
theorem sq_one {x y : Int} (h : ¬ (x = 0 ∧ y = 0)) : 1 ≤ (Cq.mk x y).n := by
  have : 1 ≤ x * x + y * y := by
    rcases Classical.em (x = 0) with rfl | hx
    · have hy : y ≠ 0 := fun hy => h ⟨rfl, hy⟩
      have := Int.natAbs_pos.2 hy
      have h2 : y * y = ((y.natAbs * y.natAbs : Nat) : Int) := by rw [Int.natCast_mul, Int.natAbs_mul_self']
      have h3 := Nat.mul_le_mul this this
      omega
    · have := Int.natAbs_pos.2 hx
      have h2 : x * x = ((x.natAbs * x.natAbs : Nat) : Int) := by rw [Int.natCast_mul, Int.natAbs_mul_self']
      have h3 := Nat.mul_le_mul this this
      have h4 : 0 ≤ y * y := by
        have h5 : y * y = ((y.natAbs * y.natAbs : Nat) : Int) := by rw [Int.natCast_mul, Int.natAbs_mul_self']
        omega
      omega
  have h2 : ((1 : Int) : Rat) ≤ ((x * x + y * y : Int) : Rat) := by exact_mod_cast this
  show 1 ≤ (x : Rat) * x + (y : Rat) * y
  have h3 : ((x * x + y * y : Int) : Rat) = (x : Rat) * x + (y : Rat) * y := by push_cast; rfl
  rw [h3] at h2
  exact h2

/-- the square of the map's number, exact -/
theorem sqrQ {m : Mp} {A : Cq} {a1 a2 : Int} (h : IsJ m A a1 a2) : ∃ p q, IsQ p q (A.mul A) ∧ ∀ (R : Type) (k : Nat → Nat → Option R), sqrK R m k = k p q := by
  obtain ⟨p, q, i, _, _, e⟩ := mulK_int (p := 8) (q := 8) h.a h.a h.l1 h.l2 h.l1 h.l2 (by decide)
  refine ⟨p, q, ?_, fun R k => by unfold sqrK sqrB; rw [e]⟩
  rw [h.A]
  have := intQ i
  push_cast at this
  exact this

theorem chk2K_yes {m : Mp} {A : Cq} {a1 a2 : Int} (h : IsJ m A a1 a2) {R : Type} (k : Int → Option R) : chk2B placeK noughtK withinK R m k = k (if a1 = 0 ∧ a2 = 0 then 180 else 0) := by
  have hz : IsC 0 0 0 0 := ⟨is_zero, is_zero⟩
  have hw : ∀ (k : Bool → Option R), withinK R 0 4787326403894837248 k = k true := fun k => withinK_int is_zero (by decide) k
  have he : eqF 0 0 = true := by rw [eqF_is is_zero is_zero]; simp
  have hp : ∀ (k : Bool → Option R), placeK R 0 0 k = k true := fun k => placeK_int hz (by decide) (by decide) k
  have hn : ∀ (k : Bool → Option R), noughtK R 0 0 k = k true := fun k => by rw [noughtK_int hz]; simp
  have l1 := h.l1
  have l2 := h.l2
  unfold chk2B chkHead
  rw [placeK_int h.a (by omega) (by omega)]
  simp only [forceB_eq, h.b1, h.b2, h.c1, h.c2, h.d1, h.d2, h.p, hp, hw, he, hn]
  rw [noughtK_int h.a]
  by_cases h0 : a1 = 0 ∧ a2 = 0
  · simp [h0]
  · simp [h0]
end Go.Vm
namespace Go.Vm
open Ieee Cq
set_option linter.unusedVariables false
set_option linter.unusedSimpArgs false

theorem is_two' : Is 4611686018427387904 ((2 : Int) : Rat) := is_two

theorem root_bd {P d : Cq} {B : Rat} (h : RootOf P d) (hd : Bd d B) (hB : 3 ≤ B) : Bd P B := by
  unfold RootOf at h
  have h1 : d.n ≤ 2 * (B * B) := n_le hd.1 hd.2
  have h2 := n_add (Cq.sub (Cq.mul P P) d) d
  rw [show Cq.add (Cq.sub (Cq.mul P P) d) d = Cq.mul P P from ext' (by simp only [Cq.add, Cq.sub]; grind) (by simp only [Cq.add, Cq.sub]; grind), n_mul] at h2
  have h0 := d.n_nonneg
  have hp := P.n_nonneg
  rw [eps_val] at h
  have h3 : P.n * P.n ≤ 9 * (B * B) := by grind
  have h4 : P.n ≤ 3 * B := by
    rcases (Rat.le_total : P.n ≤ 3 * B ∨ 3 * B ≤ P.n) with g | g
    · exact g
    · rcases (Rat.le_total : P.n ≤ 3 * B ∨ 3 * B ≤ P.n) with g2 | g2
      · exact g2
      · have h5 := Rat.mul_le_mul_of_nonneg_right g hp
        have h6 := Rat.mul_le_mul_of_nonneg_left g (show 0 ≤ 3 * B by grind)
        have h7 : (P.n - 3 * B) * (P.n + 3 * B) = 0 := by
          have := Rat.mul_nonneg (show 0 ≤ P.n - 3 * B by grind) (show 0 ≤ P.n + 3 * B by grind)
          grind
        rcases Rat.mul_eq_zero.1 h7 with h8 | h8 <;> grind
  have h5 := Rat.mul_le_mul_of_nonneg_right hB (show 0 ≤ B by grind)
  exact le_n (show 0 ≤ B by grind) (by grind)

/-- Joukowski's map, there. -/
theorem joukQ {m : Mp} {A : Cq} {a1 a2 : Int} (h : IsJ m A a1 a2) {a b : Nat} {x y : Int} (hz : IsC a b x y) (x8 : x.natAbs ≤ 8) (y8 : y.natAbs ≤ 8) (z0 : ¬ (x = 0 ∧ y = 0)) {u : Cq} {M : Rat}
    (hu : Bd u M) (M1 : 10 ≤ M) (M2 : M ≤ 128) (e : u.mul ⟨x, y⟩ = A.mul A) :
    ∃ p q W, IsQ p q W ∧ Nr W (Cq.add ⟨x, y⟩ u) (34 * (M * eps)) ∧ ∀ (R : Type) (ke : Int → Option R) (k : Nat → Nat → Option R), joukK R m a b ke k = k p q := by
  obtain ⟨p1, q1, i1, e1⟩ := sqrQ h
  have hzq := intQ hz
  have z8 := bd8 x8 y8
  have zn := sq_one z0
  have het := eps_tiny
  have he := eps_pos
  obtain ⟨p2, q2, U, i2, n2, e2⟩ := divQ i1 hzq (by grind) (z8.mono (by grind)) e hu (by grind) (by grind)
  have hMe : M * eps ≤ 1 / 1000 := by
    have := Rat.mul_le_mul_of_nonneg_right M2 (Rat.le_of_lt he)
    grind
  have bU := n2.bd hu
  obtain ⟨p3, q3, W, i3, n3, e3⟩ := addQ hzq i2 (B := 2 * M) ((z8.add bU).mono (by grind)) (by grind) (by grind)
  refine ⟨p3, q3, W, i3, (n3.trans ((Nr.refl _).add n2)).mono (by grind), fun R ke k => ?_⟩
  unfold joukK joukB
  rw [noughtQ hzq (by grind), forceB_eq]
  simp only
  rw [e1, e2, e3]

/-- the last steps of the way back -/
theorem jback_end {w1 w2 s1 s2 : Nat} {z u W s : Cq} (iw : IsQ w1 w2 W) (is' : IsQ s1 s2 s) (bW : Bd W 150) (bs : Bd s 150) (zn : 1 ≤ z.n)
    (hW : (Cq.sub W (Cq.add z u)).n ≤ 38000000 * (eps * eps)) (hs : (Cq.sub s (Cq.sub z u)).n ≤ 160000 * eps ∨ (Cq.add s (Cq.sub z u)).n ≤ 160000 * eps) (hd : -(1 / 1000) ≤ dot W s) :
    ∃ p q b, IsQ p q b ∧ Bd b 1000 ∧ ((Cq.sub b z).n ≤ 120001 * eps ∨ ((Cq.sub b u).n ≤ 120001 * eps ∧ 48 / 100 * z.n ≤ b.n)) ∧
      ∀ (R : Type) (k : Nat → Nat → Option R), (addK R w1 w2 s1 s2 fun x y => sclK R x y 4602678819172646912 k) = k p q := by
  have het := eps_tiny
  have he := eps_pos
  obtain ⟨p1, q1, v, i1, n1, e1⟩ := addQ iw is' (B := 300) ((bW.add bs).mono (by grind)) (by grind) (by grind)
  have bv := n1.bd (bW.add bs)
  have bv2 : Bd ⟨v.x * (1 / 2), v.y * (1 / 2)⟩ 300 := ⟨by
      show (v.x * (1 / 2)).abs ≤ 300
      rw [abs_mul, Rat.abs_of_nonneg (show (0 : Rat) ≤ 1 / 2 by grind)]; have := bv.1; grind, by
      show (v.y * (1 / 2)).abs ≤ 300
      rw [abs_mul, Rat.abs_of_nonneg (show (0 : Rat) ≤ 1 / 2 by grind)]; have := bv.2; grind⟩
  obtain ⟨p2, q2, b, i2, n2, e2⟩ := sclQ i1 is_half bv2 (by grind) (by grind)
  have n3 : Nr (Cq.add b b) (Cq.add W s) (900 * eps) := by
    have h := (n2.add n2).trans (show Nr (Cq.add ⟨v.x * (1 / 2), v.y * (1 / 2)⟩ ⟨v.x * (1 / 2), v.y * (1 / 2)⟩) (Cq.add W s) (eps * 300) from by
      have : Cq.add ⟨v.x * (1 / 2), v.y * (1 / 2)⟩ ⟨v.x * (1 / 2), v.y * (1 / 2)⟩ = v := ext' (by simp only [Cq.add]; grind) (by simp only [Cq.add]; grind)
      rw [this]; exact n1)
    exact h.mono (by grind)
  have hb : (Cq.sub (Cq.add b b) (Cq.add W s)).n ≤ 8000000 * (eps * eps) := by
    have := n3.n
    have := Rat.mul_nonneg (Rat.le_of_lt he) (Rat.le_of_lt he)
    grind
  refine ⟨p2, q2, b, i2, (n2.bd bv2).mono (by grind), ?_, fun R k => by rw [e1, e2]⟩
  rcases hs with g | g
  · exact .inl (jouk_half hW hb g)
  · exact .inr ⟨jouk_half' hW hb g, jouk_long zn hW hb g hd⟩

/-- Joukowski's map, back. -/
theorem jbackQ {m : Mp} {A : Cq} {a1 a2 : Int} (h : IsJ m A a1 a2) {w1 w2 : Nat} {z u W : Cq} {M : Rat} (iw : IsQ w1 w2 W) (z8 : Bd z 8) (zn : 1 ≤ z.n) (hu : Bd u M) (e : u.mul z = A.mul A)
    (hW : Nr W (Cq.add z u) (34 * (M * eps))) (hM : (M = 10 ∧ (Cq.sub z u).n ≤ 1) ∨ (M = 128 ∧ 1 ≤ (Cq.sub z u).n)) :
    ∃ p q b, IsQ p q b ∧ Bd b 1000 ∧ ((Cq.sub b z).n ≤ 120001 * eps ∨ ((Cq.sub b u).n ≤ 120001 * eps ∧ 48 / 100 * z.n ≤ b.n)) ∧
      ∀ (R : Type) (ke : Int → Option R) (k : Nat → Nat → Option R), jbackK R m w1 w2 ke k = k p q := by
  have het := eps_tiny
  have he := eps_pos
  have hee := Rat.mul_nonneg (Rat.le_of_lt he) (Rat.le_of_lt he)
  have M1 : 10 ≤ M := by rcases hM with g | g <;> grind
  have M2 : M ≤ 128 := by rcases hM with g | g <;> grind
  have hMe : M * eps ≤ 1 / 1000 := by
    have := Rat.mul_le_mul_of_nonneg_right M2 (Rat.le_of_lt he)
    grind
  -- twice the number
  obtain ⟨f1, ef1, if1⟩ := mul_int h.a.1 is_two' (by have := h.l1; omega)
  obtain ⟨f2, ef2, if2⟩ := mul_int h.a.2 is_two' (by have := h.l2; omega)
  have iF : IsQ f1 f2 ⟨((a1 * 2 : Int) : Rat), ((a2 * 2 : Int) : Rat)⟩ := ⟨if1, if2⟩
  have bF : Bd ⟨((a1 * 2 : Int) : Rat), ((a2 * 2 : Int) : Rat)⟩ 16 := int_bd (n := 16) (by have := h.l1; omega) (by have := h.l2; omega)
  have eF : Cq.mul ⟨((a1 * 2 : Int) : Rat), ((a2 * 2 : Int) : Rat)⟩ ⟨((a1 * 2 : Int) : Rat), ((a2 * 2 : Int) : Rat)⟩ = Cq.mul ⟨4, 0⟩ (Cq.mul u z) := by
    rw [e, h.A]
    push_cast
    exact ext' (by simp only [Cq.mul]; grind) (by simp only [Cq.mul]; grind)
  generalize Cq.mk ((a1 * 2 : Int) : Rat) ((a2 * 2 : Int) : Rat) = F at *
  have bW := hW.bd (z8.add hu)
  have bw0 := z8.add hu
  obtain ⟨d1, d2, d, id, nd, ed⟩ := subQ iw iF (B := 4 * M) ((bW.sub bF).mono (by grind)) (by grind) (by grind)
  obtain ⟨g1, g2, g, ig, ng, eg⟩ := addQ iw iF (B := 4 * M) ((bW.add bF).mono (by grind)) (by grind) (by grind)
  have nd' : Nr d (Cq.sub (Cq.add z u) F) (38 * (M * eps)) := (nd.trans (hW.sub (Nr.refl F))).mono (by grind)
  have ng' : Nr g (Cq.add (Cq.add z u) F) (38 * (M * eps)) := (ng.trans (hW.add (Nr.refl F))).mono (by grind)
  have bd : Bd d (4 * M) := (nd'.bd (bw0.sub bF)).mono (by grind)
  have bg : Bd g (4 * M) := (ng'.bd (bw0.add bF)).mono (by grind)
  obtain ⟨r1, r2, P1, ip1, rp1, ep1⟩ := rootQ id (bd.mono (by grind))
  obtain ⟨r3, r4, P2, ip2, rp2, ep2⟩ := rootQ ig (bg.mono (by grind))
  have bp1 := root_bd rp1 bd (by grind)
  have bp2 := root_bd rp2 bg (by grind)
  have hMM : M * M ≤ 16384 := by
    have := Cq.mul_le (show 0 ≤ M by grind) M2 (show 0 ≤ M by grind) M2
    grind
  have hMM1 : 10 ≤ M * M := by
    have := Cq.mul_le (show (0 : Rat) ≤ 10 by decide) M1 (show (0 : Rat) ≤ 10 by decide) M1
    grind
  obtain ⟨s1, s2, s, is', ns, es⟩ := mulQ ip1 ip2 bp1 bp2 (B := 4 * M * (4 * M)) Rat.le_refl (by grind) (by grind)
  have idd : Cq.mul (Cq.sub z u) (Cq.sub z u) = Cq.sub (Cq.mul (Cq.add z u) (Cq.add z u)) (Cq.mul F F) := by
    rw [eF]
    exact ext' (by simp only [Cq.mul, Cq.sub, Cq.add]; grind) (by simp only [Cq.mul, Cq.sub, Cq.add]; grind)
  have alt : (Cq.sub s (Cq.sub z u)).n ≤ 160000 * eps ∨ (Cq.add s (Cq.sub z u)).n ≤ 160000 * eps := by
    rcases hM with ⟨hM, hX⟩ | ⟨hM, hX⟩
    · subst hM
      refine jouk_small idd hX (by have := nd'.n; grind) (by have := ng'.n; grind) ?_ ?_ rp1 rp2 (by have := ns.n; grind)
      · have := n_le (bw0.sub bF).1 (bw0.sub bF).2; grind
      · have := n_le (bw0.add bF).1 (bw0.add bF).2; grind
    · subst hM
      refine jouk_far idd hX ?_ (by have := nd'.n; grind) (by have := ng'.n; grind) ?_ ?_ rp1 rp2 (by have := ns.n; grind)
      · have := n_le (z8.sub hu).1 (z8.sub hu).2; grind
      · have := n_le (bw0.sub bF).1 (bw0.sub bF).2; grind
      · have := n_le (bw0.add bF).1 (bw0.add bF).2; grind
  have bs : Bd s 138 := by
    rcases alt with k | k
    · have k1 := le_n (show (0 : Rat) ≤ 1 by decide) (Rat.le_trans k (show 160000 * eps ≤ 1 * 1 by grind))
      have k2 := Bd.add (a := Cq.sub s (Cq.sub z u)) (m := 1) ⟨k1.1, k1.2⟩ (z8.sub hu)
      rw [show Cq.add (Cq.sub s (Cq.sub z u)) (Cq.sub z u) = s from ext' (by simp only [Cq.add, Cq.sub]; grind) (by simp only [Cq.add, Cq.sub]; grind)] at k2
      exact k2.mono (by grind)
    · have k1 := le_n (show (0 : Rat) ≤ 1 by decide) (Rat.le_trans k (show 160000 * eps ≤ 1 * 1 by grind))
      have k2 := Bd.sub (a := Cq.add s (Cq.sub z u)) (m := 1) ⟨k1.1, k1.2⟩ (z8.sub hu)
      rw [show Cq.sub (Cq.add s (Cq.sub z u)) (Cq.sub z u) = s from ext' (by simp only [Cq.add, Cq.sub]; grind) (by simp only [Cq.add, Cq.sub]; grind)] at k2
      exact k2.mono (by grind)
  have bW' : Bd W 138 := bW.mono (by grind)
  -- the sign
  have t1 := abs_mul_le bW'.1 bs.1
  have t2 := abs_mul_le bW'.2 bs.2
  obtain ⟨x1, v1, ex1, ix1, nx1⟩ := mul_is iw.1 is'.1 (big_lt' t1 (by grind))
  obtain ⟨x2, v2, ex2, ix2, nx2⟩ := mul_is iw.2 is'.2 (big_lt' t2 (by grind))
  have c1 := nx1.le t1 (low_le (by grind))
  have c2 := nx2.le t2 (low_le (by grind))
  have t3 : (v1 + v2).abs ≤ 40000 := by
    have a1 := abs_near c1
    have a2 := abs_near c2
    have a3 := abs_add_le v1 v2
    grind
  obtain ⟨x3, v3, ex3, ix3, nx3⟩ := add_is ix1 ix2 (big_lt' t3 (by grind))
  have c3 := nx3.le t3 (low_le (by grind))
  have cd : (v3 - dot W s).abs ≤ 1 / 1000 := by
    have a1 := abs_add_le (v3 - (v1 + v2)) (v1 - W.x * s.x)
    have a2 := abs_add_le (v3 - (v1 + v2) + (v1 - W.x * s.x)) (v2 - W.y * s.y)
    rw [show v3 - (v1 + v2) + (v1 - W.x * s.x) + (v2 - W.y * s.y) = v3 - dot W s by unfold dot; grind] at a2
    grind
  obtain ⟨cd1, cd2⟩ := abs_le_iff.1 cd
  have hWn : (Cq.sub W (Cq.add z u)).n ≤ 38000000 * (eps * eps) := by
    have k1 := hW.n
    have k2 := Rat.mul_le_mul_of_nonneg_right hMM hee
    have k3 : 34 * (M * eps) * (34 * (M * eps)) = 1156 * (M * M * (eps * eps)) := by grind
    rw [k3] at k1
    grind
  have hrun : ∀ (R : Type) (ke : Int → Option R) (k : Nat → Nat → Option R), jbackK R m w1 w2 ke k = (match decide (v3 < 0) with
      | true => negK R s1 s2 fun s1 s2 => addK R w1 w2 s1 s2 fun x y => sclK R x y 4602678819172646912 k
      | false => addK R w1 w2 s1 s2 fun x y => sclK R x y 4602678819172646912 k) := fun R ke k => by
    unfold jbackK joukBackB
    have hscl : ∀ k, sclK R m.a1 m.a2 4611686018427387904 k = k f1 f2 := fun k => by unfold sclK; rw [bindF_eq ef1, bindF_eq ef2]
    rw [hscl, ed, ep1, eg, ep2, es, bindF_eq ex1, bindF_eq ex2, bindF_eq ex3, forceB_eq, ltF_is ix3 is0]
    cases decide (v3 < 0) <;> rfl
  by_cases hneg : v3 < 0
  · obtain ⟨n1, n2, inn, en⟩ := negQ is'
    obtain ⟨p, q, b, ib, bb, hb, eb⟩ := jback_end iw inn (bW'.mono (by grind)) ((bs.neg).mono (by grind)) zn hWn (by
      rcases alt with k | k
      · right
        rw [show Cq.add s.neg (Cq.sub z u) = (Cq.sub s (Cq.sub z u)).neg from ext' (by simp only [Cq.add, Cq.sub, Cq.neg]; grind) (by simp only [Cq.add, Cq.sub, Cq.neg]; grind), n_neg]; exact k
      · left
        rw [show Cq.sub s.neg (Cq.sub z u) = (Cq.add s (Cq.sub z u)).neg from ext' (by simp only [Cq.add, Cq.sub, Cq.neg]; grind) (by simp only [Cq.add, Cq.sub, Cq.neg]; grind), n_neg]; exact k)
      (by
        have : dot W s.neg = -dot W s := by unfold dot Cq.neg; grind
        rw [this]; grind)
    refine ⟨p, q, b, ib, bb, hb, fun R ke k => ?_⟩
    rw [hrun]
    simp only [hneg, decide_true]
    rw [en, eb]
  · obtain ⟨p, q, b, ib, bb, hb, eb⟩ := jback_end iw is' (bW'.mono (by grind)) (bs.mono (by grind)) zn hWn alt (by grind)
    refine ⟨p, q, b, ib, bb, hb, fun R ke k => ?_⟩
    rw [hrun]
    simp only [hneg, decide_false]
    rw [eb]
end Go.Vm
namespace Go.Vm
open Ieee Cq
set_option linter.unusedVariables false
set_option linter.unusedSimpArgs false

def chk2P : KMI := chk2B placeK noughtK withinK
def at2K : KMZ := atLB [6] chk2P placeK joukK FiniteK
def bk1K : KMZ := atLB [181] chkK placeK mbackK placeK
def bk2K : KMZ := atLB [] chk2P placeK jbackK placeK
def bk3K : KMZ := atLB [] chk2P placeK jotherK placeK

theorem is_m14 : Is 4544132024016830464 (1 / 16384) := by
  have := fields_is (s := false) (E := 1009) (f := 0) (by decide) (by decide) (by decide)
  have e : dv false (2 ^ 52 + 0) (((1009 : Nat) : Int) - 1075) = 1 / 16384 := by
    unfold dv sg
    rw [if_neg (by decide), Rat.one_mul, Nat.add_zero, ← p2_nat, ← p2_add]
    show (2 : Rat) ^ (-14 : Int) = 1 / 16384
    have h7 := p2_cancel 14
    have h8 : (2 : Rat) ^ (14 : Int) = 16384 := by rw [show (14 : Int) = ((14 : Nat) : Int) by rfl, p2_nat]; rfl
    rw [h8] at h7
    grind
  rw [e] at this
  exact this
theorem is_m20 : Is 4517110426252607488 (1 / 1048576) := by
  have := fields_is (s := false) (E := 1003) (f := 0) (by decide) (by decide) (by decide)
  have e : dv false (2 ^ 52 + 0) (((1003 : Nat) : Int) - 1075) = 1 / 1048576 := by
    unfold dv sg
    rw [if_neg (by decide), Rat.one_mul, Nat.add_zero, ← p2_nat, ← p2_add]
    show (2 : Rat) ^ (-20 : Int) = 1 / 1048576
    have h7 := p2_cancel 20
    have h8 : (2 : Rat) ^ (20 : Int) = 1048576 := by rw [show (20 : Int) = ((20 : Nat) : Int) by rfl, p2_nat]; rfl
    rw [h8] at h7
    grind
  rw [e] at this
  exact this

theorem n_zero {a : Cq} (h : a.n ≤ 0) : a.x = 0 ∧ a.y = 0 := by
  have := le_n (a := a) (m := 0) (by decide) (by grind)
  have h1 := abs_le_self a.x
  have h2 := abs_le_self a.y
  obtain ⟨g1, g2⟩ := this
  exact ⟨by grind, by grind⟩
theorem mul_cancel {a b c : Cq} (h : Cq.mul a b = Cq.mul c b) (hb : 0 < b.n) : a = c := by
  have h1 := n_mul (Cq.sub a c) b
  have h2 : Cq.mul (Cq.sub a c) b = ⟨0, 0⟩ := by
    have hx := congrArg Cq.x h
    have hy := congrArg Cq.y h
    simp only [Cq.mul] at hx hy
    exact ext' (by simp only [Cq.mul, Cq.sub]; grind) (by simp only [Cq.mul, Cq.sub]; grind)
  rw [h2] at h1
  have h3 : (Cq.mk 0 0).n = 0 := by unfold Cq.n; grind
  rw [h3] at h1
  rcases Rat.mul_eq_zero.1 h1.symm with g | g
  · obtain ⟨g1, g2⟩ := n_zero (a := Cq.sub a c) (by rw [g]; exact Rat.le_refl)
    simp only [Cq.sub] at g1 g2
    exact ext' (by grind) (by grind)
  · grind

/-- ONE KIND: Joukowski's map, there and back. -/
theorem jouk_law {m : Mp} {A : Cq} {a1 a2 : Int} (h : IsJ m A a1 a2) (a0 : ¬ (a1 = 0 ∧ a2 = 0)) {a b : Nat} {x y : Int} (hz : IsC a b x y) (x8 : x.natAbs ≤ 8) (y8 : y.natAbs ≤ 8) (z0 : ¬ (x = 0 ∧ y = 0)) :
    ∃ w1 w2 b1 b2 c1 c2 s t, (∀ (R : Type) (ke : Int → Option R) (k : Nat → Nat → Option R), at2K R m a b ke k = k w1 w2) ∧ (∀ (R : Type) (ke : Int → Option R) (k : Nat → Nat → Option R), bk2K R m w1 w2 ke k = k b1 b2) ∧
      (∀ (R : Type) (ke : Int → Option R) (k : Nat → Nat → Option R), bk3K R m w1 w2 ke k = k c1 c2) ∧
      (∀ (R : Type) (k : Bool → Option R), nearK R b1 b2 a b 4544132024016830464 k = k s) ∧ (∀ (R : Type) (k : Bool → Option R), nearK R c1 c2 a b 4544132024016830464 k = k t) ∧ (s || t) = true := by
  have het := eps_tiny
  have he := eps_pos
  have hzq := intQ hz
  have z8 := bd8 x8 y8
  have zn := sq_one z0
  obtain ⟨u, hu⟩ := quo_ex (Cq.mul A A) (b := ⟨x, y⟩) (by grind)
  have bA : Bd A 8 := by rw [h.A]; exact bd8 h.l1 h.l2
  have nA : (Cq.mul A A).n ≤ 16384 := by
    have k1 := n_le bA.1 bA.2
    have k2 := n_mul_le k1 k1
    grind
  have hM : ∃ M : Rat, Bd u M ∧ ((M = 10 ∧ (Cq.sub ⟨x, y⟩ u).n ≤ 1) ∨ (M = 128 ∧ 1 ≤ (Cq.sub ⟨x, y⟩ u).n)) := by
    rcases (Rat.le_total : (Cq.sub ⟨x, y⟩ u).n ≤ 1 ∨ 1 ≤ (Cq.sub ⟨x, y⟩ u).n) with g | g
    · refine ⟨10, ?_, .inl ⟨rfl, g⟩⟩
      have k1 := le_n (show (0 : Rat) ≤ 1 by decide) (Rat.le_trans g (show (1 : Rat) ≤ 1 * 1 by grind))
      have k2 := z8.sub (b := Cq.sub ⟨x, y⟩ u) (n := 1) ⟨k1.1, k1.2⟩
      rw [show Cq.sub ⟨x, y⟩ (Cq.sub ⟨x, y⟩ u) = u from ext' (by simp only [Cq.sub]; grind) (by simp only [Cq.sub]; grind)] at k2
      exact k2.mono (by grind)
    · refine ⟨128, ?_, .inr ⟨rfl, g⟩⟩
      have k1 := n_mul u ⟨x, y⟩
      rw [hu] at k1
      have k2 := Rat.mul_le_mul_of_nonneg_left zn u.n_nonneg
      have k3 := le_n (a := u) (show (0 : Rat) ≤ 128 by decide) (by grind)
      exact ⟨k3.1, k3.2⟩
  obtain ⟨M, bu, hM⟩ := hM
  have M1 : 10 ≤ M := by rcases hM with g | g <;> grind
  have M2 : M ≤ 128 := by rcases hM with g | g <;> grind
  have hMe : M * eps ≤ 1 / 1000 := by
    have := Rat.mul_le_mul_of_nonneg_right M2 (Rat.le_of_lt he)
    grind
  obtain ⟨w1, w2, W, iw, nw, ew⟩ := joukQ h hz x8 y8 z0 bu M1 M2 hu
  have bW : Bd W 1000 := (nw.bd (z8.add bu)).mono (by grind)
  obtain ⟨b1, b2, v, ib, bb, hb, eb⟩ := jbackQ h iw z8 zn bu hu nw hM
  obtain ⟨p1, q1, i1, e1⟩ := sqrQ h
  have vn : 1 / 3 ≤ v.n := by
    rcases hb with g | ⟨_, g⟩
    · have k := n_add v (Cq.sub ⟨x, y⟩ v)
      rw [show Cq.add v (Cq.sub ⟨x, y⟩ v) = ⟨x, y⟩ from ext' (by simp only [Cq.add, Cq.sub]; grind) (by simp only [Cq.add, Cq.sub]; grind), n_sub_comm] at k
      grind
    · grind
  obtain ⟨c, hc⟩ := quo_ex (Cq.mul A A) (b := v) (by grind)
  have bc : Bd c 222 := by
    have k1 := n_mul c v
    rw [hc] at k1
    have k2 := Rat.mul_le_mul_of_nonneg_left vn c.n_nonneg
    have k3 := le_n (a := c) (show (0 : Rat) ≤ 222 by decide) (by grind)
    exact ⟨k3.1, k3.2⟩
  obtain ⟨c1, c2, C, ic, nc, ec⟩ := divQ i1 ib (by grind) (bb.mono (by grind)) hc bc (by grind) (by grind)
  have bC : Bd C 1000 := (nc.bd bc).mono (by grind)
  obtain ⟨s, es⟩ := nearQ ib hzq is_m14 (bb.mono (by grind)) (z8.mono (by grind))
  obtain ⟨t, et⟩ := nearQ ic hzq is_m14 (bC.mono (by grind)) (z8.mono (by grind))
  have hchk : ∀ (R : Type) (k : Int → Option R), chk2P R m k = k 0 := fun R k => by
    unfold chk2P
    rw [chk2K_yes h, if_neg a0]
  refine ⟨w1, w2, b1, b2, c1, c2, s, t, fun R ke k => ?_, fun R ke k => ?_, fun R ke k => ?_, es, et, ?_⟩
  · unfold at2K atLB
    rw [hchk, forceB_eq]
    simp only [bne_self_eq_false]
    rw [placeQ hzq (z8.mono (by grind)), forceB_eq]
    simp only
    rw [ew, FiniteK_yes iw.1 iw.2, forceB_eq]
  · unfold bk2K atLB
    rw [hchk, forceB_eq]
    simp only [bne_self_eq_false]
    rw [placeQ iw (bW.mono (by grind)), forceB_eq]
    simp only
    rw [eb, placeQ ib (bb.mono (by grind)), forceB_eq]
  · unfold bk3K atLB
    rw [hchk, forceB_eq]
    simp only [bne_self_eq_false]
    rw [placeQ iw (bW.mono (by grind)), forceB_eq]
    simp only
    unfold jotherK joukOtherB
    rw [eb, e1, ec, placeQ ic (bC.mono (by grind)), forceB_eq]
  · rcases hb with g | ⟨g1, g2⟩
    · have k := le_n (a := Cq.sub v ⟨x, y⟩) (m := 1 / 49152) (by grind) (by rw [eps_val] at g; grind)
      have k2 : nearK Bool b1 b2 a b 4544132024016830464 some = some true := nearQ_yes ib hzq is_m14 ⟨k.1, k.2⟩ (by grind) (by grind) (by grind) _
      rw [es] at k2
      cases k2
      rfl
    · have g3 := jouk_other zn g1 g2 (by rw [hc, hu])
      have g4 := n_tri C c ⟨x, y⟩
      have g5 := nc.n
      have k := le_n (a := Cq.sub C ⟨x, y⟩) (m := 1 / 49152) (by grind) (by rw [eps_val] at *; grind)
      have k2 : nearK Bool c1 c2 a b 4544132024016830464 some = some true := nearQ_yes ic hzq is_m14 ⟨k.1, k.2⟩ (by grind) (by grind) (by grind) _
      rw [et] at k2
      cases k2
      simp
end Go.Vm
namespace Go.Vm
open Ieee Cq
set_option linter.unusedVariables false
set_option linter.unusedSimpArgs false

set_option maxHeartbeats 4000000 in
/-- THE OTHER KIND: a Moebius map of whole parts, there and back. -/
theorem moeb_law {m : Mp} {M : GM} (hm : IsM m M) (lm : M.Le 8) {a b : Nat} {x y : Int} (hz : IsC a b x y) (x8 : x.natAbs ≤ 8) (y8 : y.natAbs ≤ 8) :
    (∃ e, (e = 180 ∨ e = 6) ∧ ∀ (R : Type) (ke : Int → Option R) (k : Nat → Nat → Option R), atK R m a b ke k = ke e) ∨
    ∃ w1 w2 b1 b2, (∀ (R : Type) (ke : Int → Option R) (k : Nat → Nat → Option R), atK R m a b ke k = k w1 w2) ∧ (∀ (R : Type) (ke : Int → Option R) (k : Nat → Nat → Option R), bk1K R m w1 w2 ke k = k b1 b2) ∧
      (∀ (R : Type) (k : Bool → Option R), nearK R b1 b2 a b 4517110426252607488 k = k true) := by
  have het := eps_tiny
  have he := eps_pos
  have hee := Rat.mul_nonneg (Rat.le_of_lt he) (Rat.le_of_lt he)
  have hzq := intQ hz
  have z8 := bd8 x8 y8
  by_cases hd : M.No
  · left
    refine ⟨180, .inl rfl, fun R ke k => ?_⟩
    unfold atK atB
    rw [chkK_int hm lm (by decide) (by decide), if_pos hd, forceB_eq]
    rfl
  obtain ⟨s1, t1, i1, b1, b2, e1⟩ := mulK_int (p := 8) (q := 8) hm.c hz lm.c1 lm.c2 x8 y8 (by decide)
  have bd1 := lm.d1
  have bd2 := lm.d2
  obtain ⟨s2, t2, i2, e2⟩ := addK_int i1 hm.d (by omega) (by omega)
  obtain ⟨s3, t3, i3, b3, b4, e3⟩ := mulK_int (p := 8) (q := 8) hm.a hz lm.a1 lm.a2 x8 y8 (by decide)
  have bb1 := lm.b1
  have bb2 := lm.b2
  obtain ⟨s4, t4, i4, e4⟩ := addK_int i3 hm.b (by omega) (by omega)
  have E1 : M.c1 * x - M.c2 * y + M.d1 = M.e1 x y := rfl
  have E2 : M.c1 * y + M.c2 * x + M.d2 = M.e2 x y := rfl
  have N1 : M.a1 * x - M.a2 * y + M.b1 = M.n1 x y := rfl
  have N2 : M.a1 * y + M.a2 * x + M.b2 = M.n2 x y := rfl
  have hun : ∀ (R : Type) (k : Nat → Nat → Option R), underK R m a b k = k s2 t2 := fun R k => by
    unfold underK underB
    rw [e1, e2]
  rw [E1, E2] at i2
  rw [N1, N2] at i4
  by_cases h0 : M.e1 x y = 0 ∧ M.e2 x y = 0
  · left
    refine ⟨6, .inr rfl, fun R ke k => ?_⟩
    unfold atK atB
    rw [chkK_int hm lm (by decide) (by decide), if_neg hd, forceB_eq]
    simp only [bne_self_eq_false]
    rw [placeK_int hz (by omega) (by omega), forceB_eq]
    simp only
    unfold moebK moebB
    rw [hun, noughtK_int i2, forceB_eq]
    simp only [h0, and_self, decide_true]
    exact errIn_eq ke (by decide)
  right
  have en := sq_one h0
  have be : Bd ⟨(M.e1 x y : Int), (M.e2 x y : Int)⟩ 136 := int_bd (n := 136) (by rw [← E1]; omega) (by rw [← E2]; omega)
  have bn : Bd ⟨(M.n1 x y : Int), (M.n2 x y : Int)⟩ 136 := int_bd (n := 136) (by rw [← N1]; omega) (by rw [← N2]; omega)
  have qe := intQ i2
  have qn := intQ i4
  have qa := intQ hm.a
  have qb := intQ hm.b
  have qc := intQ hm.c
  have qd := intQ hm.d
  have ba := bd8 lm.a1 lm.a2
  have bb := bd8 lm.b1 lm.b2
  have bc := bd8 lm.c1 lm.c2
  have bdd := bd8 lm.d1 lm.d2
  have hE : Cq.mk (M.e1 x y : Int) (M.e2 x y : Int) = Cq.add (Cq.mul ⟨M.c1, M.c2⟩ ⟨x, y⟩) ⟨M.d1, M.d2⟩ := by
    rw [← E1, ← E2]; push_cast; rfl
  have hN : Cq.mk (M.n1 x y : Int) (M.n2 x y : Int) = Cq.add (Cq.mul ⟨M.a1, M.a2⟩ ⟨x, y⟩) ⟨M.b1, M.b2⟩ := by
    rw [← N1, ← N2]; push_cast; rfl
  have hdet : 1 ≤ (Cq.sub (Cq.mul ⟨M.a1, M.a2⟩ ⟨M.d1, M.d2⟩) (Cq.mul ⟨M.b1, M.b2⟩ ⟨M.c1, M.c2⟩)).n := by
    have := sq_one (x := M.x) (y := M.y) hd
    have e : Cq.mk (M.x : Int) (M.y : Int) = Cq.sub (Cq.mul ⟨M.a1, M.a2⟩ ⟨M.d1, M.d2⟩) (Cq.mul ⟨M.b1, M.b2⟩ ⟨M.c1, M.c2⟩) := by
      unfold GM.x GM.y; push_cast; rfl
    rw [e] at this
    exact this
  have hchk : ∀ (R : Type) (k : Int → Option R), chkK R m k = k 0 := fun R k => by rw [chkK_int hm lm (by decide) (by decide), if_neg hd]
  generalize Cq.mk (M.e1 x y : Int) (M.e2 x y : Int) = E at *
  generalize Cq.mk (M.n1 x y : Int) (M.n2 x y : Int) = N at *
  generalize Cq.mk (x : Rat) (y : Rat) = z at *
  generalize Cq.mk (M.a1 : Rat) (M.a2 : Rat) = A at *
  generalize Cq.mk (M.b1 : Rat) (M.b2 : Rat) = B at *
  generalize Cq.mk (M.c1 : Rat) (M.c2 : Rat) = C at *
  generalize Cq.mk (M.d1 : Rat) (M.d2 : Rat) = D at *
  have nE : E.n ≤ 36992 := by have := n_le be.1 be.2; grind
  have nN : N.n ≤ 36992 := by have := n_le bn.1 bn.2; grind
  obtain ⟨u, hu⟩ := quo_ex N (b := E) (by grind)
  have bu : Bd u 193 := by
    have k1 := n_mul u E
    rw [hu] at k1
    have k2 := Rat.mul_le_mul_of_nonneg_left en u.n_nonneg
    have k3 := le_n (a := u) (show (0 : Rat) ≤ 193 by decide) (by grind)
    exact ⟨k3.1, k3.2⟩
  obtain ⟨w1, w2, W, iw, nw, ew⟩ := divQ qn qe (by grind) (be.mono (by grind)) hu bu (by grind) (by grind)
  have bw : Bd W 194 := (nw.bd bu).mono (by grind)
  -- the divisor of the way back
  obtain ⟨p1, q1, X, iX, nX, eX⟩ := mulQ qc iw bc bw (B := 1552) (by grind) (by grind) (by grind)
  have nX' : Nr X (Cq.mul C u) (105100 * eps) := (nX.trans (nw.mulLeft bc)).mono (by grind)
  have bX : Bd X 3200 := (nX'.bd (bc.mul bu)).mono (by grind)
  obtain ⟨g1, g2, g, ig, ng, eg⟩ := subQ qa iX (B := 3300) ((ba.sub bX).mono (by grind)) (by grind) (by grind)
  have ng' : Nr g (Cq.sub A (Cq.mul C u)) (108500 * eps) := (ng.trans ((Nr.refl A).sub nX')).mono (by grind)
  obtain ⟨p2, q2, Y, iY, nY, eY⟩ := mulQ qd iw bdd bw (B := 1552) (by grind) (by grind) (by grind)
  have nY' : Nr Y (Cq.mul D u) (105100 * eps) := (nY.trans (nw.mulLeft bdd)).mono (by grind)
  have bY : Bd Y 3200 := (nY'.bd (bdd.mul bu)).mono (by grind)
  obtain ⟨n1, n2, n, inn, nn, enn⟩ := subQ iY qb (B := 3300) ((bY.sub bb).mono (by grind)) (by grind) (by grind)
  have nn' : Nr n (Cq.sub (Cq.mul D u) B) (108500 * eps) := (nn.trans (nY'.sub (Nr.refl B))).mono (by grind)
  -- what they are exactly
  have hγ : Cq.mul (Cq.sub A (Cq.mul C u)) E = Cq.sub (Cq.mul A D) (Cq.mul B C) := by
    have k1 : Cq.mul (Cq.sub A (Cq.mul C u)) E = Cq.sub (Cq.mul A E) (Cq.mul C (Cq.mul u E)) := ext' (by simp only [Cq.mul, Cq.sub]; grind) (by simp only [Cq.mul, Cq.sub]; grind)
    rw [k1, hu, hE, hN]
    exact ext' (by simp only [Cq.mul, Cq.sub, Cq.add]; grind) (by simp only [Cq.mul, Cq.sub, Cq.add]; grind)
  have hν : Cq.sub (Cq.mul D u) B = Cq.mul z (Cq.sub A (Cq.mul C u)) := by
    refine mul_cancel (b := E) ?_ (by grind)
    have k1 : Cq.mul (Cq.sub (Cq.mul D u) B) E = Cq.sub (Cq.mul D (Cq.mul u E)) (Cq.mul B E) := ext' (by simp only [Cq.mul, Cq.sub]; grind) (by simp only [Cq.mul, Cq.sub]; grind)
    have k2 : Cq.mul (Cq.mul z (Cq.sub A (Cq.mul C u))) E = Cq.mul z (Cq.mul (Cq.sub A (Cq.mul C u)) E) := ext' (by simp only [Cq.mul, Cq.sub]; grind) (by simp only [Cq.mul, Cq.sub]; grind)
    rw [k1, k2, hγ, hu, hE, hN]
    exact ext' (by simp only [Cq.mul, Cq.sub, Cq.add]; grind) (by simp only [Cq.mul, Cq.sub, Cq.add]; grind)
  have nγ : 1 / 36992 ≤ (Cq.sub A (Cq.mul C u)).n := by
    have k1 := n_mul (Cq.sub A (Cq.mul C u)) E
    rw [hγ] at k1
    have k2 := Rat.mul_le_mul_of_nonneg_left nE (Cq.sub A (Cq.mul C u)).n_nonneg
    grind
  generalize hγe : Cq.sub A (Cq.mul C u) = γ at *
  rw [hν] at nn'
  have sg := ng'.n
  have sn := nn'.n
  have gn : 1 / 37400 ≤ g.n := by
    have k := n_add' g (Cq.sub γ g)
    rw [show Cq.add g (Cq.sub γ g) = γ from ext' (by simp only [Cq.add, Cq.sub]; grind) (by simp only [Cq.add, Cq.sub]; grind), n_sub_comm] at k
    rw [eps_val] at *
    grind
  have bg : Bd g 10000 := (ng.bd (ba.sub bX)).mono (by grind)
  obtain ⟨β, hβ⟩ := quo_ex n (b := g) (by grind)
  have zn2 : z.n ≤ 128 := by have := n_le z8.1 z8.2; grind
  have nβ : (Cq.sub β z).n ≤ 230000000000000000 * (eps * eps) := by
    have k1 : Cq.mul (Cq.sub β z) g = Cq.sub (Cq.sub n (Cq.mul z γ)) (Cq.mul z (Cq.sub g γ)) := by
      have hx := congrArg Cq.x hβ
      have hy := congrArg Cq.y hβ
      simp only [Cq.mul] at hx hy
      exact ext' (by simp only [Cq.mul, Cq.sub]; grind) (by simp only [Cq.mul, Cq.sub]; grind)
    have k2 := n_mul (Cq.sub β z) g
    rw [k1] at k2
    have k3 := n_sub (Cq.sub n (Cq.mul z γ)) (Cq.mul z (Cq.sub g γ))
    have k4 := n_mul_le zn2 sg
    have k5 := Rat.mul_le_mul_of_nonneg_left gn (Cq.sub β z).n_nonneg
    rw [eps_val] at *
    grind
  have bβ : Bd β 9 := by
    have k := le_n (a := Cq.sub β z) (m := 1) (by grind) (by rw [eps_val] at nβ; grind)
    have k2 := Bd.add (a := Cq.sub β z) (m := 1) ⟨k.1, k.2⟩ z8
    rw [show Cq.add (Cq.sub β z) z = β from ext' (by simp only [Cq.add, Cq.sub]; grind) (by simp only [Cq.add, Cq.sub]; grind)] at k2
    exact k2.mono (by grind)
  obtain ⟨r1, r2, v, iv, nv, ev⟩ := divQ inn ig (by grind) (bg.mono (by grind)) hβ bβ (by grind) (by grind)
  have bv : Bd v 10 := (nv.bd bβ).mono (by grind)
  refine ⟨w1, w2, r1, r2, fun R ke k => ?_, fun R ke k => ?_, fun R k => ?_⟩
  · unfold atK atB
    rw [hchk, forceB_eq]
    simp only [bne_self_eq_false]
    rw [placeQ hzq (z8.mono (by grind)), forceB_eq]
    simp only
    unfold moebK moebB
    rw [hun, noughtK_int i2, forceB_eq]
    simp only [h0, decide_false]
    rw [e3, e4, ew, FiniteK_yes iw.1 iw.2, forceB_eq]
  · unfold bk1K atLB
    rw [hchk, forceB_eq]
    simp only [bne_self_eq_false]
    rw [placeQ iw (bw.mono (by grind)), forceB_eq]
    simp only
    unfold mbackK moebBackB
    rw [eX, eg, noughtQ ig (by grind), forceB_eq]
    simp only
    rw [eY, enn, ev, placeQ iv (bv.mono (by grind)), forceB_eq]
  · have k1 := n_tri v β z
    have k2 := nv.n
    have k := le_n (a := Cq.sub v z) (m := 1 / 3145728) (by grind) (by rw [eps_val] at *; grind)
    exact nearQ_yes iv hzq is_m20 ⟨k.1, k.2⟩ (by grind) (by grind) (by grind) _
end Go.Vm
namespace Go.Vm
open Ieee Cq
set_option linter.unusedVariables false
set_option linter.unusedSimpArgs false

def thereLawK := thereLaw upG ofG smallK frK atK at2K bk1K bk2K bk3K nearK

theorem of8 {x : Int} (h : x.natAbs ≤ 8) : Is (floatOfInt .f64 x) x := ofInt_is (Nat.lt_of_le_of_lt h (by decide))

theorem thereRest_true {a p : G2} (ha : a.x.natAbs ≤ 8 ∧ a.y.natAbs ≤ 8) (hp : p.x.natAbs ≤ 8 ∧ p.y.natAbs ≤ 8) {R : Type} (k : Bool → Option R) :
    thereRest ofG at2K bk2K bk3K nearK a p (floatOfInt .f64 p.x) (floatOfInt .f64 p.y) k = k true := by
  unfold thereRest
  rw [ofG_eq]
  have hz : IsC (floatOfInt .f64 p.x) (floatOfInt .f64 p.y) p.x p.y := ⟨of8 hp.1, of8 hp.2⟩
  have hj : IsJ ⟨floatOfInt .f64 a.x, floatOfInt .f64 a.y, 0, 0, 0, 0, 0, 0, 0⟩ ⟨a.x, a.y⟩ a.x a.y := ⟨⟨of8 ha.1, of8 ha.2⟩, rfl, ha.1, ha.2, rfl, rfl, rfl, rfl, rfl, rfl, rfl⟩
  by_cases a0 : a.x = 0 ∧ a.y = 0
  · have : ∀ (ke : Int → Option R) (kk : Nat → Nat → Option R), at2K R ⟨floatOfInt .f64 a.x, floatOfInt .f64 a.y, 0, 0, 0, 0, 0, 0, 0⟩ (floatOfInt .f64 p.x) (floatOfInt .f64 p.y) ke kk = ke 180 := fun ke kk => by
      unfold at2K atLB
      have hchk : ∀ (k : Int → Option R), chk2P R ⟨floatOfInt .f64 a.x, floatOfInt .f64 a.y, 0, 0, 0, 0, 0, 0, 0⟩ k = k 180 := fun k => by
        unfold chk2P
        rw [chk2K_yes hj, if_pos a0]
      rw [hchk, forceB_eq]
      rfl
    rw [this, errIn_eq _ (by decide), eq2_eq]
    simp [a0]
  by_cases z0 : p.x = 0 ∧ p.y = 0
  · have : ∀ (ke : Int → Option R) (kk : Nat → Nat → Option R), at2K R ⟨floatOfInt .f64 a.x, floatOfInt .f64 a.y, 0, 0, 0, 0, 0, 0, 0⟩ (floatOfInt .f64 p.x) (floatOfInt .f64 p.y) ke kk = ke 6 := fun ke kk => by
      unfold at2K atLB
      have hchk : ∀ (k : Int → Option R), chk2P R ⟨floatOfInt .f64 a.x, floatOfInt .f64 a.y, 0, 0, 0, 0, 0, 0, 0⟩ k = k 0 := fun k => by
        unfold chk2P
        rw [chk2K_yes hj, if_neg a0]
      rw [hchk, forceB_eq]
      simp only [bne_self_eq_false]
      rw [placeK_int hz (by omega) (by omega), forceB_eq]
      simp only
      unfold joukK joukB
      rw [noughtK_int hz, forceB_eq]
      simp only [z0, and_self, decide_true]
      exact errIn_eq ke (by decide)
    rw [this, errIn_eq _ (by decide), eq2_eq]
    simp only [a0, decide_false]
    rw [eq2_eq]
    simp [z0]
  obtain ⟨w1, w2, b1, b2, c1, c2, s, t, e1, e2, e3, e4, e5, hst⟩ := jouk_law hj a0 hz hp.1 hp.2 z0
  rw [e1, e2, e3, e4, forceB_eq, e5, forceB_eq]
  cases s with
  | true => rfl
  | false =>
    have : t = true := by simpa using hst
    rw [this]

theorem thereLawK_true {R : Type} (f : Fr) (a p : G2) (k : Bool → Option R) : thereLawK R f a p k = k true := by
  unfold thereLawK thereLaw
  rcases smallK_cases f with ⟨hs, hf⟩ | hs
  case inr => rw [hs, forceB_eq]
  rw [hs, forceB_eq]
  simp only
  rw [upG_eq, forceB_eq]
  by_cases ha : a.x.natAbs ≤ 8 ∧ a.y.natAbs ≤ 8
  case neg => simp [ha]
  simp only [ha, and_self, decide_true]
  rw [upG_eq, forceB_eq]
  by_cases hp : p.x.natAbs ≤ 8 ∧ p.y.natAbs ≤ 8
  case neg => simp [hp]
  simp only [hp, and_self, decide_true]
  rw [ofG_eq, frK_eq]
  have hz : IsC (floatOfInt .f64 p.x) (floatOfInt .f64 p.y) p.x p.y := ⟨of8 hp.1, of8 hp.2⟩
  have hrest := thereRest_true (R := R) ha hp k
  rcases moeb_law (fr_is hf) hf hz hp.1 hp.2 with ⟨e, he, e1⟩ | ⟨w1, w2, b1, b2, e1, e2, e3⟩
  · rw [e1, errIn_eq _ (by rcases he with rfl | rfl <;> decide), hrest]
  · rw [e1, e2, e3, forceB_eq]
    simp only
    exact hrest
end Go.Vm
