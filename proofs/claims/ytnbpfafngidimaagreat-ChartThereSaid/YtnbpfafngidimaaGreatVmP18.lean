/- Sums, products, quotients of complex words are near to those of their numbers; no conditions. -/
import Derived.Test.YtnbpfafngidimaaGreatVmP17
namespace Go.Vm
open Ieee Cq
set_option linter.unusedVariables false
set_option linter.unusedSimpArgs false

/-! ### Complex words, near to complex fractions -/
def IsQ (a b : Nat) (z : Cq) : Prop := Is a z.x ∧ Is b z.y
def Nr (a b : Cq) (e : Rat) : Prop := (a.x - b.x).abs ≤ e ∧ (a.y - b.y).abs ≤ e
def Bd (a : Cq) (m : Rat) : Prop := a.x.abs ≤ m ∧ a.y.abs ≤ m

theorem big_lt {x B : Rat} (h : x.abs ≤ B) (hB : B ≤ 1000000000000) : x.abs < (2 : Rat) ^ (1022 : Int) := by
  have h6 := p2_le (show (50 : Int) ≤ 1022 by decide)
  have h8 : (2 : Rat) ^ (50 : Int) = 1125899906842624 := by rw [show (50 : Int) = ((50 : Nat) : Int) by rfl, p2_nat]; rfl
  grind
theorem big_lt' {x B : Rat} (h : x.abs ≤ B) (hB : B ≤ 1000000000000) : x.abs < (2 : Rat) ^ (1023 : Int) := by
  have h6 := p2_le (show (1022 : Int) ≤ 1023 by decide)
  have := big_lt h hB
  grind
theorem low_le {B : Rat} (h : 1 / 1000 ≤ B) : (2 : Rat) ^ (-1000 : Int) ≤ B := by have := m1000_small; grind

theorem Nr.bd {a b : Cq} {e m : Rat} (h : Nr a b e) (g : Bd b m) : Bd a (m + e) := ⟨by have := abs_near h.1; have := g.1; grind, by have := abs_near h.2; have := g.2; grind⟩
theorem Bd.mono {a : Cq} {m n : Rat} (h : Bd a m) (g : m ≤ n) : Bd a n := ⟨Rat.le_trans h.1 g, Rat.le_trans h.2 g⟩
theorem Nr.mono {a b : Cq} {m n : Rat} (h : Nr a b m) (g : m ≤ n) : Nr a b n := ⟨Rat.le_trans h.1 g, Rat.le_trans h.2 g⟩
theorem Bd.add {a b : Cq} {m n : Rat} (h : Bd a m) (g : Bd b n) : Bd (a.add b) (m + n) :=
  ⟨by have := abs_add_le a.x b.x; have := h.1; have := g.1; show (a.x + b.x).abs ≤ _; grind, by have := abs_add_le a.y b.y; have := h.2; have := g.2; show (a.y + b.y).abs ≤ _; grind⟩
theorem Bd.neg {a : Cq} {m : Rat} (h : Bd a m) : Bd a.neg m := ⟨by show (-a.x).abs ≤ m; rw [abs_neg]; exact h.1, by show (-a.y).abs ≤ m; rw [abs_neg]; exact h.2⟩
theorem sub_eq (a b : Cq) : a.sub b = a.add b.neg := ext' (by simp only [Cq.sub, Cq.add, Cq.neg]; grind) (by simp only [Cq.sub, Cq.add, Cq.neg]; grind)
theorem Bd.sub {a b : Cq} {m n : Rat} (h : Bd a m) (g : Bd b n) : Bd (a.sub b) (m + n) := by rw [sub_eq]; exact h.add g.neg
theorem Nr.trans {a b c : Cq} {e d : Rat} (h : Nr a b e) (g : Nr b c d) : Nr a c (e + d) :=
  ⟨by have := tri (x := a.x) (y := b.x) (z := c.x); have := h.1; have := g.1; grind, by have := tri (x := a.y) (y := b.y) (z := c.y); have := h.2; have := g.2; grind⟩
theorem Nr.add {a b c d : Cq} {e f : Rat} (h : Nr a b e) (g : Nr c d f) : Nr (a.add c) (b.add d) (e + f) := by
  constructor
  · have := abs_add_le (a.x - b.x) (c.x - d.x); have := h.1; have := g.1
    show (a.x + c.x - (b.x + d.x)).abs ≤ _
    rw [show a.x + c.x - (b.x + d.x) = a.x - b.x + (c.x - d.x) by grind]; grind
  · have := abs_add_le (a.y - b.y) (c.y - d.y); have := h.2; have := g.2
    show (a.y + c.y - (b.y + d.y)).abs ≤ _
    rw [show a.y + c.y - (b.y + d.y) = a.y - b.y + (c.y - d.y) by grind]; grind
theorem Nr.neg {a b : Cq} {e : Rat} (h : Nr a b e) : Nr a.neg b.neg e := by
  constructor
  · show (-a.x - -b.x).abs ≤ e
    rw [show -a.x - -b.x = -(a.x - b.x) by grind, abs_neg]; exact h.1
  · show (-a.y - -b.y).abs ≤ e
    rw [show -a.y - -b.y = -(a.y - b.y) by grind, abs_neg]; exact h.2
theorem Nr.sub {a b c d : Cq} {e f : Rat} (h : Nr a b e) (g : Nr c d f) : Nr (a.sub c) (b.sub d) (e + f) := by rw [sub_eq, sub_eq]; exact h.add g.neg
theorem Nr.refl (a : Cq) : Nr a a 0 := ⟨by rw [Rat.sub_self, abs_zero]; exact Rat.le_refl, by rw [Rat.sub_self, abs_zero]; exact Rat.le_refl⟩
theorem Nr.n {a b : Cq} {e : Rat} (h : Nr a b e) : (a.sub b).n ≤ 2 * (e * e) := n_le h.1 h.2
/-- a factor times what is near -/
theorem Nr.mulLeft {a b c : Cq} {e m : Rat} (h : Nr a b e) (g : Bd c m) : Nr (c.mul a) (c.mul b) (2 * (m * e)) := by
  have k1 := abs_mul_le g.1 h.1
  have k2 := abs_mul_le g.2 h.2
  have k3 := abs_mul_le g.1 h.2
  have k4 := abs_mul_le g.2 h.1
  constructor
  · show (c.x * a.x - c.y * a.y - (c.x * b.x - c.y * b.y)).abs ≤ _
    have := abs_add_le (c.x * (a.x - b.x)) (-(c.y * (a.y - b.y)))
    rw [abs_neg] at this
    rw [show c.x * a.x - c.y * a.y - (c.x * b.x - c.y * b.y) = c.x * (a.x - b.x) + -(c.y * (a.y - b.y)) by grind]; grind
  · show (c.x * a.y + c.y * a.x - (c.x * b.y + c.y * b.x)).abs ≤ _
    have := abs_add_le (c.x * (a.y - b.y)) (c.y * (a.x - b.x))
    rw [show c.x * a.y + c.y * a.x - (c.x * b.y + c.y * b.x) = c.x * (a.y - b.y) + c.y * (a.x - b.x) by grind]; grind
theorem Bd.mul {a b : Cq} {m n : Rat} (h : Bd a m) (g : Bd b n) : Bd (a.mul b) (2 * (m * n)) := by
  have k1 := abs_mul_le h.1 g.1
  have k2 := abs_mul_le h.2 g.2
  have k3 := abs_mul_le h.1 g.2
  have k4 := abs_mul_le h.2 g.1
  constructor
  · show (a.x * b.x - a.y * b.y).abs ≤ _
    have := abs_add_le (a.x * b.x) (-(a.y * b.y))
    rw [abs_neg] at this
    rw [show a.x * b.x - a.y * b.y = a.x * b.x + -(a.y * b.y) by grind]; grind
  · show (a.x * b.y + a.y * b.x).abs ≤ _
    have := abs_add_le (a.x * b.y) (a.y * b.x)
    grind

theorem addQ {a b c d : Nat} {z w : Cq} {B : Rat} (h : IsQ a b z) (g : IsQ c d w) (hB : Bd (z.add w) B) (B1 : 1 / 1000 ≤ B) (B2 : B ≤ 1000000000000) :
    ∃ p q s, IsQ p q s ∧ Nr s (z.add w) (eps * B) ∧ ∀ (R : Type) (k : Nat → Nat → Option R), addK R a b c d k = k p q := by
  obtain ⟨p, x, e1, i1, n1⟩ := add_is h.1 g.1 (big_lt' hB.1 B2)
  obtain ⟨q, y, e2, i2, n2⟩ := add_is h.2 g.2 (big_lt' hB.2 B2)
  exact ⟨p, q, ⟨x, y⟩, ⟨i1, i2⟩, ⟨n1.le hB.1 (low_le B1), n2.le hB.2 (low_le B1)⟩, fun R k => by unfold addK; rw [bindF_eq e1, bindF_eq e2]⟩
theorem subQ {a b c d : Nat} {z w : Cq} {B : Rat} (h : IsQ a b z) (g : IsQ c d w) (hB : Bd (z.sub w) B) (B1 : 1 / 1000 ≤ B) (B2 : B ≤ 1000000000000) :
    ∃ p q s, IsQ p q s ∧ Nr s (z.sub w) (eps * B) ∧ ∀ (R : Type) (k : Nat → Nat → Option R), subK R a b c d k = k p q := by
  obtain ⟨p, x, e1, i1, n1⟩ := sub_is h.1 g.1 (big_lt' hB.1 B2)
  obtain ⟨q, y, e2, i2, n2⟩ := sub_is h.2 g.2 (big_lt' hB.2 B2)
  exact ⟨p, q, ⟨x, y⟩, ⟨i1, i2⟩, ⟨n1.le hB.1 (low_le B1), n2.le hB.2 (low_le B1)⟩, fun R k => by unfold subK; rw [bindF_eq e1, bindF_eq e2]⟩
theorem mulQ {a b c d : Nat} {z w : Cq} {m n B : Rat} (h : IsQ a b z) (g : IsQ c d w) (hz : Bd z m) (hw : Bd w n) (hB : m * n ≤ B) (B1 : 1 / 1000 ≤ B) (B2 : B ≤ 100000000000) :
    ∃ p q s, IsQ p q s ∧ Nr s (z.mul w) (401 / 100 * (eps * B)) ∧ ∀ (R : Type) (k : Nat → Nat → Option R), mulK R a b c d k = k p q := by
  have he := eps_pos
  have he2 := eps_tiny
  have k1 := Rat.le_trans (abs_mul_le hz.1 hw.1) hB
  have k2 := Rat.le_trans (abs_mul_le hz.2 hw.2) hB
  have k3 := Rat.le_trans (abs_mul_le hz.1 hw.2) hB
  have k4 := Rat.le_trans (abs_mul_le hz.2 hw.1) hB
  have B2' : B ≤ 1000000000000 := by grind
  have eB : eps * B * 1000000000 ≤ B := by
    have := Rat.mul_le_mul_of_nonneg_right he2 (show 0 ≤ B by grind)
    grind
  have eB0 : 0 ≤ eps * B := Rat.mul_nonneg (Rat.le_of_lt he) (by grind)
  obtain ⟨r1, x1, e1, i1, n1⟩ := mul_is h.1 g.1 (big_lt' k1 B2')
  obtain ⟨r2, x2, e2, i2, n2⟩ := mul_is h.2 g.2 (big_lt' k2 B2')
  have d1 := n1.le k1 (low_le B1)
  have d2 := n2.le k2 (low_le B1)
  have s1 : (x1 - x2).abs ≤ 2002 / 1000 * B := by
    have a1 := abs_near d1
    have a2 := abs_near d2
    have a3 := abs_add_le x1 (-x2)
    rw [abs_neg] at a3
    rw [show x1 - x2 = x1 + -x2 by grind]; grind
  obtain ⟨r3, x3, e3, i3, n3⟩ := sub_is i1 i2 (big_lt' s1 (by grind))
  have d3 := n3.le s1 (low_le (by grind))
  obtain ⟨r4, x4, e4, i4, n4⟩ := mul_is h.1 g.2 (big_lt' k3 B2')
  obtain ⟨r5, x5, e5, i5, n5⟩ := mul_is h.2 g.1 (big_lt' k4 B2')
  have d4 := n4.le k3 (low_le B1)
  have d5 := n5.le k4 (low_le B1)
  have s2 : (x4 + x5).abs ≤ 2002 / 1000 * B := by
    have a1 := abs_near d4
    have a2 := abs_near d5
    have a3 := abs_add_le x4 x5
    grind
  obtain ⟨r6, x6, e6, i6, n6⟩ := add_is i4 i5 (big_lt' s2 (by grind))
  have d6 := n6.le s2 (low_le (by grind))
  refine ⟨r3, r6, ⟨x3, x6⟩, ⟨i3, i6⟩, ⟨?_, ?_⟩, fun R k => by unfold mulK; rw [bindF_eq e1, bindF_eq e2, bindF_eq e3, bindF_eq e4, bindF_eq e5, bindF_eq e6]⟩
  · show (x3 - (z.x * w.x - z.y * w.y)).abs ≤ _
    have a1 := abs_add_le (x3 - (x1 - x2)) (x1 - z.x * w.x)
    have a2 := abs_add_le (x3 - (x1 - x2) + (x1 - z.x * w.x)) (-(x2 - z.y * w.y))
    rw [abs_neg] at a2
    rw [show x3 - (z.x * w.x - z.y * w.y) = x3 - (x1 - x2) + (x1 - z.x * w.x) + -(x2 - z.y * w.y) by grind]; grind
  · show (x6 - (z.x * w.y + z.y * w.x)).abs ≤ _
    have a1 := abs_add_le (x6 - (x4 + x5)) (x4 - z.x * w.y)
    have a2 := abs_add_le (x6 - (x4 + x5) + (x4 - z.x * w.y)) (x5 - z.y * w.x)
    rw [show x6 - (z.x * w.y + z.y * w.x) = x6 - (x4 + x5) + (x4 - z.x * w.y) + (x5 - z.y * w.x) by grind]; grind

theorem divQ {a b c d : Nat} {z g u : Cq} {M : Rat} (h : IsQ a b z) (hg : IsQ c d g) (gn : 1 / 1000000 ≤ g.n) (gb : Bd g 1000000000000) (e : u.mul g = z) (hu : Bd u M) (M1 : 1 ≤ M) (M2 : M ≤ 1000000) :
    ∃ p q s, IsQ p q s ∧ Nr s u (32 * (M * eps)) ∧ ∀ (R : Type) (k : Nat → Nat → Option R), divK R a b c d k = k p q := by
  have h6 := p2_le (show (50 : Int) ≤ 300 by decide)
  have h8 : (2 : Rat) ^ (50 : Int) = 1125899906842624 := by rw [show (50 : Int) = ((50 : Nat) : Int) by rfl, p2_nat]; rfl
  have h7 : (2 : Rat) ^ (-300 : Int) ≤ 1 / 2000 := by
    have g1 := p2_le (show (-300 : Int) ≤ -51 by decide)
    have g2 : (2 : Rat) ^ (-51 : Int) = eps := rfl
    have := eps_tiny
    rw [g2] at g1
    grind
  have ex := congrArg Cq.x e
  have ey := congrArg Cq.y e
  simp only [Cq.mul] at ex ey
  have hW : ∃ W : Rat, g.x.abs ≤ W ∧ g.y.abs ≤ W ∧ (W = g.x.abs ∨ W = g.y.abs) := by
    rcases (Rat.le_total : g.x.abs ≤ g.y.abs ∨ g.y.abs ≤ g.x.abs) with h | h
    · exact ⟨_, h, Rat.le_refl, .inr rfl⟩
    · exact ⟨_, Rat.le_refl, h, .inl rfl⟩
  obtain ⟨W, w1, w2, w3⟩ := hW
  have W0 : 0 ≤ W := by have := abs_nonneg g.x; grind
  have W1 : 1 / 2000 ≤ W := by
    rcases (Rat.le_total : W ≤ 1 / 2000 ∨ 1 / 2000 ≤ W) with k | k
    · have s1 := sq_le (Rat.le_trans w1 k)
      have s2 := sq_le (Rat.le_trans w2 k)
      unfold Cq.n at gn
      grind
    · exact k
  have W2 : W ≤ 1000000000000 := by rcases w3 with k | k <;> (rw [k]; first | exact gb.1 | exact gb.2)
  obtain ⟨p, q, U, V, j1, j2, j3, j4, j5⟩ := divK_near (u := u.x) (v := u.y) h.1 h.2 hg.1 hg.2 w1 w2 w3 (by grind) (by grind) hu.1 hu.2 (by grind) (by grind) (by rw [← ex]) (by rw [← ey])
  exact ⟨p, q, ⟨U, V⟩, ⟨j1, j2⟩, ⟨j3, j4⟩, j5⟩

theorem p40_eq : ((2 ^ 40 : Int) : Rat) = 1099511627776 := by rfl
theorem withinK_is {a : Nat} {x : Rat} (h : Is a x) (hb : x.abs ≤ 1000000) {R : Type} (k : Bool → Option R) : withinK R a 4787326403894837248 k = k true := by
  unfold withinK withinB absK
  show forceB (leF (absW a) 4787326403894837248) (fun t => k t) = k true
  rw [forceB_eq, leF_is (abs_is h) is_p40]
  have : x.abs ≤ ((2 ^ 40 : Int) : Rat) := by rw [p40_eq]; grind
  simp only [this, decide_true]
theorem placeQ {a b : Nat} {z : Cq} (h : IsQ a b z) (hb : Bd z 1000000) {R : Type} (k : Bool → Option R) : placeK R a b k = k true := by
  unfold placeK placeB WithinK WithinB
  rw [withinK_is h.1 hb.1, forceB_eq]
  simp only
  rw [withinK_is h.2 hb.2]
  simp only [forceB_eq]
theorem noughtQ {a b : Nat} {z : Cq} (h : IsQ a b z) (hz : z.n ≠ 0) {R : Type} (k : Bool → Option R) : noughtK R a b k = k false := by
  unfold noughtK
  rw [forceB_eq, eqF_is h.1 is0]
  by_cases h1 : z.x = 0
  · simp only [h1, decide_true]
    rw [forceB_eq, eqF_is h.2 is0]
    by_cases h2 : z.y = 0
    · exact absurd (by unfold Cq.n; rw [h1, h2]; grind) hz
    · simp [h2]
  · simp [h1]
theorem negQ {a b : Nat} {z : Cq} (h : IsQ a b z) : ∃ p q, IsQ p q z.neg ∧ ∀ (R : Type) (k : Nat → Nat → Option R), negK R a b k = k p q :=
  ⟨_, _, ⟨neg_is h.1, neg_is h.2⟩, fun R k => by unfold negK; rw [forceN_eq, forceN_eq]⟩
theorem rootQ {a b : Nat} {z : Cq} (h : IsQ a b z) (hb : Bd z 1000000000000) : ∃ p q P, IsQ p q P ∧ RootOf P z ∧ ∀ (R : Type) (k : Nat → Nat → Option R), rootK R a b k = k p q := by
  have h6 := p2_le (show (50 : Int) ≤ 300 by decide)
  have h8 : (2 : Rat) ^ (50 : Int) = 1125899906842624 := by rw [show (50 : Int) = ((50 : Nat) : Int) by rfl, p2_nat]; rfl
  obtain ⟨p, q, P, Q, i1, i2, r, e⟩ := rootK_is h.1 h.2 (by have := hb.1; grind) (by have := hb.2; grind)
  exact ⟨p, q, ⟨P, Q⟩, ⟨i1, i2⟩, r, e⟩
/-- near or not: an answer comes -/
theorem nearQ {a b c d m : Nat} {z w : Cq} {M : Rat} (h : IsQ a b z) (g : IsQ c d w) (hm : Is m M) (hz : Bd z 1000000) (hw : Bd w 1000000) : ∃ t, ∀ (R : Type) (k : Bool → Option R), nearK R a b c d m k = k t := by
  obtain ⟨p, q, s, i, n, e⟩ := subQ h g (hz.sub hw) (by grind) (by grind)
  have he := eps_tiny
  have h6 := p2_le (show (50 : Int) ≤ 400 by decide)
  have h8 : (2 : Rat) ^ (50 : Int) = 1125899906842624 := by rw [show (50 : Int) = ((50 : Nat) : Int) by rfl, p2_nat]; rfl
  have hs := n.bd (hz.sub hw)
  obtain ⟨r, L, j, _, el⟩ := lengthK_le (d := 3000000) i.1 i.2 (by have := hs.1; grind) (by have := hs.2; grind) (by
    have g1 := p2_le (show (-900 : Int) ≤ 0 by decide)
    rw [Rat.zpow_zero] at g1
    grind) (by grind)
  refine ⟨leF r m, fun R k => ?_⟩
  unfold nearK nearB
  rw [e, el, forceB_eq]
theorem nearQ_yes {a b c d m : Nat} {z w : Cq} {M e : Rat} (h : IsQ a b z) (g : IsQ c d w) (hm : Is m M) (he : Nr z w e) (e1 : 1 / 1000000000000 ≤ e) (e2 : e ≤ 1) (hM : 3 * e ≤ M) {R : Type} (k : Bool → Option R) : nearK R a b c d m k = k true :=
  nearK_yes h.1 h.2 g.1 g.2 hm he.1 he.2 (by
    have g1 := p2_le (show (-800 : Int) ≤ -51 by decide)
    have g2 : (2 : Rat) ^ (-51 : Int) = eps := rfl
    rw [g2, eps_val] at g1
    grind) (by
    have g1 := p2_le (show (0 : Int) ≤ 300 by decide)
    rw [Rat.zpow_zero] at g1
    grind) hM k
end Go.Vm
