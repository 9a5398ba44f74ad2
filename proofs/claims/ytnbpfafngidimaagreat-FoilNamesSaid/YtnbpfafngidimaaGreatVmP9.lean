/- The map of three places of whole parts, exact; no conditions. What ChartThree computes is true for each two arrays of three places; no conditions. -/
import Derived.Test.YtnbpfafngidimaaGreatVmP1
import Derived.Test.YtnbpfafngidimaaGreatVmP3
import Derived.Test.YtnbpfafngidimaaGreatVmKF
namespace Go.Vm
open Ieee
set_option linter.unusedVariables false
set_option linter.unusedSimpArgs false

structure IsT (t : T3) (l : I3) : Prop where
  a : IsC t.a1 t.a2 l.a1 l.a2
  b : IsC t.b1 t.b2 l.b1 l.b2
  c : IsC t.c1 t.c2 l.c1 l.c2
structure I3.Le (l : I3) (n : Nat) : Prop where
  a1 : l.a1.natAbs ≤ n
  a2 : l.a2.natAbs ≤ n
  b1 : l.b1.natAbs ≤ n
  b2 : l.b2.natAbs ≤ n
  c1 : l.c1.natAbs ≤ n
  c2 : l.c2.natAbs ≤ n
def I3.Two (l : I3) : Prop := (l.a1 = l.b1 ∧ l.a2 = l.b2) ∨ (l.b1 = l.c1 ∧ l.b2 = l.c2) ∨ (l.c1 = l.a1 ∧ l.c2 = l.a2)
instance (l : I3) : Decidable l.Two := by unfold I3.Two; infer_instance

def unlikeK : KTB := unlikeB LikeK
def threeK : KTM := threeB subK mulK negK toldK
def ThreeK : KTTM := ThreeB placeK unlikeK threeK turnedK thenK
def underK : KMZC := underB mulK addK
def moebK : KMZ := moebB underK noughtK mulK addK divK
def atK : KMZ := atB chkK placeK moebK FiniteK
def threeLawK := threeLaw upG ofG ThreeK atK nearK

theorem eq2_eq {R : Type} (a b c d : Int) (k : Bool → Option R) : eq2 a b c d k = k (decide (a = c ∧ b = d)) := by
  unfold eq2
  rw [forceB_eq]
  by_cases h1 : a = c
  · subst h1
    simp only [beq_self_eq_true]
    rw [forceB_eq]
    by_cases h2 : b = d
    · subst h2; simp
    · have : (b == d) = false := by simpa using h2
      simp [this, h2]
  · have : (a == c) = false := by simpa using h1
    simp [this, h1]
theorem twoLike_eq {R : Type} (l : I3) (k : Bool → Option R) : twoLike l k = k (decide l.Two) := by
  unfold twoLike I3.Two
  rw [eq2_eq]
  by_cases h1 : l.a1 = l.b1 ∧ l.a2 = l.b2
  · simp [h1]
  · simp only [h1, decide_false, false_or]
    rw [eq2_eq]
    by_cases h2 : l.b1 = l.c1 ∧ l.b2 = l.c2
    · simp [h2]
    · simp only [h2, decide_false, false_or]
      rw [eq2_eq]

theorem unlikeK_int {t : T3} {l : I3} (h : IsT t l) {R : Type} (k : Bool → Option R) : unlikeK R t k = k (!decide l.Two) := by
  unfold unlikeK unlikeB I3.Two
  rw [LikeK_int h.a h.b, forceB_eq]
  by_cases h1 : l.a1 = l.b1 ∧ l.a2 = l.b2
  · simp [h1]
  · simp only [h1, decide_false, false_or]
    rw [LikeK_int h.b h.c, forceB_eq]
    by_cases h2 : l.b1 = l.c1 ∧ l.b2 = l.c2
    · simp [h2]
    · simp only [h2, decide_false, false_or]
      rw [LikeK_int h.c h.a, forceB_eq]

def I3.gm (l : I3) : GM where
  a1 := l.b1 - l.c1
  a2 := l.b2 - l.c2
  b1 := -(l.a1 * (l.b1 - l.c1) - l.a2 * (l.b2 - l.c2))
  b2 := -(l.a1 * (l.b2 - l.c2) + l.a2 * (l.b1 - l.c1))
  c1 := l.b1 - l.a1
  c2 := l.b2 - l.a2
  d1 := -(l.c1 * (l.b1 - l.a1) - l.c2 * (l.b2 - l.a2))
  d2 := -(l.c1 * (l.b2 - l.a2) + l.c2 * (l.b1 - l.a1))

theorem gm_no {l : I3} (h : ¬ l.Two) : ¬ l.gm.No := by
  intro g
  have g1 : l.gm.x = 0 := g.1
  have g2 : l.gm.y = 0 := g.2
  -- the determinant is a c (l0 - l2)
  have e1 : l.gm.x = ((l.b1 - l.c1) * (l.b1 - l.a1) - (l.b2 - l.c2) * (l.b2 - l.a2)) * (l.a1 - l.c1) - ((l.b1 - l.c1) * (l.b2 - l.a2) + (l.b2 - l.c2) * (l.b1 - l.a1)) * (l.a2 - l.c2) := by
    unfold GM.x I3.gm; grind
  have e2 : l.gm.y = ((l.b1 - l.c1) * (l.b1 - l.a1) - (l.b2 - l.c2) * (l.b2 - l.a2)) * (l.a2 - l.c2) + ((l.b1 - l.c1) * (l.b2 - l.a2) + (l.b2 - l.c2) * (l.b1 - l.a1)) * (l.a1 - l.c1) := by
    unfold GM.y I3.gm; grind
  rw [e1] at g1
  rw [e2] at g2
  refine h ?_
  unfold I3.Two
  rcases gauss_domain g1 g2 with ⟨h1, h2⟩ | ⟨h1, h2⟩
  · rcases gauss_domain h1 h2 with ⟨h3, h4⟩ | ⟨h3, h4⟩
    · right; left; omega
    · left; omega
  · right; right; omega

theorem gm_le {l : I3} (h : l.Le 8) : l.gm.Le 256 := by
  obtain ⟨h1, h2, h3, h4, h5, h6⟩ := h
  have p : ∀ {x y : Int}, x.natAbs ≤ 8 → y.natAbs ≤ 16 → (x * y).natAbs ≤ 128 := fun hx hy => natAbs_mul_le hx hy
  have a1 : (l.b1 - l.c1).natAbs ≤ 16 := by omega
  have a2 : (l.b2 - l.c2).natAbs ≤ 16 := by omega
  have c1 : (l.b1 - l.a1).natAbs ≤ 16 := by omega
  have c2 : (l.b2 - l.a2).natAbs ≤ 16 := by omega
  have q1 := p h1 a1
  have q2 := p h2 a2
  have q3 := p h1 a2
  have q4 := p h2 a1
  have q5 := p h5 c1
  have q6 := p h6 c2
  have q7 := p h5 c2
  have q8 := p h6 c1
  constructor <;> simp only [I3.gm] <;> omega

theorem threeK_int {t : T3} {l : I3} (h : IsT t l) (hl : l.Le 8) (hd : ¬ l.Two) : ∃ m, IsM m l.gm ∧ ∀ (R : Type) (ke : Int → Option R) (k : Mp → Option R), threeK R t ke k = k m := by
  obtain ⟨h1, h2, h3, h4, h5, h6⟩ := hl
  obtain ⟨a1, a2, ia, ea⟩ := subK_int h.b h.c (by omega) (by omega)
  obtain ⟨c1, c2, ic, ec⟩ := subK_int h.b h.a (by omega) (by omega)
  obtain ⟨x1, x2, ix, _, _, ex⟩ := mulK_int (p := 8) (q := 16) h.a ia h1 h2 (by omega) (by omega) (by decide)
  obtain ⟨b1, b2, ib, eb⟩ := negK_int ix
  obtain ⟨y1, y2, iy, _, _, ey⟩ := mulK_int (p := 8) (q := 16) h.c ic h5 h6 (by omega) (by omega) (by decide)
  obtain ⟨d1, d2, id_, ed⟩ := negK_int iy
  have hm : IsM ⟨a1, a2, b1, b2, c1, c2, d1, d2, 0⟩ l.gm := ⟨ia, ib, ic, id_, rfl⟩
  refine ⟨_, hm, fun R ke k => ?_⟩
  unfold threeK threeB
  rw [ea, ec, ex, eb, ey, ed]
  exact toldK_int hm (gm_le ⟨h1, h2, h3, h4, h5, h6⟩) (by decide) (by decide) (gm_no hd) ke k

theorem placesB_int {t : T3} {l : I3} (h : IsT t l) (hl : l.Le 8) {R : Type} (ke : Int → Option R) (k : Option R) : placesB placeK t ke k = k := by
  obtain ⟨h1, h2, h3, h4, h5, h6⟩ := hl
  unfold placesB
  rw [placeK_int h.a (by omega) (by omega), forceB_eq]
  simp only
  rw [placeK_int h.b (by omega) (by omega), forceB_eq]
  simp only
  rw [placeK_int h.c (by omega) (by omega), forceB_eq]

theorem ThreeK_two {t u : T3} {l n : I3} (h : IsT t l) (g : IsT u n) (hl : l.Le 8) (hn : n.Le 8) (h2 : l.Two ∨ n.Two) {R : Type} (ke : Int → Option R) (k : Mp → Option R) : ThreeK R t u ke k = ke 180 := by
  unfold ThreeK ThreeB
  rw [placesB_int h hl, placesB_int g hn, unlikeK_int h, forceB_eq]
  by_cases c : l.Two
  · simp [c]
  · have c2 : n.Two := by rcases h2 with h | h; exact absurd h c; exact h
    simp only [c, decide_false, Bool.not_false]
    rw [unlikeK_int g, forceB_eq]
    simp [c2]

theorem ThreeK_int {t u : T3} {l n : I3} (h : IsT t l) (g : IsT u n) (hl : l.Le 8) (hn : n.Le 8) (h1 : ¬ l.Two) (h2 : ¬ n.Two) :
    ∃ m, IsM m (l.gm.cat n.gm.back) ∧ ∀ (R : Type) (ke : Int → Option R) (k : Mp → Option R), ThreeK R t u ke k = k m := by
  obtain ⟨m1, i1, e1⟩ := threeK_int h hl h1
  obtain ⟨m2, i2, e2⟩ := threeK_int g hn h2
  obtain ⟨m3, i3, e3⟩ := turnedK_int i2 (gm_le hn) (by decide) (gm_no h2)
  have lb : n.gm.back.Le 256 := by
    have := gm_le hn
    exact ⟨this.d1, this.d2, by simp [GM.back]; exact this.b1, by simp [GM.back]; exact this.b2, by simp [GM.back]; exact this.c1, by simp [GM.back]; exact this.c2, this.a1, this.a2⟩
  obtain ⟨m4, i4, e4⟩ := thenK_int i1 i3 (gm_le hl) lb (by decide) (by decide) (by decide) (gm_no h1) (back_no (gm_no h2))
  refine ⟨m4, i4, fun R ke k => ?_⟩
  unfold ThreeK ThreeB
  rw [placesB_int h hl, placesB_int g hn, unlikeK_int h, forceB_eq]
  simp only [h1, decide_false, Bool.not_false]
  rw [unlikeK_int g, forceB_eq]
  simp only [h2, decide_false, Bool.not_false]
  rw [e1, e2, e3, e4]
end Go.Vm
namespace Go.Vm
open Ieee
set_option linter.unusedVariables false
set_option linter.unusedSimpArgs false

/-- A place and where the map takes it: numerator and denominator. -/
def GM.n1 (M : GM) (x y : Int) : Int := M.a1 * x - M.a2 * y + M.b1
def GM.n2 (M : GM) (x y : Int) : Int := M.a1 * y + M.a2 * x + M.b2
def GM.e1 (M : GM) (x y : Int) : Int := M.c1 * x - M.c2 * y + M.d1
def GM.e2 (M : GM) (x y : Int) : Int := M.c1 * y + M.c2 * x + M.d2

/-- One map behind the other, at a place. -/
theorem cat_at (M N : GM) (x y : Int) :
    (M.cat N).n1 x y = N.a1 * M.n1 x y - N.a2 * M.n2 x y + (N.b1 * M.e1 x y - N.b2 * M.e2 x y) ∧ (M.cat N).n2 x y = N.a1 * M.n2 x y + N.a2 * M.n1 x y + (N.b1 * M.e2 x y + N.b2 * M.e1 x y) ∧
    (M.cat N).e1 x y = N.c1 * M.n1 x y - N.c2 * M.n2 x y + (N.d1 * M.e1 x y - N.d2 * M.e2 x y) ∧ (M.cat N).e2 x y = N.c1 * M.n2 x y + N.c2 * M.n1 x y + (N.d1 * M.e2 x y + N.d2 * M.e1 x y) := by
  unfold GM.cat GM.n1 GM.n2 GM.e1 GM.e2
  refine ⟨?_, ?_, ?_, ?_⟩ <;> grind

/-- what the map at a place gives: u + i v times the denominator, which is not nought -/
def Takes (M : GM) (x y u v : Int) : Prop := M.n1 x y = u * M.e1 x y - v * M.e2 x y ∧ M.n2 x y = u * M.e2 x y + v * M.e1 x y ∧ ¬ (M.e1 x y = 0 ∧ M.e2 x y = 0)

theorem not_both {a b c d : Int} (h1 : ¬ (a = 0 ∧ b = 0)) (h2 : ¬ (c = 0 ∧ d = 0)) : ¬ (a * c - b * d = 0 ∧ a * d + b * c = 0) := fun ⟨g1, g2⟩ => by
  rcases gauss_domain g1 g2 with h | h
  · exact h1 h
  · exact h2 h

theorem takes_a {l n : I3} (h1 : ¬ l.Two) (h2 : ¬ n.Two) : Takes (l.gm.cat n.gm.back) l.a1 l.a2 n.a1 n.a2 := by
  obtain ⟨c1, c2, c3, c4⟩ := cat_at l.gm n.gm.back l.a1 l.a2
  have z1 : l.gm.n1 l.a1 l.a2 = 0 := by unfold GM.n1 I3.gm; grind
  have z2 : l.gm.n2 l.a1 l.a2 = 0 := by unfold GM.n2 I3.gm; grind
  have w1 : l.gm.e1 l.a1 l.a2 = (l.b1 - l.a1) * (l.a1 - l.c1) - (l.b2 - l.a2) * (l.a2 - l.c2) := by unfold GM.e1 I3.gm; grind
  have w2 : l.gm.e2 l.a1 l.a2 = (l.b1 - l.a1) * (l.a2 - l.c2) + (l.b2 - l.a2) * (l.a1 - l.c1) := by unfold GM.e2 I3.gm; grind
  have hw : ¬ (l.gm.e1 l.a1 l.a2 = 0 ∧ l.gm.e2 l.a1 l.a2 = 0) := by
    rw [w1, w2]
    unfold I3.Two at h1
    exact not_both (by omega) (by omega)
  rw [z1, z2] at c1 c2 c3 c4
  generalize l.gm.e1 l.a1 l.a2 = p at *
  generalize l.gm.e2 l.a1 l.a2 = q at *
  unfold Takes
  rw [c1, c2, c3, c4]
  have nb1 : n.gm.back.b1 = n.a1 * n.gm.a1 - n.a2 * n.gm.a2 := by unfold GM.back I3.gm; grind
  have nb2 : n.gm.back.b2 = n.a1 * n.gm.a2 + n.a2 * n.gm.a1 := by unfold GM.back I3.gm; grind
  have nd1 : n.gm.back.d1 = n.gm.a1 := rfl
  have nd2 : n.gm.back.d2 = n.gm.a2 := rfl
  have na : ¬ (n.gm.a1 = 0 ∧ n.gm.a2 = 0) := by unfold I3.Two at h2; unfold I3.gm; simp only; omega
  rw [nb1, nb2, nd1, nd2]
  generalize n.gm.a1 = a at *
  generalize n.gm.a2 = b at *
  refine ⟨by grind, by grind, ?_⟩
  have := not_both na hw
  grind

theorem takes_b {l n : I3} (h1 : ¬ l.Two) (h2 : ¬ n.Two) : Takes (l.gm.cat n.gm.back) l.b1 l.b2 n.b1 n.b2 := by
  obtain ⟨c1, c2, c3, c4⟩ := cat_at l.gm n.gm.back l.b1 l.b2
  have z1 : l.gm.n1 l.b1 l.b2 = (l.b1 - l.c1) * (l.b1 - l.a1) - (l.b2 - l.c2) * (l.b2 - l.a2) := by unfold GM.n1 I3.gm; grind
  have z2 : l.gm.n2 l.b1 l.b2 = (l.b1 - l.c1) * (l.b2 - l.a2) + (l.b2 - l.c2) * (l.b1 - l.a1) := by unfold GM.n2 I3.gm; grind
  have w1 : l.gm.e1 l.b1 l.b2 = l.gm.n1 l.b1 l.b2 := by rw [z1]; unfold GM.e1 I3.gm; grind
  have w2 : l.gm.e2 l.b1 l.b2 = l.gm.n2 l.b1 l.b2 := by rw [z2]; unfold GM.e2 I3.gm; grind
  have hw : ¬ (l.gm.n1 l.b1 l.b2 = 0 ∧ l.gm.n2 l.b1 l.b2 = 0) := by
    rw [z1, z2]
    unfold I3.Two at h1
    exact not_both (by omega) (by omega)
  rw [w1, w2] at c1 c2 c3 c4
  generalize l.gm.n1 l.b1 l.b2 = p at *
  generalize l.gm.n2 l.b1 l.b2 = q at *
  unfold Takes
  rw [c1, c2, c3, c4]
  have hn : ¬ (n.a1 - n.c1 = 0 ∧ n.a2 - n.c2 = 0) := by unfold I3.Two at h2; omega
  have := not_both hn hw
  unfold GM.back I3.gm
  simp only
  refine ⟨by grind, by grind, ?_⟩
  grind

theorem takes_c {l n : I3} (h1 : ¬ l.Two) (h2 : ¬ n.Two) : Takes (l.gm.cat n.gm.back) l.c1 l.c2 n.c1 n.c2 := by
  obtain ⟨c1, c2, c3, c4⟩ := cat_at l.gm n.gm.back l.c1 l.c2
  have z1 : l.gm.e1 l.c1 l.c2 = 0 := by unfold GM.e1 I3.gm; grind
  have z2 : l.gm.e2 l.c1 l.c2 = 0 := by unfold GM.e2 I3.gm; grind
  have w1 : l.gm.n1 l.c1 l.c2 = (l.b1 - l.c1) * (l.c1 - l.a1) - (l.b2 - l.c2) * (l.c2 - l.a2) := by unfold GM.n1 I3.gm; grind
  have w2 : l.gm.n2 l.c1 l.c2 = (l.b1 - l.c1) * (l.c2 - l.a2) + (l.b2 - l.c2) * (l.c1 - l.a1) := by unfold GM.n2 I3.gm; grind
  have hw : ¬ (l.gm.n1 l.c1 l.c2 = 0 ∧ l.gm.n2 l.c1 l.c2 = 0) := by
    rw [w1, w2]
    unfold I3.Two at h1
    exact not_both (by omega) (by omega)
  rw [z1, z2] at c1 c2 c3 c4
  generalize l.gm.n1 l.c1 l.c2 = p at *
  generalize l.gm.n2 l.c1 l.c2 = q at *
  unfold Takes
  rw [c1, c2, c3, c4]
  have hn : ¬ (n.a1 - n.b1 = 0 ∧ n.a2 - n.b2 = 0) := by unfold I3.Two at h2; omega
  have := not_both hn hw
  unfold GM.back I3.gm
  simp only
  refine ⟨by grind, by grind, ?_⟩
  grind

theorem is_m30 : Is 4472074429978902528 ((2 : Rat) ^ (-30 : Int)) := by
  have := fields_is (s := false) (E := 993) (f := 0) (by decide) (by decide) (by decide)
  have e : dv false (2 ^ 52 + 0) (((993 : Nat) : Int) - 1075) = (2 : Rat) ^ (-30 : Int) := by
    unfold dv sg
    rw [if_neg (by decide), Rat.one_mul, Nat.add_zero, ← p2_nat, ← p2_add]
    rfl
  rw [e] at this
  exact this

theorem near_a : (2 : Rat) ^ (-800 : Int) ≤ 32 * (8 * eps) := by
  have h1 := p2_le (show (-800 : Int) ≤ -51 by decide)
  have h2 := eps_pos
  have h3 : (2 : Rat) ^ (-51 : Int) = eps := rfl
  rw [h3] at h1
  generalize (2 : Rat) ^ (-800 : Int) = w at *
  grind
theorem near_b : 32 * (8 * eps) ≤ (2 : Rat) ^ (300 : Int) := by
  have h1 := p2_le (show (0 : Int) ≤ 300 by decide)
  rw [Rat.zpow_zero] at h1
  have := eps_le
  generalize (2 : Rat) ^ (300 : Int) = w at *
  grind
theorem near_c : 3 * (32 * (8 * eps)) ≤ (2 : Rat) ^ (-30 : Int) := by
  have h1 : eps * (2 : Rat) ^ (21 : Int) = (2 : Rat) ^ (-30 : Int) := by unfold eps; rw [← p2_add]; rfl
  have h2 : (2 : Rat) ^ (21 : Int) = 2097152 := by rw [show (21 : Int) = ((21 : Nat) : Int) by rfl, p2_nat]; rfl
  have := eps_pos
  rw [h2] at h1
  generalize (2 : Rat) ^ (-30 : Int) = w at *
  grind

theorem int_abs_nat (n : Int) : ((n : Rat)).abs = ((n.natAbs : Nat) : Rat) := int_abs n

set_option maxHeartbeats 2000000 in
/-- A Moebius map of whole parts at a place of whole parts, where the answer is whole. -/
theorem atK_int {m : Mp} {M : GM} {a b c d : Nat} {x y u v : Int} {n : Nat} (hm : IsM m M) (lm : M.Le n) (hn : n ≤ 2 ^ 20) (hd : ¬ M.No) (hz : IsC a b x y) (hx : x.natAbs ≤ 8) (hy : y.natAbs ≤ 8) (hw : IsC c d u v) (hu : u.natAbs ≤ 8) (hv : v.natAbs ≤ 8)
    (ht : Takes M x y u v) {R : Type} (k : Bool → Option R) (next : Option R) :
    threeTail atK nearK m a b c d k next = next := by
  have sq : 4 * (n * n) < 2 ^ 53 ∧ n ≤ 2 ^ 40 := by
    have := Nat.mul_le_mul hn hn
    omega
  obtain ⟨s1, t1, i1, b1, b2, e1⟩ := mulK_int (p := n) (q := 8) hm.c hz lm.c1 lm.c2 hx hy (by omega)
  have bd1 := lm.d1
  have bd2 := lm.d2
  obtain ⟨s2, t2, i2, e2⟩ := addK_int i1 hm.d (by omega) (by omega)
  obtain ⟨s3, t3, i3, b3, b4, e3⟩ := mulK_int (p := n) (q := 8) hm.a hz lm.a1 lm.a2 hx hy (by omega)
  have bb1 := lm.b1
  have bb2 := lm.b2
  obtain ⟨s4, t4, i4, e4⟩ := addK_int i3 hm.b (by omega) (by omega)
  obtain ⟨g1, g2, g3⟩ := ht
  have E1 : M.c1 * x - M.c2 * y + M.d1 = M.e1 x y := rfl
  have E2 : M.c1 * y + M.c2 * x + M.d2 = M.e2 x y := rfl
  have N1 : M.a1 * x - M.a2 * y + M.b1 = M.n1 x y := rfl
  have N2 : M.a1 * y + M.a2 * x + M.b2 = M.n2 x y := rfl
  rw [E1, E2] at i2
  rw [N1, N2] at i4
  have be1 : (M.e1 x y).natAbs ≤ 2 ^ 25 := by rw [← E1]; omega
  have be2 : (M.e2 x y).natAbs ≤ 2 ^ 25 := by rw [← E2]; omega
  -- the greater part
  have q1 := int_abs_nat (M.e1 x y)
  have q2 := int_abs_nat (M.e2 x y)
  have hW : ∃ W : Nat, (M.e1 x y).natAbs ≤ W ∧ (M.e2 x y).natAbs ≤ W ∧ (W = (M.e1 x y).natAbs ∨ W = (M.e2 x y).natAbs) ∧ 1 ≤ W ∧ W ≤ 2 ^ 25 := by
    rcases Nat.le_total (M.e1 x y).natAbs (M.e2 x y).natAbs with h | h
    · exact ⟨_, h, Nat.le_refl _, .inr rfl, by omega, be2⟩
    · exact ⟨_, Nat.le_refl _, h, .inl rfl, by omega, be1⟩
  obtain ⟨W, w1, w2, w3, w4, w5⟩ := hW
  have r1 : ((1 : Nat) : Rat) ≤ (W : Rat) := nat_cast_le w4
  have r2 : (W : Rat) ≤ ((2 ^ 25 : Nat) : Rat) := nat_cast_le w5
  have r3 : (2 : Rat) ^ ((25 : Nat) : Int) = ((2 ^ 25 : Nat) : Rat) := p2_nat 25
  have r4 := p2_le (show ((25 : Nat) : Int) ≤ 300 by decide)
  have r5 : (2 : Rat) ^ (-300 : Int) ≤ 1 := by have := p2_le (show (-300 : Int) ≤ 0 by decide); rwa [Rat.zpow_zero] at this
  have r6 : ((8 : Nat) : Rat) = 8 := rfl
  have r7 := p2_le (show ((3 : Nat) : Int) ≤ 300 by decide)
  have r8 : (2 : Rat) ^ ((3 : Nat) : Int) = 8 := by rw [p2_nat]; rfl
  have one : ((1 : Nat) : Rat) = 1 := rfl
  obtain ⟨o1, o2, U, V, j1, j2, j3, j4, j5⟩ := divK_near (W := (W : Rat)) (M := 8) i4.1 i4.2 i2.1 i2.2
    (by rw [q1]; exact nat_cast_le w1) (by rw [q2]; exact nat_cast_le w2)
    (by rcases w3 with h | h
        · left; rw [q1, h]
        · right; rw [q2, h])
    (by grind) (by grind) (by rw [int_abs_nat]; exact nat_cast_le hu) (by rw [int_abs_nat]; exact nat_cast_le hv) (by grind) (by grind)
    (u := (u : Rat)) (v := (v : Rat))
    (by rw [g1]; push_cast; rfl) (by rw [g2]; push_cast; rfl)
  have hnear : ∀ (k : Bool → Option R), nearK R o1 o2 c d 4472074429978902528 k = k true := fun k => by
    exact nearK_yes j1 j2 hw.1 hw.2 is_m30 j3 j4 near_a near_b near_c k
  have hat : ∀ (ke : Int → Option R) (k : Nat → Nat → Option R), atK R m a b ke k = k o1 o2 := fun ke k => by
    unfold atK atB
    rw [chkK_int hm lm sq.1 sq.2, if_neg hd, forceB_eq]
    simp only [bne_self_eq_false]
    rw [placeK_int hz (by omega) (by omega), forceB_eq]
    simp only
    have hmo : ∀ (ke : Int → Option R) (k : Nat → Nat → Option R), moebK R m a b ke k = k o1 o2 := fun ke k => by
      unfold moebK moebB
      have hun : ∀ (k : Nat → Nat → Option R), underK R m a b k = k s2 t2 := fun k => by
        unfold underK underB
        rw [e1, e2]
      rw [hun, noughtK_int i2, forceB_eq]
      simp only [g3, decide_false]
      rw [e3, e4, j5]
    rw [hmo, FiniteK_yes j1 j2, forceB_eq]
  unfold threeTail
  rw [hat, hnear, forceB_eq]

def I3.t3 (l : I3) : T3 := ⟨floatOfInt .f64 l.a1, floatOfInt .f64 l.a2, floatOfInt .f64 l.b1, floatOfInt .f64 l.b2, floatOfInt .f64 l.c1, floatOfInt .f64 l.c2⟩
theorem t3_is {l : I3} (h : l.Le 8) : IsT l.t3 l := by
  have g : ∀ {x : Int}, x.natAbs ≤ 8 → Is (floatOfInt .f64 x) x := fun h => ofInt_is (Nat.lt_of_le_of_lt h (by decide))
  exact ⟨⟨g h.a1, g h.a2⟩, ⟨g h.b1, g h.b2⟩, ⟨g h.c1, g h.c2⟩⟩

theorem threeLawK_true {R : Type} (f g : I3) (k : Bool → Option R) : threeLawK R f g k = k true := by
  unfold threeLawK threeLaw
  simp only [upG_eq, ofG_eq, forceB_eq]
  by_cases a1 : f.a1.natAbs ≤ 8 ∧ f.a2.natAbs ≤ 8
  case neg => simp [a1]
  by_cases a2 : g.a1.natAbs ≤ 8 ∧ g.a2.natAbs ≤ 8
  case neg => simp [a1, a2]
  by_cases a3 : f.b1.natAbs ≤ 8 ∧ f.b2.natAbs ≤ 8
  case neg => simp [a1, a2, a3]
  by_cases a4 : g.b1.natAbs ≤ 8 ∧ g.b2.natAbs ≤ 8
  case neg => simp [a1, a2, a3, a4]
  by_cases a5 : f.c1.natAbs ≤ 8 ∧ f.c2.natAbs ≤ 8
  case neg => simp [a1, a2, a3, a4, a5]
  by_cases a6 : g.c1.natAbs ≤ 8 ∧ g.c2.natAbs ≤ 8
  case neg => simp [a1, a2, a3, a4, a5, a6]
  simp only [a1, a2, a3, a4, a5, a6, and_self, decide_true, twoLike_eq]
  have lf : f.Le 8 := ⟨a1.1, a1.2, a3.1, a3.2, a5.1, a5.2⟩
  have lg : g.Le 8 := ⟨a2.1, a2.2, a4.1, a4.2, a6.1, a6.2⟩
  have hf := t3_is lf
  have hg := t3_is lg
  show ThreeK R f.t3 g.t3 _ _ = _
  by_cases t1 : f.Two
  · rw [ThreeK_two hf hg lf lg (.inl t1), errIn_eq _ (by decide)]
    simp [t1]
  by_cases t2 : g.Two
  · rw [ThreeK_two hf hg lf lg (.inr t2), errIn_eq _ (by decide)]
    simp [t1, t2]
  obtain ⟨m, im, em⟩ := ThreeK_int hf hg lf lg t1 t2
  rw [em]
  simp only [t1, t2, decide_false]
  have lb : g.gm.back.Le 256 := by
    have := gm_le lg
    exact ⟨this.d1, this.d2, by simp [GM.back]; exact this.b1, by simp [GM.back]; exact this.b2, by simp [GM.back]; exact this.c1, by simp [GM.back]; exact this.c2, this.a1, this.a2⟩
  have lm := cat_le (gm_le lf) lb
  have dm := cat_no (gm_no t1) (back_no (gm_no t2))
  rw [show floatOfInt .f64 f.a1 = f.t3.a1 from rfl, show floatOfInt .f64 f.a2 = f.t3.a2 from rfl, show floatOfInt .f64 g.a1 = g.t3.a1 from rfl, show floatOfInt .f64 g.a2 = g.t3.a2 from rfl]
  rw [atK_int im lm (by decide) dm hf.a lf.a1 lf.a2 hg.a lg.a1 lg.a2 (takes_a t1 t2)]
  rw [show floatOfInt .f64 f.b1 = f.t3.b1 from rfl, show floatOfInt .f64 f.b2 = f.t3.b2 from rfl, show floatOfInt .f64 g.b1 = g.t3.b1 from rfl, show floatOfInt .f64 g.b2 = g.t3.b2 from rfl]
  rw [atK_int im lm (by decide) dm hf.b lf.b1 lf.b2 hg.b lg.b1 lg.b2 (takes_b t1 t2)]
  rw [show floatOfInt .f64 f.c1 = f.t3.c1 from rfl, show floatOfInt .f64 f.c2 = f.t3.c2 from rfl, show floatOfInt .f64 g.c1 = g.t3.c1 from rfl, show floatOfInt .f64 g.c2 = g.t3.c2 from rfl]
  rw [atK_int im lm (by decide) dm hf.c lf.c1 lf.c2 hg.c lg.c1 lg.c2 (takes_c t1 t2)]
end Go.Vm
