/- The map of three places of whole parts, exact; no conditions. -/
import Derived.Test.YtnbpfafngidimaaGreatVmP1
import Derived.Test.YtnbpfafngidimaaGreatVmP7
import Derived.Test.YtnbpfafngidimaaGreatVmKM
namespace Go.Vm
open Ieee
set_option linter.unusedVariables false
set_option linter.unusedSimpArgs false

structure IsT (t : T3) (l : I3) : Prop where
  a : IsC t.a1 t.a2 l.a1 l.a2
  b : IsC t.b1 t.b2 l.b1 l.b2
  c : IsC t.c1 t.c2 l.c1 l.c2
structure I3.Le (l : I3) (n : Nat) : Prop where
  a1 : l.a1.natAbs ≤ n
  a2 : l.a2.natAbs ≤ n
  b1 : l.b1.natAbs ≤ n
  b2 : l.b2.natAbs ≤ n
  c1 : l.c1.natAbs ≤ n
  c2 : l.c2.natAbs ≤ n
def I3.Two (l : I3) : Prop := (l.a1 = l.b1 ∧ l.a2 = l.b2) ∨ (l.b1 = l.c1 ∧ l.b2 = l.c2) ∨ (l.c1 = l.a1 ∧ l.c2 = l.a2)
instance (l : I3) : Decidable l.Two := by unfold I3.Two; infer_instance

def unlikeK : KTB := unlikeB LikeK
def threeK : KTM := threeB subK mulK negK toldK
def ThreeK : KTTM := ThreeB placeK unlikeK threeK turnedK thenK
def underK : KMZC := underB mulK addK
def moebK : KMZ := moebB underK noughtK mulK addK divK
def atK : KMZ := atB chkK placeK moebK FiniteK
def threeLawK := threeLaw upG ofG ThreeK atK nearK

theorem eq2_eq {R : Type} (a b c d : Int) (k : Bool → Option R) : eq2 a b c d k = k (decide (a = c ∧ b = d)) := by
  unfold eq2
  rw [forceB_eq]
  by_cases h1 : a = c
  · subst h1
    simp only [beq_self_eq_true]
    rw [forceB_eq]
    by_cases h2 : b = d
    · subst h2; simp
    · have : (b == d) = false := by simpa using h2
      simp [this, h2]
  · have : (a == c) = false := by simpa using h1
    simp [this, h1]
theorem twoLike_eq {R : Type} (l : I3) (k : Bool → Option R) : twoLike l k = k (decide l.Two) := by
  unfold twoLike I3.Two
  rw [eq2_eq]
  by_cases h1 : l.a1 = l.b1 ∧ l.a2 = l.b2
  · simp [h1]
  · simp only [h1, decide_false, false_or]
    rw [eq2_eq]
    by_cases h2 : l.b1 = l.c1 ∧ l.b2 = l.c2
    · simp [h2]
    · simp only [h2, decide_false, false_or]
      rw [eq2_eq]

theorem unlikeK_int {t : T3} {l : I3} (h : IsT t l) {R : Type} (k : Bool → Option R) : unlikeK R t k = k (!decide l.Two) := by
  unfold unlikeK unlikeB I3.Two
  rw [LikeK_int h.a h.b, forceB_eq]
  by_cases h1 : l.a1 = l.b1 ∧ l.a2 = l.b2
  · simp [h1]
  · simp only [h1, decide_false, false_or]
    rw [LikeK_int h.b h.c, forceB_eq]
    by_cases h2 : l.b1 = l.c1 ∧ l.b2 = l.c2
    · simp [h2]
    · simp only [h2, decide_false, false_or]
      rw [LikeK_int h.c h.a, forceB_eq]

def I3.gm (l : I3) : GM where
  a1 := l.b1 - l.c1
  a2 := l.b2 - l.c2
  b1 := -(l.a1 * (l.b1 - l.c1) - l.a2 * (l.b2 - l.c2))
  b2 := -(l.a1 * (l.b2 - l.c2) + l.a2 * (l.b1 - l.c1))
  c1 := l.b1 - l.a1
  c2 := l.b2 - l.a2
  d1 := -(l.c1 * (l.b1 - l.a1) - l.c2 * (l.b2 - l.a2))
  d2 := -(l.c1 * (l.b2 - l.a2) + l.c2 * (l.b1 - l.a1))

theorem gm_no {l : I3} (h : ¬ l.Two) : ¬ l.gm.No := by
  intro g
  have g1 : l.gm.x = 0 := g.1
  have g2 : l.gm.y = 0 := g.2
  -- the determinant is a c (l0 - l2)
  have e1 : l.gm.x = ((l.b1 - l.c1) * (l.b1 - l.a1) - (l.b2 - l.c2) * (l.b2 - l.a2)) * (l.a1 - l.c1) - ((l.b1 - l.c1) * (l.b2 - l.a2) + (l.b2 - l.c2) * (l.b1 - l.a1)) * (l.a2 - l.c2) := by
    unfold GM.x I3.gm; grind
  have e2 : l.gm.y = ((l.b1 - l.c1) * (l.b1 - l.a1) - (l.b2 - l.c2) * (l.b2 - l.a2)) * (l.a2 - l.c2) + ((l.b1 - l.c1) * (l.b2 - l.a2) + (l.b2 - l.c2) * (l.b1 - l.a1)) * (l.a1 - l.c1) := by
    unfold GM.y I3.gm; grind
  rw [e1] at g1
  rw [e2] at g2
  refine h ?_
  unfold I3.Two
  rcases gauss_domain g1 g2 with ⟨h1, h2⟩ | ⟨h1, h2⟩
  · rcases gauss_domain h1 h2 with ⟨h3, h4⟩ | ⟨h3, h4⟩
    · right; left; omega
    · left; omega
  · right; right; omega

theorem gm_le {l : I3} (h : l.Le 8) : l.gm.Le 256 := by
  obtain ⟨h1, h2, h3, h4, h5, h6⟩ := h
  have p : ∀ {x y : Int}, x.natAbs ≤ 8 → y.natAbs ≤ 16 → (x * y).natAbs ≤ 128 := fun hx hy => natAbs_mul_le hx hy
  have a1 : (l.b1 - l.c1).natAbs ≤ 16 := by omega
  have a2 : (l.b2 - l.c2).natAbs ≤ 16 := by omega
  have c1 : (l.b1 - l.a1).natAbs ≤ 16 := by omega
  have c2 : (l.b2 - l.a2).natAbs ≤ 16 := by omega
  have q1 := p h1 a1
  have q2 := p h2 a2
  have q3 := p h1 a2
  have q4 := p h2 a1
  have q5 := p h5 c1
  have q6 := p h6 c2
  have q7 := p h5 c2
  have q8 := p h6 c1
  constructor <;> simp only [I3.gm] <;> omega

theorem threeK_int {t : T3} {l : I3} (h : IsT t l) (hl : l.Le 8) (hd : ¬ l.Two) : ∃ m, IsM m l.gm ∧ ∀ (R : Type) (ke : Int → Option R) (k : Mp → Option R), threeK R t ke k = k m := by
  obtain ⟨h1, h2, h3, h4, h5, h6⟩ := hl
  obtain ⟨a1, a2, ia, ea⟩ := subK_int h.b h.c (by omega) (by omega)
  obtain ⟨c1, c2, ic, ec⟩ := subK_int h.b h.a (by omega) (by omega)
  obtain ⟨x1, x2, ix, _, _, ex⟩ := mulK_int (p := 8) (q := 16) h.a ia h1 h2 (by omega) (by omega) (by decide)
  obtain ⟨b1, b2, ib, eb⟩ := negK_int ix
  obtain ⟨y1, y2, iy, _, _, ey⟩ := mulK_int (p := 8) (q := 16) h.c ic h5 h6 (by omega) (by omega) (by decide)
  obtain ⟨d1, d2, id_, ed⟩ := negK_int iy
  have hm : IsM ⟨a1, a2, b1, b2, c1, c2, d1, d2, 0⟩ l.gm := ⟨ia, ib, ic, id_, rfl⟩
  refine ⟨_, hm, fun R ke k => ?_⟩
  unfold threeK threeB
  rw [ea, ec, ex, eb, ey, ed]
  exact toldK_int hm (gm_le ⟨h1, h2, h3, h4, h5, h6⟩) (by decide) (by decide) (gm_no hd) ke k

theorem placesB_int {t : T3} {l : I3} (h : IsT t l) (hl : l.Le 8) {R : Type} (ke : Int → Option R) (k : Option R) : placesB placeK t ke k = k := by
  obtain ⟨h1, h2, h3, h4, h5, h6⟩ := hl
  unfold placesB
  rw [placeK_int h.a (by omega) (by omega), forceB_eq]
  simp only
  rw [placeK_int h.b (by omega) (by omega), forceB_eq]
  simp only
  rw [placeK_int h.c (by omega) (by omega), forceB_eq]

theorem ThreeK_two {t u : T3} {l n : I3} (h : IsT t l) (g : IsT u n) (hl : l.Le 8) (hn : n.Le 8) (h2 : l.Two ∨ n.Two) {R : Type} (ke : Int → Option R) (k : Mp → Option R) : ThreeK R t u ke k = ke 180 := by
  unfold ThreeK ThreeB
  rw [placesB_int h hl, placesB_int g hn, unlikeK_int h, forceB_eq]
  by_cases c : l.Two
  · simp [c]
  · have c2 : n.Two := by rcases h2 with h | h; exact absurd h c; exact h
    simp only [c, decide_false, Bool.not_false]
    rw [unlikeK_int g, forceB_eq]
    simp [c2]

theorem ThreeK_int {t u : T3} {l n : I3} (h : IsT t l) (g : IsT u n) (hl : l.Le 8) (hn : n.Le 8) (h1 : ¬ l.Two) (h2 : ¬ n.Two) :
    ∃ m, IsM m (l.gm.cat n.gm.back) ∧ ∀ (R : Type) (ke : Int → Option R) (k : Mp → Option R), ThreeK R t u ke k = k m := by
  obtain ⟨m1, i1, e1⟩ := threeK_int h hl h1
  obtain ⟨m2, i2, e2⟩ := threeK_int g hn h2
  obtain ⟨m3, i3, e3⟩ := turnedK_int i2 (gm_le hn) (by decide) (gm_no h2)
  have lb : n.gm.back.Le 256 := by
    have := gm_le hn
    exact ⟨this.d1, this.d2, by simp [GM.back]; exact this.b1, by simp [GM.back]; exact this.b2, by simp [GM.back]; exact this.c1, by simp [GM.back]; exact this.c2, this.a1, this.a2⟩
  obtain ⟨m4, i4, e4⟩ := thenK_int i1 i3 (gm_le hl) lb (by decide) (by decide) (by decide) (gm_no h1) (back_no (gm_no h2))
  refine ⟨m4, i4, fun R ke k => ?_⟩
  unfold ThreeK ThreeB
  rw [placesB_int h hl, placesB_int g hn, unlikeK_int h, forceB_eq]
  simp only [h1, decide_false, Bool.not_false]
  rw [unlikeK_int g, forceB_eq]
  simp only [h2, decide_false, Bool.not_false]
  rw [e1, e2, e3, e4]
end Go.Vm
