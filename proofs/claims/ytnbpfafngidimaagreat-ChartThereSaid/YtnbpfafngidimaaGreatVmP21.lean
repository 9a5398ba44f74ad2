/- Of Joukowski's map one of both ways back comes near; no conditions. -/
import Derived.Test.YtnbpfafngidimaaGreatVmP19
namespace Go.Vm
open Ieee Cq
set_option linter.unusedVariables false
set_option linter.unusedSimpArgs false

def chk2P : KMI := chk2B placeK noughtK withinK
def at2K : KMZ := atLB [6] chk2P placeK joukK FiniteK
def bk1K : KMZ := atLB [181] chkK placeK mbackK placeK
def bk2K : KMZ := atLB [] chk2P placeK jbackK placeK
def bk3K : KMZ := atLB [] chk2P placeK jotherK placeK

theorem is_m14 : Is 4544132024016830464 (1 / 16384) := by
  have := fields_is (s := false) (E := 1009) (f := 0) (by decide) (by decide) (by decide)
  have e : dv false (2 ^ 52 + 0) (((1009 : Nat) : Int) - 1075) = 1 / 16384 := by
    unfold dv sg
    rw [if_neg (by decide), Rat.one_mul, Nat.add_zero, ← p2_nat, ← p2_add]
    show (2 : Rat) ^ (-14 : Int) = 1 / 16384
    have h7 := p2_cancel 14
    have h8 : (2 : Rat) ^ (14 : Int) = 16384 := by rw [show (14 : Int) = ((14 : Nat) : Int) by rfl, p2_nat]; rfl
    rw [h8] at h7
    grind
  rw [e] at this
  exact this
theorem is_m20 : Is 4517110426252607488 (1 / 1048576) := by
  have := fields_is (s := false) (E := 1003) (f := 0) (by decide) (by decide) (by decide)
  have e : dv false (2 ^ 52 + 0) (((1003 : Nat) : Int) - 1075) = 1 / 1048576 := by
    unfold dv sg
    rw [if_neg (by decide), Rat.one_mul, Nat.add_zero, ← p2_nat, ← p2_add]
    show (2 : Rat) ^ (-20 : Int) = 1 / 1048576
    have h7 := p2_cancel 20
    have h8 : (2 : Rat) ^ (20 : Int) = 1048576 := by rw [show (20 : Int) = ((20 : Nat) : Int) by rfl, p2_nat]; rfl
    rw [h8] at h7
    grind
  rw [e] at this
  exact this

theorem n_zero {a : Cq} (h : a.n ≤ 0) : a.x = 0 ∧ a.y = 0 := by
  have := le_n (a := a) (m := 0) (by decide) (by grind)
  have h1 := abs_le_self a.x
  have h2 := abs_le_self a.y
  obtain ⟨g1, g2⟩ := this
  exact ⟨by grind, by grind⟩
theorem mul_cancel {a b c : Cq} (h : Cq.mul a b = Cq.mul c b) (hb : 0 < b.n) : a = c := by
  have h1 := n_mul (Cq.sub a c) b
  have h2 : Cq.mul (Cq.sub a c) b = ⟨0, 0⟩ := by
    have hx := congrArg Cq.x h
    have hy := congrArg Cq.y h
    simp only [Cq.mul] at hx hy
    exact ext' (by simp only [Cq.mul, Cq.sub]; grind) (by simp only [Cq.mul, Cq.sub]; grind)
  rw [h2] at h1
  have h3 : (Cq.mk 0 0).n = 0 := by unfold Cq.n; grind
  rw [h3] at h1
  rcases Rat.mul_eq_zero.1 h1.symm with g | g
  · obtain ⟨g1, g2⟩ := n_zero (a := Cq.sub a c) (by rw [g]; exact Rat.le_refl)
    simp only [Cq.sub] at g1 g2
    exact ext' (by grind) (by grind)
  · grind

/-- ONE KIND: Joukowski's map, there and back. -/
theorem jouk_law {m : Mp} {A : Cq} {a1 a2 : Int} (h : IsJ m A a1 a2) (a0 : ¬ (a1 = 0 ∧ a2 = 0)) {a b : Nat} {x y : Int} (hz : IsC a b x y) (x8 : x.natAbs ≤ 8) (y8 : y.natAbs ≤ 8) (z0 : ¬ (x = 0 ∧ y = 0)) :
    ∃ w1 w2 b1 b2 c1 c2 s t, (∀ (R : Type) (ke : Int → Option R) (k : Nat → Nat → Option R), at2K R m a b ke k = k w1 w2) ∧ (∀ (R : Type) (ke : Int → Option R) (k : Nat → Nat → Option R), bk2K R m w1 w2 ke k = k b1 b2) ∧
      (∀ (R : Type) (ke : Int → Option R) (k : Nat → Nat → Option R), bk3K R m w1 w2 ke k = k c1 c2) ∧
      (∀ (R : Type) (k : Bool → Option R), nearK R b1 b2 a b 4544132024016830464 k = k s) ∧ (∀ (R : Type) (k : Bool → Option R), nearK R c1 c2 a b 4544132024016830464 k = k t) ∧ (s || t) = true := by
  have het := eps_tiny
  have he := eps_pos
  have hzq := intQ hz
  have z8 := bd8 x8 y8
  have zn := sq_one z0
  obtain ⟨u, hu⟩ := quo_ex (Cq.mul A A) (b := ⟨x, y⟩) (by grind)
  have bA : Bd A 8 := by rw [h.A]; exact bd8 h.l1 h.l2
  have nA : (Cq.mul A A).n ≤ 16384 := by
    have k1 := n_le bA.1 bA.2
    have k2 := n_mul_le k1 k1
    grind
  have hM : ∃ M : Rat, Bd u M ∧ ((M = 10 ∧ (Cq.sub ⟨x, y⟩ u).n ≤ 1) ∨ (M = 128 ∧ 1 ≤ (Cq.sub ⟨x, y⟩ u).n)) := by
    rcases (Rat.le_total : (Cq.sub ⟨x, y⟩ u).n ≤ 1 ∨ 1 ≤ (Cq.sub ⟨x, y⟩ u).n) with g | g
    · refine ⟨10, ?_, .inl ⟨rfl, g⟩⟩
      have k1 := le_n (show (0 : Rat) ≤ 1 by decide) (Rat.le_trans g (show (1 : Rat) ≤ 1 * 1 by grind))
      have k2 := z8.sub (b := Cq.sub ⟨x, y⟩ u) (n := 1) ⟨k1.1, k1.2⟩
      rw [show Cq.sub ⟨x, y⟩ (Cq.sub ⟨x, y⟩ u) = u from ext' (by simp only [Cq.sub]; grind) (by simp only [Cq.sub]; grind)] at k2
      exact k2.mono (by grind)
    · refine ⟨128, ?_, .inr ⟨rfl, g⟩⟩
      have k1 := n_mul u ⟨x, y⟩
      rw [hu] at k1
      have k2 := Rat.mul_le_mul_of_nonneg_left zn u.n_nonneg
      have k3 := le_n (a := u) (show (0 : Rat) ≤ 128 by decide) (by grind)
      exact ⟨k3.1, k3.2⟩
  obtain ⟨M, bu, hM⟩ := hM
  have M1 : 10 ≤ M := by rcases hM with g | g <;> grind
  have M2 : M ≤ 128 := by rcases hM with g | g <;> grind
  have hMe : M * eps ≤ 1 / 1000 := by
    have := Rat.mul_le_mul_of_nonneg_right M2 (Rat.le_of_lt he)
    grind
  obtain ⟨w1, w2, W, iw, nw, ew⟩ := joukQ h hz x8 y8 z0 bu M1 M2 hu
  have bW : Bd W 1000 := (nw.bd (z8.add bu)).mono (by grind)
  obtain ⟨b1, b2, v, ib, bb, hb, eb⟩ := jbackQ h iw z8 zn bu hu nw hM
  obtain ⟨p1, q1, i1, e1⟩ := sqrQ h
  have vn : 1 / 3 ≤ v.n := by
    rcases hb with g | ⟨_, g⟩
    · have k := n_add v (Cq.sub ⟨x, y⟩ v)
      rw [show Cq.add v (Cq.sub ⟨x, y⟩ v) = ⟨x, y⟩ from ext' (by simp only [Cq.add, Cq.sub]; grind) (by simp only [Cq.add, Cq.sub]; grind), n_sub_comm] at k
      grind
    · grind
  obtain ⟨c, hc⟩ := quo_ex (Cq.mul A A) (b := v) (by grind)
  have bc : Bd c 222 := by
    have k1 := n_mul c v
    rw [hc] at k1
    have k2 := Rat.mul_le_mul_of_nonneg_left vn c.n_nonneg
    have k3 := le_n (a := c) (show (0 : Rat) ≤ 222 by decide) (by grind)
    exact ⟨k3.1, k3.2⟩
  obtain ⟨c1, c2, C, ic, nc, ec⟩ := divQ i1 ib (by grind) (bb.mono (by grind)) hc bc (by grind) (by grind)
  have bC : Bd C 1000 := (nc.bd bc).mono (by grind)
  obtain ⟨s, es⟩ := nearQ ib hzq is_m14 (bb.mono (by grind)) (z8.mono (by grind))
  obtain ⟨t, et⟩ := nearQ ic hzq is_m14 (bC.mono (by grind)) (z8.mono (by grind))
  have hchk : ∀ (R : Type) (k : Int → Option R), chk2P R m k = k 0 := fun R k => by
    unfold chk2P
    rw [chk2K_yes h, if_neg a0]
  refine ⟨w1, w2, b1, b2, c1, c2, s, t, fun R ke k => ?_, fun R ke k => ?_, fun R ke k => ?_, es, et, ?_⟩
  · unfold at2K atLB
    rw [hchk, forceB_eq]
    simp only [bne_self_eq_false]
    rw [placeQ hzq (z8.mono (by grind)), forceB_eq]
    simp only
    rw [ew, FiniteK_yes iw.1 iw.2, forceB_eq]
  · unfold bk2K atLB
    rw [hchk, forceB_eq]
    simp only [bne_self_eq_false]
    rw [placeQ iw (bW.mono (by grind)), forceB_eq]
    simp only
    rw [eb, placeQ ib (bb.mono (by grind)), forceB_eq]
  · unfold bk3K atLB
    rw [hchk, forceB_eq]
    simp only [bne_self_eq_false]
    rw [placeQ iw (bW.mono (by grind)), forceB_eq]
    simp only
    unfold jotherK joukOtherB
    rw [eb, e1, ec, placeQ ic (bC.mono (by grind)), forceB_eq]
  · rcases hb with g | ⟨g1, g2⟩
    · have k := le_n (a := Cq.sub v ⟨x, y⟩) (m := 1 / 49152) (by grind) (by rw [eps_val] at g; grind)
      have k2 : nearK Bool b1 b2 a b 4544132024016830464 some = some true := nearQ_yes ib hzq is_m14 ⟨k.1, k.2⟩ (by grind) (by grind) (by grind) _
      rw [es] at k2
      cases k2
      rfl
    · have g3 := jouk_other zn g1 g2 (by rw [hc, hu])
      have g4 := n_tri C c ⟨x, y⟩
      have g5 := nc.n
      have k := le_n (a := Cq.sub C ⟨x, y⟩) (m := 1 / 49152) (by grind) (by rw [eps_val] at *; grind)
      have k2 : nearK Bool c1 c2 a b 4544132024016830464 some = some true := nearQ_yes ic hzq is_m14 ⟨k.1, k.2⟩ (by grind) (by grind) (by grind) _
      rw [et] at k2
      cases k2
      simp
end Go.Vm
