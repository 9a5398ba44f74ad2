/- What ChartThere computes is true for each map and places; no conditions. -/
import Derived.Test.YtnbpfafngidimaaGreatVmP22
namespace Go.Vm
open Ieee Cq
set_option linter.unusedVariables false
set_option linter.unusedSimpArgs false

def thereLawK := thereLaw upG ofG smallK frK atK at2K bk1K bk2K bk3K nearK

theorem of8 {x : Int} (h : x.natAbs ≤ 8) : Is (floatOfInt .f64 x) x := ofInt_is (Nat.lt_of_le_of_lt h (by decide))

theorem thereRest_true {a p : G2} (ha : a.x.natAbs ≤ 8 ∧ a.y.natAbs ≤ 8) (hp : p.x.natAbs ≤ 8 ∧ p.y.natAbs ≤ 8) {R : Type} (k : Bool → Option R) :
    thereRest ofG at2K bk2K bk3K nearK a p (floatOfInt .f64 p.x) (floatOfInt .f64 p.y) k = k true := by
  unfold thereRest
  rw [ofG_eq]
  have hz : IsC (floatOfInt .f64 p.x) (floatOfInt .f64 p.y) p.x p.y := ⟨of8 hp.1, of8 hp.2⟩
  have hj : IsJ ⟨floatOfInt .f64 a.x, floatOfInt .f64 a.y, 0, 0, 0, 0, 0, 0, 0⟩ ⟨a.x, a.y⟩ a.x a.y := ⟨⟨of8 ha.1, of8 ha.2⟩, rfl, ha.1, ha.2, rfl, rfl, rfl, rfl, rfl, rfl, rfl⟩
  by_cases a0 : a.x = 0 ∧ a.y = 0
  · have : ∀ (ke : Int → Option R) (kk : Nat → Nat → Option R), at2K R ⟨floatOfInt .f64 a.x, floatOfInt .f64 a.y, 0, 0, 0, 0, 0, 0, 0⟩ (floatOfInt .f64 p.x) (floatOfInt .f64 p.y) ke kk = ke 180 := fun ke kk => by
      unfold at2K atLB
      have hchk : ∀ (k : Int → Option R), chk2P R ⟨floatOfInt .f64 a.x, floatOfInt .f64 a.y, 0, 0, 0, 0, 0, 0, 0⟩ k = k 180 := fun k => by
        unfold chk2P
        rw [chk2K_yes hj, if_pos a0]
      rw [hchk, forceB_eq]
      rfl
    rw [this, errIn_eq _ (by decide), eq2_eq]
    simp [a0]
  by_cases z0 : p.x = 0 ∧ p.y = 0
  · have : ∀ (ke : Int → Option R) (kk : Nat → Nat → Option R), at2K R ⟨floatOfInt .f64 a.x, floatOfInt .f64 a.y, 0, 0, 0, 0, 0, 0, 0⟩ (floatOfInt .f64 p.x) (floatOfInt .f64 p.y) ke kk = ke 6 := fun ke kk => by
      unfold at2K atLB
      have hchk : ∀ (k : Int → Option R), chk2P R ⟨floatOfInt .f64 a.x, floatOfInt .f64 a.y, 0, 0, 0, 0, 0, 0, 0⟩ k = k 0 := fun k => by
        unfold chk2P
        rw [chk2K_yes hj, if_neg a0]
      rw [hchk, forceB_eq]
      simp only [bne_self_eq_false]
      rw [placeK_int hz (by omega) (by omega), forceB_eq]
      simp only
      unfold joukK joukB
      rw [noughtK_int hz, forceB_eq]
      simp only [z0, and_self, decide_true]
      exact errIn_eq ke (by decide)
    rw [this, errIn_eq _ (by decide), eq2_eq]
    simp only [a0, decide_false]
    rw [eq2_eq]
    simp [z0]
  obtain ⟨w1, w2, b1, b2, c1, c2, s, t, e1, e2, e3, e4, e5, hst⟩ := jouk_law hj a0 hz hp.1 hp.2 z0
  rw [e1, e2, e3, e4, forceB_eq, e5, forceB_eq]
  cases s with
  | true => rfl
  | false =>
    have : t = true := by simpa using hst
    rw [this]

theorem thereLawK_true {R : Type} (f : Fr) (a p : G2) (k : Bool → Option R) : thereLawK R f a p k = k true := by
  unfold thereLawK thereLaw
  rcases smallK_cases f with ⟨hs, hf⟩ | hs
  case inr => rw [hs, forceB_eq]
  rw [hs, forceB_eq]
  simp only
  rw [upG_eq, forceB_eq]
  by_cases ha : a.x.natAbs ≤ 8 ∧ a.y.natAbs ≤ 8
  case neg => simp [ha]
  simp only [ha, and_self, decide_true]
  rw [upG_eq, forceB_eq]
  by_cases hp : p.x.natAbs ≤ 8 ∧ p.y.natAbs ≤ 8
  case neg => simp [hp]
  simp only [hp, and_self, decide_true]
  rw [ofG_eq, frK_eq]
  have hz : IsC (floatOfInt .f64 p.x) (floatOfInt .f64 p.y) p.x p.y := ⟨of8 hp.1, of8 hp.2⟩
  have hrest := thereRest_true (R := R) ha hp k
  rcases moeb_law (fr_is hf) hf hz hp.1 hp.2 with ⟨e, he, e1⟩ | ⟨w1, w2, b1, b2, e1, e2, e3⟩
  · rw [e1, errIn_eq _ (by rcases he with rfl | rfl <;> decide), hrest]
  · rw [e1, e2, e3, forceB_eq]
    simp only
    exact hrest
end Go.Vm
