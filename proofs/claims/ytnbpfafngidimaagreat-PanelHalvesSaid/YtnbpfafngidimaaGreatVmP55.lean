/- An element moved, and the way to it; no conditions. -/
import Derived.Test.YtnbpfafngidimaaGreatVmP53
namespace Go.Vm
open Ieee
set_option linter.unusedVariables false
set_option linter.unusedSimpArgs false

/-! ### Places -/
def WdC (a b : Nat) (x y : Int) : Prop := Wd a x ∧ Wd b y
theorem WdC.isC {a b : Nat} {x y : Int} (h : WdC a b x y) : IsC a b x y := ⟨h.1.1, h.2.1⟩
theorem addK_wd {a b c d : Nat} {x y u v : Int} (h1 : WdC a b x y) (h2 : WdC c d u v) (b1 : (x + u).natAbs < 2 ^ 53) (b2 : (y + v).natAbs < 2 ^ 53) :
    ∃ p q, WdC p q (x + u) (y + v) ∧ ∀ (R : Type) (k : Nat → Nat → Option R), addK R a b c d k = k p q := by
  obtain ⟨p, e1, g1⟩ := wd_add h1.1 h2.1 b1
  obtain ⟨q, e2, g2⟩ := wd_add h1.2 h2.2 b2
  exact ⟨p, q, ⟨g1, g2⟩, fun R k => by unfold addK; rw [bindF_eq e1, bindF_eq e2]⟩
theorem subK_wd {a b c d : Nat} {x y u v : Int} (h1 : WdC a b x y) (h2 : WdC c d u v) (b1 : (x - u).natAbs < 2 ^ 53) (b2 : (y - v).natAbs < 2 ^ 53) :
    ∃ p q, WdC p q (x - u) (y - v) ∧ ∀ (R : Type) (k : Nat → Nat → Option R), subK R a b c d k = k p q := by
  obtain ⟨p, e1, g1⟩ := wd_sub h1.1 h2.1 b1
  obtain ⟨q, e2, g2⟩ := wd_sub h1.2 h2.2 b2
  exact ⟨p, q, ⟨g1, g2⟩, fun R k => by unfold subK; rw [bindF_eq e1, bindF_eq e2]⟩
theorem of_wd {x y : Int} (hx : x.natAbs ≤ 1000) (hy : y.natAbs ≤ 1000) : WdC (floatOfInt .f64 x) (floatOfInt .f64 y) x y := ⟨wd_ofInt (by omega), wd_ofInt (by omega)⟩
theorem of_eq {R : Type} (x y : Int) (k : Nat → Nat → Option R) : ofK x y k = k (floatOfInt .f64 x) (floatOfInt .f64 y) := by
  unfold ofK
  rw [forceN_eq, forceN_eq]
theorem smM_eq (x y : Int) : (∀ (R : Type) (k : Bool → Option R), smM R x y k = k false) ∨ ((∀ (R : Type) (k : Bool → Option R), smM R x y k = k true) ∧ x.natAbs ≤ 1000 ∧ y.natAbs ≤ 1000) := by
  cases h1 : decide (x ≥ -1000) with
  | false => exact .inl fun R k => by unfold smM; rw [h1, forceB_eq]
  | true =>
    cases h2 : decide (x ≤ 1000) with
    | false => exact .inl fun R k => by unfold smM; rw [h1, forceB_eq]; simp only; rw [h2, forceB_eq]
    | true =>
      cases h3 : decide (y ≥ -1000) with
      | false => exact .inl fun R k => by unfold smM; rw [h1, forceB_eq]; simp only; rw [h2, forceB_eq]; simp only; rw [h3, forceB_eq]
      | true =>
        cases h4 : decide (y ≤ 1000) with
        | false => exact .inl fun R k => by unfold smM; rw [h1, forceB_eq]; simp only; rw [h2, forceB_eq]; simp only; rw [h3, forceB_eq]; simp only; rw [h4, forceB_eq]
        | true =>
          have g1 := of_decide_eq_true h1
          have g2 := of_decide_eq_true h2
          have g3 := of_decide_eq_true h3
          have g4 := of_decide_eq_true h4
          exact .inr ⟨fun R k => by unfold smM; rw [h1, forceB_eq]; simp only; rw [h2, forceB_eq]; simp only; rw [h3, forceB_eq]; simp only; rw [h4, forceB_eq], by omega, by omega⟩

/-! ### The element moved -/
theorem mov_eq {kind : Int} {a1 a2 s1 s2 b1 b2 p : Nat} {xa ya xs ys xb yb : Int} (ha : WdC a1 a2 xa ya) (hs : WdC s1 s2 xs ys) (hb : WdC b1 b2 xb yb)
    (h1 : xa.natAbs ≤ 1000) (h2 : ya.natAbs ≤ 1000) (h3 : xs.natAbs ≤ 1000) (h4 : ys.natAbs ≤ 1000) (h5 : xb.natAbs ≤ 1000) (h6 : yb.natAbs ≤ 1000) (hp : p < 2 ^ 64) (hc : checkV kind (decide (xa = 0 ∧ ya = 0)) p = 0) :
    ∃ u1 u2 xu yu, WdC u1 u2 xu yu ∧ (kind = 1 ∧ xu = xa ∧ yu = ya ∨ kind ≠ 1 ∧ xu = xa + xb ∧ yu = ya + yb) ∧ checkV kind (decide (xu = 0 ∧ yu = 0)) p = 0 ∧
      ∀ (R : Type) (er : Int → Option R) (ok : Nat → Nat → Option R), movT R kind a1 a2 s1 s2 p b1 b2 er ok = ok u1 u2 := by
  have c40 : (1000 : Nat) ≤ 2 ^ 40 := by decide
  cases hk : kind == 1 with
  | true =>
    refine ⟨a1, a2, xa, ya, ha, .inl ⟨by simpa using hk, rfl, rfl⟩, hc, fun R er ok => ?_⟩
    unfold movT movB checkE
    rw [check_eq ha.isC hs.isC (by omega) (by omega) (by omega) (by omega) hp, decide_eq_true hc]
    simp only
    rw [placeK_int hb.isC (by omega) (by omega), forceB_eq]
    simp only
    rw [hk, forceB_eq]
  | false =>
    have hk1 : kind ≠ 1 := by simpa using hk
    obtain ⟨u1, u2, hu, he⟩ := addK_wd ha hb (by omega) (by omega)
    have hc' : checkV kind (decide (xa + xb = 0 ∧ ya + yb = 0)) p = 0 := (checkV_move hk1).trans hc
    refine ⟨u1, u2, xa + xb, ya + yb, hu, .inr ⟨hk1, rfl, rfl⟩, hc', fun R er ok => ?_⟩
    unfold movT movB checkE
    rw [check_eq ha.isC hs.isC (by omega) (by omega) (by omega) (by omega) hp, decide_eq_true hc]
    simp only
    rw [placeK_int hb.isC (by omega) (by omega), forceB_eq]
    simp only
    rw [hk, forceB_eq]
    simp only
    rw [he, check_eq hu.isC hs.isC (by omega) (by omega) (by omega) (by omega) hp, decide_eq_true hc']
theorem at_of {kind : Int} {a1 a2 s1 s2 z1 z2 p : Nat} {xa ya xs ys xz yz : Int} (ha : WdC a1 a2 xa ya) (hs : WdC s1 s2 xs ys) (hz : WdC z1 z2 xz yz)
    (h1 : xa.natAbs ≤ 2000) (h2 : ya.natAbs ≤ 2000) (h3 : xs.natAbs ≤ 1000) (h4 : ys.natAbs ≤ 1000) (h5 : xz.natAbs ≤ 2000) (h6 : yz.natAbs ≤ 2000) (hp : p < 2 ^ 64) (hc : checkV kind (decide (xa = 0 ∧ ya = 0)) p = 0)
    (h7 : (xz - xa).natAbs ≤ 2000) (h8 : (yz - ya).natAbs ≤ 2000) :
    ∃ d1 d2, WdC d1 d2 (xz - xa) (yz - ya) ∧ At kind p s1 s2 d1 d2 a1 a2 z1 z2 ∧ Dt s1 s2 d1 d2 xs ys (xz - xa) (yz - ya) := by
  obtain ⟨d1, d2, hd, he⟩ := subK_wd hz ha (by omega) (by omega)
  have c40 : (2000 : Nat) ≤ 2 ^ 40 := by decide
  refine ⟨d1, d2, hd, ⟨fun R k => ?_, fun R k => placeK_int hz.isC (by omega) (by omega) k, he⟩, ⟨hs.1.1, hs.2.1, h3, h4, hd.1, hd.2, h7, h8⟩⟩
  rw [check_eq ha.isC hs.isC (by omega) (by omega) (by omega) (by omega) hp, hc]
end Go.Vm
