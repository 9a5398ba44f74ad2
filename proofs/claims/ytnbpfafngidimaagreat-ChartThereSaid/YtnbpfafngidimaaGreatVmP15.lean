/- The square root of a complex number on words, its first part; no conditions. -/
import Derived.Test.YtnbpfafngidimaaGreatVmP11
namespace Go.Vm
open Ieee Cq
set_option linter.unusedVariables false
set_option linter.unusedSimpArgs false

theorem is_two : Is 4611686018427387904 2 := by
  have := fields_is (s := false) (E := 1024) (f := 0) (by decide) (by decide) (by decide)
  have e : dv false (2 ^ 52 + 0) (((1024 : Nat) : Int) - 1075) = 2 := by
    unfold dv sg
    rw [if_neg (by decide), Rat.one_mul, Nat.add_zero, ← p2_nat, ← p2_add]
    show (2 : Rat) ^ (1 : Int) = 2
    exact p2_one
  rw [e] at this
  exact this

theorem p2_m1000 {B : Rat} {k : Int} (hk : -900 ≤ k) (h : (2 : Rat) ^ k ≤ B) : (2 : Rat) ^ (-1000 : Int) ≤ B := Rat.le_trans (p2_le (show (-1000 : Int) ≤ k by omega)) h
theorem m1000_one : (2 : Rat) ^ (-1000 : Int) ≤ 1 := by have := p2_le (show (-1000 : Int) ≤ 0 by decide); rwa [Rat.zpow_zero] at this
theorem p1000_big : (1000 : Rat) < (2 : Rat) ^ (1000 : Int) := by
  have h6 := p2_le (show (10 : Int) ≤ 1000 by decide)
  have h8 : (2 : Rat) ^ (10 : Int) = 1024 := by rw [show (10 : Int) = ((10 : Nat) : Int) by rfl, p2_nat]; rfl
  grind
theorem m1000_small : (2 : Rat) ^ (-1000 : Int) ≤ 1 / 1000 := p2_small (by decide)

/-- a word's double is a word -/
theorem twice_is {a : Nat} {x : Rat} (h : Is a x) (hx : (2 * x).abs < (2 : Rat) ^ (1023 : Int)) : ∃ r, floatBits .mul .f64 4611686018427387904 a = some r ∧ Is r (2 * x) := by
  obtain ⟨r, z, h1, h2, h3⟩ := mul_is is_two h hx
  obtain ⟨K, q, k1, k2, k3, k4⟩ := is_rep h
  have : z = 2 * x := h3.rep K (q + 1) k1 (by omega) (by rw [k4, p2_succ]; grind)
  subst this
  exact ⟨r, h1, h2⟩

theorem abs_le_two {x a b : Rat} (h : (x - a).abs ≤ b) {m : Rat} (ha : a.abs ≤ m) : x.abs ≤ m + b := by have := abs_near h; grind

/-- THE ROOT, the first part, on words: the number s and the scale. -/
theorem root_words {a b : Nat} {X Y : Rat} (ia : Is a X) (ib : Is b Y) (hX0 : 0 ≤ X) {k : Int} (k1 : -600 ≤ k) (k2 : k ≤ 450)
    (up : X * (2 : Rat) ^ (-2 * k) ≤ 2) (up' : (Y * (2 : Rat) ^ (-2 * k)).abs ≤ 2) (lo : 1 / 2 ≤ X * (2 : Rat) ^ (-2 * k) ∨ 1 / 2 ≤ (Y * (2 : Rat) ^ (-2 * k)).abs) :
    ∃ (b1 b2 m1 m2 q r t h s S d : Nat) (Z : Rat), (∀ (R : Type) (kk : Nat → Option R), scaleK R a (-2 * k) kk = kk b1) ∧ (∀ (R : Type) (kk : Nat → Option R), scaleK R b (-2 * k) kk = kk b2) ∧
      floatBits .mul .f64 b1 b1 = some m1 ∧ floatBits .mul .f64 b2 b2 = some m2 ∧ floatBits .add .f64 m1 m2 = some q ∧ double.sqrt q = some r ∧ floatBits .add .f64 b1 r = some t ∧
      floatBits .quo .f64 t 4611686018427387904 = some h ∧ double.sqrt h = some s ∧ (∀ (R : Type) (kk : Nat → Option R), scaleK R s k kk = kk S) ∧ floatBits .mul .f64 4611686018427387904 S = some d ∧
      Is S Z ∧ 0 < Z ∧ Is d (2 * Z) ∧ Z ≤ 2 * (2 : Rat) ^ k ∧ (2 : Rat) ^ k ≤ 3 * Z ∧
      ∀ y Q : Rat, y.abs = (Y * (2 : Rat) ^ (-2 * k)).abs → (Q - y * (2 : Rat) ^ (2 * k) / (2 * Z)).abs ≤ 10 * eps * (2 : Rat) ^ k →
        (Z * Z - Q * Q - X).abs ≤ 700 * eps * (2 : Rat) ^ (2 * k) ∧ (2 * Z * Q - y * (2 : Rat) ^ (2 * k)).abs ≤ 40 * eps * (2 : Rat) ^ (2 * k) := by
  have he := eps_pos
  have he2 := eps_tiny
  have hc := p2_cancel (2 * k)
  rw [show -(2 * k) = -2 * k by omega] at hc
  have hkk : (2 : Rat) ^ (2 * k) = (2 : Rat) ^ k * (2 : Rat) ^ k := by rw [← p2_add]; congr 1; omega
  have hck := p2_cancel k
  have hX' : 0 ≤ X * (2 : Rat) ^ (-2 * k) := Rat.mul_nonneg hX0 (Rat.le_of_lt (p2_pos _))
  have one := m1000_one
  have big := p1000_big
  have small := m1000_small
  obtain ⟨b1, z1, i1, n1, e1⟩ := scaleK_is (n := -2 * k) ia (by omega) (by omega) (lt_p2_1023 (by rw [Rat.abs_of_nonneg hX']; grind))
  obtain ⟨b2, z2, i2, n2, e2⟩ := scaleK_is (n := -2 * k) ib (by omega) (by omega) (lt_p2_1023 (by grind))
  have hXY : X = X * (2 : Rat) ^ (-2 * k) * (2 : Rat) ^ (2 * k) := by rw [Rat.mul_assoc, Rat.mul_comm ((2 : Rat) ^ (-2 * k)), hc]; grind
  generalize hx : X * (2 : Rat) ^ (-2 * k) = x at *
  generalize hy : Y * (2 : Rat) ^ (-2 * k) = y at *
  have xa : x.abs ≤ 2 := by rw [Rat.abs_of_nonneg hX']; exact up
  have d1 := n1.le xa (by grind)
  have d2 := n2.le up' (by grind)
  have z1a : z1.abs ≤ 21 / 10 := by have := abs_near d1; grind
  have z2a : z2.abs ≤ 21 / 10 := by have := abs_near d2; grind
  have p1 := abs_mul_le z1a z1a
  have p2 := abs_mul_le z2a z2a
  obtain ⟨m1, v1, f1, j1, r1⟩ := mul_is i1 i1 (lt_p2_1023 (by grind))
  obtain ⟨m2, v2, f2, j2, r2⟩ := mul_is i2 i2 (lt_p2_1023 (by grind))
  have d3 := r1.le p1 (by grind)
  have d4 := r2.le p2 (by grind)
  have q1 : (v1 - x * x).abs ≤ 30 * eps := by
    have g := abs_mul_le d1 (abs_le_two (x := z1 + x) (a := 0) (b := 5) (by rw [abs_le_iff] at *; grind) (m := 0) (by rw [abs_zero]; grind))
    have g2 := abs_add_le (v1 - z1 * z1) ((z1 - x) * (z1 + x))
    rw [show v1 - z1 * z1 + (z1 - x) * (z1 + x) = v1 - x * x by grind] at g2
    grind
  have q2 : (v2 - y * y).abs ≤ 30 * eps := by
    have g := abs_mul_le d2 (abs_le_two (x := z2 + y) (a := 0) (b := 5) (by rw [abs_le_iff] at *; grind) (m := 0) (by rw [abs_zero]; grind))
    have g2 := abs_add_le (v2 - z2 * z2) ((z2 - y) * (z2 + y))
    rw [show v2 - z2 * z2 + (z2 - y) * (z2 + y) = v2 - y * y by grind] at g2
    grind
  have xx : x * x ≤ 4 := by have := sq_le xa; grind
  have yy : y * y ≤ 4 := by have := sq_le up'; grind
  have xn := sq_nonneg x
  have yn := sq_nonneg y
  have lo2 : 1 / 4 ≤ x * x + y * y := by
    rcases lo with g | g
    · have := sq_ge (x := x) (m := 1 / 2) (by rw [Rat.abs_of_nonneg hX']; exact g) (by grind); grind
    · have := sq_ge g (by grind); grind
  obtain ⟨u1, u2⟩ := abs_le_iff.1 q1
  obtain ⟨u3, u4⟩ := abs_le_iff.1 q2
  have sa : (v1 + v2).abs ≤ 9 := by rw [abs_le_iff]; grind
  obtain ⟨q, vq, f3, j3, r3⟩ := add_is j1 j2 (lt_p2_1023 (by grind))
  have d5 := r3.le sa (by grind)
  obtain ⟨u5, u6⟩ := abs_le_iff.1 d5
  have q3 : (vq - (v1 + v2)).abs ≤ 20 * eps := by grind
  obtain ⟨r, vr, f4, j4, r4, d6⟩ := sqrt_is j3 (by grind) (by grind) (by grind)
  have q4 : (vr * vr - vq).abs ≤ 20 * eps := by
    have := Rat.mul_le_mul_of_nonneg_right (show vq ≤ 10 by grind) (Rat.le_of_lt he)
    have e : (2 : Rat) ^ (-51 : Int) = eps := rfl
    rw [e] at d6
    grind
  have vr4 : vr ≤ 4 := by
    rcases (Rat.le_total : vr ≤ 4 ∨ 4 ≤ vr) with g | g
    · exact g
    · have := Cq.mul_le (by decide) g (by decide) g
      obtain ⟨c1, c2⟩ := abs_le_iff.1 q4
      grind
  obtain ⟨u7, u8⟩ := abs_le_iff.1 d1
  have ta : (z1 + vr).abs ≤ 7 := by rw [abs_le_iff]; grind
  obtain ⟨t, vt, f5, j5, r5⟩ := add_is i1 j4 (lt_p2_1023 (by grind))
  have d7 := r5.le ta (by grind)
  obtain ⟨u9, u10⟩ := abs_le_iff.1 d7
  have q5 : (vt - (x + vr)).abs ≤ 12 * eps := by rw [abs_le_iff]; grind
  have ha : (vt / 2).abs ≤ 4 := by rw [abs_le_iff]; grind
  obtain ⟨h, vh, f6, j6, r6⟩ := div_is j5 is_two (by decide) (by
    have h6 := p2_le (show (10 : Int) ≤ 1022 by decide)
    have h8 : (2 : Rat) ^ (10 : Int) = 1024 := by rw [show (10 : Int) = ((10 : Nat) : Int) by rfl, p2_nat]; rfl
    grind)
  have q6 := r6.le ha (by grind)
  obtain ⟨u11, u12⟩ := abs_le_iff.1 q6
  have vr0 : 49 / 100 ≤ vr := by
    rcases (Rat.le_total : vr ≤ 49 / 100 ∨ 49 / 100 ≤ vr) with g | g
    · have := Cq.mul_le (Rat.le_of_lt r4) g (Rat.le_of_lt r4) g
      obtain ⟨c1, c2⟩ := abs_le_iff.1 q4
      grind
    · exact g
  obtain ⟨s, vs, f7, j7, r7, d8⟩ := sqrt_is j6 (by grind) (by grind) (by grind)
  have q7 : (vs * vs - vh).abs ≤ 5 * eps := by
    have := Rat.mul_le_mul_of_nonneg_right (show vh ≤ 5 by grind) (Rat.le_of_lt he)
    have e : (2 : Rat) ^ (-51 : Int) = eps := rfl
    rw [e] at d8
    grind
  have vs2 : vs ≤ 19 / 10 := by
    rcases (Rat.le_total : vs ≤ 19 / 10 ∨ 19 / 10 ≤ vs) with g | g
    · exact g
    · have := Cq.mul_le (show (0 : Rat) ≤ 19 / 10 by grind) g (by grind) g
      obtain ⟨c1, c2⟩ := abs_le_iff.1 q7
      grind
  have vs0 : 48 / 100 ≤ vs := by
    rcases (Rat.le_total : vs ≤ 48 / 100 ∨ 48 / 100 ≤ vs) with g | g
    · have := Cq.mul_le (Rat.le_of_lt r7) g (Rat.le_of_lt r7) g
      obtain ⟨c1, c2⟩ := abs_le_iff.1 q7
      grind
    · exact g
  have pk := p2_pos k
  have pk' := p2_pos (-k)
  have hbig := p2_le (show k ≤ 450 by omega)
  have h450 := p2_le (show (450 : Int) ≤ 1020 by decide)
  have h1023 : (2 : Rat) ^ (1023 : Int) = 8 * (2 : Rat) ^ (1020 : Int) := by
    rw [show (1023 : Int) = 1020 + 3 by decide, p2_add]
    have : (2 : Rat) ^ (3 : Int) = 8 := by rw [show (3 : Int) = ((3 : Nat) : Int) by rfl, p2_nat]; rfl
    rw [this]; grind
  have h1020 := p2_pos 1020
  have hlow := p2_le (show (-1000 : Int) ≤ k by omega)
  have sk : (vs * (2 : Rat) ^ k).abs ≤ 2 * (2 : Rat) ^ k := by
    rw [Rat.abs_of_nonneg (Rat.mul_nonneg (Rat.le_of_lt r7) (Rat.le_of_lt pk))]
    exact Rat.mul_le_mul_of_nonneg_right (by grind) (Rat.le_of_lt pk)
  obtain ⟨S, Z, iS, nS, eS⟩ := scaleK_is (n := k) j7 (by omega) (by omega) (by grind)
  have d9 := nS.le sk (by grind)
  generalize hp : (2 : Rat) ^ k = p at *
  generalize hp' : (2 : Rat) ^ (-k) = p' at *
  have hσ : Z = (Z * p') * p := by rw [Rat.mul_assoc, Rat.mul_comm p', hck]; grind
  have d10 : (Z * p' - vs).abs ≤ 2 * eps := by
    have e : Z - vs * p = (Z * p' - vs) * p := by grind
    rw [e, abs_mul, Rat.abs_of_nonneg (Rat.le_of_lt pk)] at d9
    rcases (Rat.le_total : (Z * p' - vs).abs ≤ 2 * eps ∨ 2 * eps ≤ (Z * p' - vs).abs) with g | g
    · exact g
    · have g1 : ((Z * p' - vs).abs - 2 * eps) * p = 0 := by
        have := Rat.mul_nonneg (show 0 ≤ (Z * p' - vs).abs - 2 * eps by grind) (Rat.le_of_lt pk)
        grind
      rcases Rat.mul_eq_zero.1 g1 with g2 | g2
      · grind
      · grind
  generalize Z * p' = σ at *
  obtain ⟨u13, u14⟩ := abs_le_iff.1 d10
  have σ0 : 0 < σ := by grind
  have q8 : (σ * σ - vh).abs ≤ 24 * eps := by
    have g := abs_mul_le d10 (show (σ + vs).abs ≤ 5 by rw [abs_le_iff]; grind)
    have g2 := abs_add_le (vs * vs - vh) ((σ - vs) * (σ + vs))
    rw [show vs * vs - vh + (σ - vs) * (σ + vs) = σ * σ - vh by grind] at g2
    grind
  obtain ⟨k1', k2', k3', k4'⟩ := root_scaled hX' up up' lo q1 q2 q3 r4 q4 q5 (by grind) σ0 q8
  have Z2 : Z ≤ 2 * p := by rw [hσ]; exact Rat.mul_le_mul_of_nonneg_right k2' (Rat.le_of_lt pk)
  have Z3 : p ≤ 3 * Z := by
    have := Rat.mul_le_mul_of_nonneg_right k3' (Rat.le_of_lt pk)
    rw [hσ]; grind
  have Zp : 0 < Z := by grind
  obtain ⟨d, f8, j8⟩ := twice_is iS (by rw [Rat.abs_of_nonneg (by grind)]; grind)
  refine ⟨b1, b2, m1, m2, q, r, t, h, s, S, d, Z, e1, e2, f1, f2, f3, f4, f5, f6, f7, eS, f8, iS, Zp, j8, Z2, Z3, fun y' Q hyy hQ => ?_⟩
  have yy' : y' * y' = y * y := by
    have g1 : y'.abs * y'.abs = y' * y' := by rw [← abs_mul, Rat.abs_of_nonneg (sq_nonneg y')]
    have g2 : y.abs * y.abs = y * y := by rw [← abs_mul, Rat.abs_of_nonneg (sq_nonneg y)]
    rw [← g1, ← g2, hyy]
  rw [hkk] at hQ hXY ⊢
  have hQ' : (Q * p' - y' / (2 * σ)).abs ≤ 10 * eps := by
    have e1 : y' * (p * p) / (2 * Z) = y' / (2 * σ) * p := by
      have g1 : y' * (p * p) / (2 * Z) * (2 * Z) = y' * (p * p) := Rat.div_mul_cancel (by grind)
      have g2 : y' / (2 * σ) * (2 * σ) = y' := Rat.div_mul_cancel (by grind)
      have g3 : (y' * (p * p) / (2 * Z) - y' / (2 * σ) * p) * (2 * Z) = 0 := by
        rw [show (y' * (p * p) / (2 * Z) - y' / (2 * σ) * p) * (2 * Z) = y' * (p * p) / (2 * Z) * (2 * Z) - y' / (2 * σ) * p * (2 * Z) by grind, g1]
        have : y' / (2 * σ) * p * (2 * Z) = (y' / (2 * σ) * (2 * σ)) * (p * p) := by rw [hσ]; grind
        rw [this, g2]; grind
      rcases Rat.mul_eq_zero.1 g3 with g | g <;> grind
    have e2 : Q - y' * (p * p) / (2 * Z) = (Q * p' - y' / (2 * σ)) * p := by
      rw [e1]; grind
    rw [e2, abs_mul, Rat.abs_of_nonneg (Rat.le_of_lt pk)] at hQ
    rcases (Rat.le_total : (Q * p' - y' / (2 * σ)).abs ≤ 10 * eps ∨ 10 * eps ≤ (Q * p' - y' / (2 * σ)).abs) with g | g
    · exact g
    · have g1 : ((Q * p' - y' / (2 * σ)).abs - 10 * eps) * p = 0 := by
        have := Rat.mul_nonneg (show 0 ≤ (Q * p' - y' / (2 * σ)).abs - 10 * eps by grind) (Rat.le_of_lt pk)
        grind
      rcases Rat.mul_eq_zero.1 g1 with g2 | g2
      · grind
      · grind
  obtain ⟨w1, w2⟩ := root_parts (x := x) (y := y') (s := σ) (Q := Q * p') hX' up (by rw [hyy]; exact up') k1' k2' k3' (by rw [yy']; exact k4') hQ'
  have hQp : Q = (Q * p') * p := by rw [Rat.mul_assoc, Rat.mul_comm p', hck]; grind
  have pp : 0 ≤ p * p := Rat.le_of_lt (Rat.mul_pos pk pk)
  refine ⟨?_, ?_⟩
  · have e : Z * Z - Q * Q - X = (σ * σ - Q * p' * (Q * p') - x) * (p * p) := by
      rw [hXY]
      generalize Q * p' = Q' at *
      rw [hσ, hQp]; grind
    rw [e, abs_mul, Rat.abs_of_nonneg pp]
    exact Rat.mul_le_mul_of_nonneg_right w1 pp
  · have e : 2 * Z * Q - y' * (p * p) = (2 * σ * (Q * p') - y') * (p * p) := by
      generalize Q * p' = Q' at *
      rw [hσ, hQp]; grind
    rw [e, abs_mul, Rat.abs_of_nonneg pp]
    exact Rat.mul_le_mul_of_nonneg_right w2 pp
end Go.Vm
