/- How near a product in six roundings comes to a whole number; no conditions. The share of a circulation times a stream, on words; no conditions. -/
import Derived.Test.YtnbpfafngidimaaGreatVmP59
namespace Go.Vm
open Ieee
set_option linter.unusedVariables false
set_option linter.unusedSimpArgs false

/-! ### How near the push comes -/
theorem ok_step {y f : Rat} (hy : y = 0 ∨ 1 / 16 ≤ y.abs) (hf : f = 0 ∨ 1 ≤ f.abs) : y * f = 0 ∨ 1 / 16 ≤ (y * f).abs := by
  rcases hy with h | h
  · left; rw [h]; grind
  rcases hf with g | g
  · left; rw [g]; grind
  · right
    rw [abs_mul]
    have := Rat.mul_le_mul_of_nonneg_left g (abs_nonneg y)
    grind
theorem int_ok (n : Int) : ((n : Rat)) = 0 ∨ 1 ≤ ((n : Rat)).abs := by
  by_cases h : n = 0
  · left; subst h; rfl
  · right
    rw [int_abs]
    have : ((1 : Nat) : Rat) ≤ ((n.natAbs : Nat) : Rat) := nat_cast_le (by omega)
    exact this
/-- g * c * t * e1 * e2 * 2 * -pi in six roundings -/
theorem chain {g t q z1 n1 m1 d1 p1 f1 f2 : Rat} (hg : g = 0 ∨ 1 ≤ g.abs) (ht : t = 0 ∨ 1 ≤ t.abs) (hf1 : f1.abs = 1) (hf2 : f2 = 1)
    (r1 : Rnd (g * cV) q) (r2 : Rnd (q * t) z1) (r3 : Rnd (z1 * f1) n1) (r4 : Rnd (n1 * f2) m1) (r5 : Rnd (m1 * 2) d1) (r6 : Rnd (d1 * (-piV)) p1) :
    (p1 - g * cV * t * f1 * f2 * 2 * (-piV)).abs ≤ 12 * eps * (g * cV * t * f1 * f2 * 2 * (-piV)).abs := by
  have hc : cV.abs = cV := Rat.abs_of_nonneg (by have := cV_ge; grind)
  have e1 := eps_pos
  have e2 := eps_le
  have y0 : g * cV = 0 ∨ 1 / 16 ≤ (g * cV).abs := by
    rcases hg with h | h
    · left; rw [h]; grind
    · right
      rw [abs_mul, hc]
      have := Rat.mul_le_mul_of_nonneg_right h (show 0 ≤ cV by have := cV_ge; grind)
      have := cV_ge
      grind
  have a0 : (g - g).abs ≤ 0 * g.abs := by rw [show g - g = 0 by grind, abs_zero]; grind
  have s1 := rl_step (by grind) (by grind) a0 r1 y0
  have y1 := ok_step y0 ht
  have s2 := rl_step (by grind) (by grind) s1 r2 y1
  have y2 := ok_step y1 (f := f1) (.inr (by grind))
  have s3 := rl_step (by grind) (by grind) s2 r3 y2
  have y3 := ok_step y2 (f := f2) (.inr (by rw [hf2, Rat.abs_of_nonneg (show (0 : Rat) ≤ 1 by grind)]; grind))
  have s4 := rl_step (by grind) (by grind) s3 r4 y3
  have y4 := ok_step y3 (f := 2) (.inr (by rw [Rat.abs_of_nonneg (by grind)]; grind))
  have s5 := rl_step (by grind) (by grind) s4 r5 y4
  have y5 := ok_step y4 (f := -piV) (.inr (by have := piV_ge; rw [abs_neg, Rat.abs_of_nonneg (by grind)]; grind))
  have s6 := rl_step (by grind) (by grind) s5 r6 y5
  have e : 0 + 2 * eps + 2 * eps + 2 * eps + 2 * eps + 2 * eps + 2 * eps = 12 * eps := by grind
  rw [e] at s6
  exact s6
/-- from the value to the whole number -/
theorem near_int {P W u k : Rat} (hP : (P - u * k).abs ≤ 12 * eps * (u * k).abs) (hk : (k - 1).abs ≤ eps) (hW : W = u) : (P - W).abs ≤ 16 * eps * u.abs := by
  subst hW
  have h0 := abs_nonneg W
  have h1 : (P - W).abs ≤ (P - W * k).abs + (W * k - W).abs := tri
  have h2 : (W * k - W).abs ≤ eps * W.abs := by
    rw [show W * k - W = W * (k - 1) by grind, abs_mul]
    have := Rat.mul_le_mul_of_nonneg_left hk (abs_nonneg W)
    grind
  have h3 : (W * k).abs ≤ (5 / 4) * W.abs := by
    have a := abs_add_le (W * k - W) W
    rw [show W * k - W + W = W * k by grind] at a
    have := eps_le
    have b := Rat.mul_le_mul_of_nonneg_right this (abs_nonneg W)
    grind
  have h4 := Rat.mul_le_mul_of_nonneg_left h3 (show 0 ≤ 12 * eps by have := eps_pos; grind)
  have := abs_nonneg W
  grind
theorem near_bound {P W L : Rat} {n : Int} (h : (P - W).abs ≤ 16 * eps * ((n : Rat)).abs) (hn : ((n : Rat)).abs ≤ L) (hL : L ≤ 10000000) : (P - W).abs < (2 : Rat) ^ (1023 : Int) ∧ ∀ D, Rnd (P - W) D → D.abs ≤ L * (2 : Rat) ^ (-40 : Int) := by
  have hb : 16 * eps * ((n : Rat)).abs ≤ 16 * eps * L := Rat.mul_le_mul_of_nonneg_left hn (by have := eps_pos; grind)
  have e16 : 16 * eps * L = L * (16 / 2251799813685248) := by rw [eps_eq]; grind
  rw [e16] at hb
  have hL0 : 0 ≤ L := by have := abs_nonneg ((n : Rat)); grind
  refine ⟨lt_big (by grind), fun D hD => ?_⟩
  rw [p40m]
  rcases int_ok n with h0 | h0
  · rw [h0, abs_zero] at h
    have h1 : (P - W).abs ≤ 0 := by grind
    have h2 := abs_le_iff.1 h1
    have h3 : P - W = 0 := by grind
    rw [rnd_zero hD h3, abs_zero]
    grind
  · have c := hD.coarse
    have t := abs_add_le (D - (P - W)) (P - W)
    rw [show D - (P - W) + (P - W) = D by grind] at t
    have p : (2 : Rat) ^ (-1075 : Int) ≤ 1 / 1099511627776 / 16 := by
      have := p2_le (show (-1075 : Int) ≤ -44 by decide)
      have h := p2_neg 44
      have e : ((2 ^ 44 : Nat) : Rat) = 17592186044416 := rfl
      rw [e] at h
      rw [show (-44 : Int) = -((44 : Nat) : Int) by rfl] at this
      grind
    generalize (2 : Rat) ^ (-1075 : Int) = tiny at *
    grind
end Go.Vm
namespace Go.Vm
open Ieee
set_option linter.unusedVariables false
set_option linter.unusedSimpArgs false

theorem whole_any (n : Int) : ∃ X : Int, X.natAbs ≤ 1000 ∧ ∃ w, Wd w X ∧ ∀ (R : Type) (k : Nat → Option R), wholeG R n k = k w := by
  have hb : (n.tmod 1001).natAbs ≤ 1000 := by
    rw [Int.natAbs_tmod]
    have := Nat.mod_lt n.natAbs (show (1001 : Int).natAbs > 0 by decide)
    have e : (1001 : Int).natAbs = 1001 := rfl
    omega
  refine ⟨n.tmod 1001, hb, floatOfInt .f64 (n.tmod 1001), wd_ofInt (by omega), fun R k => ?_⟩
  unfold wholeG wholeGB
  rw [fiReal_fair, forceN_eq]
theorem abs_int {w : Nat} {x : Int} (h : Is w x) : Is (absW w) (((x.natAbs : Nat) : Int) : Rat) := by
  have := abs_is h
  rw [int_abs] at this
  exact this
theorem rnd_le2 {x z B : Rat} (h : Rnd x z) (hx : x.abs ≤ B) (hB : 1 ≤ B) : z.abs ≤ 2 * B := by
  have h1 := h.le hx (by
    have := p2_le (show (-1000 : Int) ≤ 0 by decide)
    rw [Rat.zpow_zero] at this
    grind)
  have h2 := abs_add_le (z - x) x
  rw [show z - x + x = z by grind] at h2
  have h3 := Rat.mul_le_mul_of_nonneg_right eps_le (show 0 ≤ B by grind)
  grind
theorem int_le {n : Int} {N : Nat} {B : Rat} (h : n.natAbs ≤ N) (hB : ((N : Int) : Rat) = B) : ((n : Rat)).abs ≤ B := by rw [← hB]; exact int_abs_le h
theorem cV_abs : cV.abs ≤ 1 := by rw [Rat.abs_of_nonneg (by have := cV_ge; grind)]; exact cV_le
theorem piV_abs : piV.abs ≤ 4 := by rw [Rat.abs_of_nonneg (by have := piV_ge; grind)]; exact piV_le
theorem mpiV_abs : (-piV).abs ≤ 4 := by rw [abs_neg]; exact piV_abs
theorem two_abs : (((2 : Int)) : Rat).abs ≤ 2 := int_le (N := 2) (by decide) rfl

/-! ### The share of the circulation times the stream -/
structure Share (a0 q w7 w8 : Nat) (G S T : Int) (p1 p2 : Nat) (P1 P2 : Rat) (x1 x2 n1 n2 m1 m2 d1 d2 : Nat) (o1 o2 : Nat) : Prop where
  mul : ∀ (R : Type) (k : Nat → Nat → Option R), mulK R a0 q w7 w8 k = k n1 n2
  add : ∀ (R : Type) (k : Nat → Nat → Option R), addK R o1 o2 n1 n2 k = k m1 m2
  two : ∀ (R : Type) (k : Nat → Nat → Option R), sclK R m1 m2 4611686018427387904 k = k d1 d2
  fin : ∀ (R : Type) (X : Option R), fCT FiniteK R d1 d2 X = X
  pi : ∀ (R : Type) (k : Nat → Nat → Option R), sclK R d1 d2 13837628693406821656 k = k p1 p2
  i1 : Is p1 P1
  i2 : Is p2 P2
  c1 : (P1 - (((-T * G : Int)) : Rat) * (cV * 2 * piV)).abs ≤ 12 * eps * ((((-T * G : Int)) : Rat) * (cV * 2 * piV)).abs
  c2 : (-P2 - (((-S * G : Int)) : Rat) * (cV * 2 * piV)).abs ≤ 12 * eps * ((((-S * G : Int)) : Rat) * (cV * 2 * piV)).abs
theorem share_is {a0 q w7 w8 o1 o2 : Nat} {G S T : Int} {Q : Rat} (ha : Is a0 ((0 : Int) : Rat)) (iq : Is q Q) (rq : Rnd (((-G : Int) : Rat) * cV) Q) (h7 : Is w7 S) (h8 : Is w8 T) (bG : G.natAbs ≤ 1000) (bS : S.natAbs ≤ 1000) (bT : T.natAbs ≤ 1000) (ho : IsC o1 o2 0 0) :
    ∃ p1 p2 P1 P2 x1 x2 n1 n2 m1 m2 d1 d2, Share a0 q w7 w8 G S T p1 p2 P1 P2 x1 x2 n1 n2 m1 m2 d1 d2 o1 o2 := by
  have kS : ((S : Rat)).abs ≤ 1000 := int_le bS rfl
  have kT : ((T : Rat)).abs ≤ 1000 := int_le bT rfl
  have kG : (((-G : Int) : Rat)).abs ≤ 1000 := int_le (N := 1000) (by omega) rfl
  have kQ : Q.abs ≤ 2000 := by
    have := rnd_le2 rq (B := 1000) (by have := abs_mul_le kG cV_abs; grind) (by grind)
    grind
  have z0 : ((0 : Int) : Rat) = 0 := rfl
  obtain ⟨x1, ex1, ix1⟩ := mul_int ha h7 (by omega)
  obtain ⟨x3, ex3, ix3⟩ := mul_int ha h8 (by omega)
  rw [show (0 : Int) * S = 0 by omega] at ix1
  rw [show (0 : Int) * T = 0 by omega] at ix3
  have bz1 := abs_mul_le kQ kT
  have bz2 := abs_mul_le kQ kS
  obtain ⟨y1, Z1, ey1, iy1, ry1⟩ := mul_is iq h8 (lt_big (by grind))
  obtain ⟨y2, Z2, ey2, iy2, ry2⟩ := mul_is iq h7 (lt_big (by grind))
  have kZ1 := rnd_le2 ry1 bz1 (by grind)
  have kZ2 := rnd_le2 ry2 bz2 (by grind)
  have e1 : ((0 : Int) : Rat) - Z1 = Z1 * (-1) := by rw [z0]; grind
  have e2 : ((0 : Int) : Rat) + Z2 = Z2 * 1 := by rw [z0]; grind
  have b1 : (Z1 * (-1)).abs ≤ 4000000 := by rw [show Z1 * (-1) = -Z1 by grind, abs_neg]; grind
  have b2 : (Z2 * 1).abs ≤ 4000000 := by rw [show Z2 * 1 = Z2 by grind]; grind
  obtain ⟨n1, N1, en1, in1, rn1⟩ := sub_is ix1 iy1 (by rw [e1]; exact lt_big (by grind))
  obtain ⟨n2, N2, en2, in2, rn2⟩ := add_is ix3 iy2 (by rw [e2]; exact lt_big (by grind))
  rw [e1] at rn1
  rw [e2] at rn2
  have kN1 := rnd_le2 rn1 b1 (by grind)
  have kN2 := rnd_le2 rn2 b2 (by grind)
  have e3 : ((0 : Int) : Rat) + N1 = N1 * 1 := by rw [z0]; grind
  have e4 : ((0 : Int) : Rat) + N2 = N2 * 1 := by rw [z0]; grind
  have b3 : (N1 * 1).abs ≤ 8000000 := by rw [show N1 * 1 = N1 by grind]; grind
  have b4 : (N2 * 1).abs ≤ 8000000 := by rw [show N2 * 1 = N2 by grind]; grind
  obtain ⟨m1, M1, em1, im1, rm1⟩ := add_is ho.1 in1 (by rw [e3]; exact lt_big (by grind))
  obtain ⟨m2, M2, em2, im2, rm2⟩ := add_is ho.2 in2 (by rw [e4]; exact lt_big (by grind))
  rw [e3] at rm1
  rw [e4] at rm2
  have kM1 := rnd_le2 rm1 b3 (by grind)
  have kM2 := rnd_le2 rm2 b4 (by grind)
  have t2 : ((2 : Int) : Rat) = 2 := rfl
  have b5 := abs_mul_le kM1 two_abs
  have b6 := abs_mul_le kM2 two_abs
  obtain ⟨d1, D1, ed1, id1, rd1⟩ := mul_is im1 l2 (lt_big (by grind))
  obtain ⟨d2, D2, ed2, id2, rd2⟩ := mul_is im2 l2 (lt_big (by grind))
  have kD1 := rnd_le2 rd1 b5 (by grind)
  have kD2 := rnd_le2 rd2 b6 (by grind)
  rw [t2] at rd1 rd2
  have b7 := abs_mul_le kD1 mpiV_abs
  have b8 := abs_mul_le kD2 mpiV_abs
  obtain ⟨p1, P1, ep1, ip1, rp1⟩ := mul_is id1 is_mpi (lt_big (by grind))
  obtain ⟨p2, P2, ep2, ip2, rp2⟩ := mul_is id2 is_mpi (lt_big (by grind))
  have c1 := chain (int_ok (-G)) (int_ok T) (f1 := -1) (f2 := 1) (by rw [abs_neg, Rat.abs_of_nonneg (by grind)]) rfl rq ry1 rn1 rm1 rd1 rp1
  have c2 := chain (int_ok (-G)) (int_ok S) (f1 := 1) (f2 := 1) (by rw [Rat.abs_of_nonneg (by grind)]) rfl rq ry2 rn2 rm2 rd2 rp2
  have u1 : ((-G : Int) : Rat) * cV * (T : Rat) * (-1) * 1 * 2 * (-piV) = (((-T * G : Int)) : Rat) * (cV * 2 * piV) := by push_cast; grind
  have u2 : ((-G : Int) : Rat) * cV * (S : Rat) * 1 * 1 * 2 * (-piV) = -((((-S * G : Int)) : Rat) * (cV * 2 * piV)) := by push_cast; grind
  rw [u1] at c1
  rw [u2, abs_neg] at c2
  refine ⟨p1, p2, P1, P2, x1, y1, n1, n2, m1, m2, d1, d2, ⟨fun R k => ?_, fun R k => ?_, fun R k => ?_, fun R X => ?_, fun R k => ?_, ip1, ip2, c1, ?_⟩⟩
  · unfold mulK
    rw [bindF_eq ex1, bindF_eq ey1, bindF_eq en1, bindF_eq ex3, bindF_eq ey2, bindF_eq en2]
  · unfold addK
    rw [bindF_eq em1, bindF_eq em2]
  · unfold sclK
    rw [bindF_eq ed1, bindF_eq ed2]
  · unfold fCT
    rw [FiniteK_yes id1 id2]
    rfl
  · unfold sclK
    rw [bindF_eq ep1, bindF_eq ep2]
  · rw [show -P2 - (((-S * G : Int)) : Rat) * (cV * 2 * piV) = -(P2 - -((((-S * G : Int)) : Rat) * (cV * 2 * piV))) by grind, abs_neg]
    exact c2
end Go.Vm
