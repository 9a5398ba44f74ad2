/- The law of halves: what PanelHalves computes is true whatever the input; no conditions. -/
import Derived.Test.YtnbpfafngidimaaGreatVmQ23
import Derived.Test.YtnbpfafngidimaaGreatVmP49
namespace Go.Vm
open Ieee
set_option linter.unusedVariables false
set_option linter.unusedSimpArgs false

/-! ### The way to the foot of the line -/
theorem is_fin {w : Nat} {x : Rat} (h : Is w x) : w % 2 ^ 63 < 9218868437227405312 := by
  cases hf : finW w with
  | true =>
    unfold finW at hf
    rw [nl] at hf
    have hE : expoW w < 2047 := by simpa using hf
    have hEe : expoW w = w / 4503599627370496 % 2048 := rfl
    omega
  | false =>
    exfalso
    obtain ⟨_, s, m, i, h1, _⟩ := abs_is h
    rcases read_not hf with g | ⟨t, g⟩ <;> (rw [g] at h1; cases h1)
theorem is_mod {w : Nat} {x : Rat} (h : Is w x) : Is (w % 2 ^ 63) x.abs := by
  have := abs_is h
  rw [absW_eq] at this
  exact this
theorem hypC_run {big small : Nat} {X Y : Rat} (hX : Is big X) (hY : Is small Y) (h1 : 1 ≤ X) (h2 : X ≤ 64) (h3 : 0 ≤ Y) (h4 : Y ≤ X) : ∃ h H, Is h H ∧ 1 / 4 ≤ H ∧ H ≤ 500 ∧ ∀ (R : Type) (k : Nat → Option R), hypC big small k = k h := by
  have ep := eps_pos
  have e6 := eps6
  have ts := tn_small
  have Xn : X ≠ 0 := by grind
  have q1 : Y / X * X = Y := by rw [Rat.div_def, Rat.mul_assoc, Rat.inv_mul_cancel _ Xn, Rat.mul_one]
  have b1 := div_bound (Q := 1) (A := X) (D := X) q1 (by rw [Rat.abs_of_nonneg h3]; exact h4) (by rw [Rat.abs_of_nonneg (by grind)]; exact Rat.le_refl) (by grind) (by grind) (by grind)
  obtain ⟨r, V, f1, i1, d1⟩ := div_is hY hX Xn (p1022 (by grind))
  have V2 : V.abs ≤ 11 / 10 := by
    have f := d1.fine
    have t := abs_add_le (V - Y / X) (Y / X)
    rw [show V - Y / X + Y / X = V by grind] at t
    have m := Rat.mul_le_mul_of_nonneg_right b1 (show 0 ≤ eps / 2 by grind)
    grind
  have s0 := sq_nonneg V
  have s1 : V * V ≤ 121 / 100 := by
    have := mul_mono' V2 V2 (abs_nonneg V) (by grind)
    rw [← abs_mul, sq_abs] at this
    grind
  have aV : (V * V).abs ≤ 121 / 100 := by rw [sq_abs]; exact s1
  obtain ⟨p, P, f2, i2, d2⟩ := mul_is i1 i1 (lt_p2_1023 (by grind))
  have g2 := abs_le_iff.1 (rnd_B d2 aV (by grind)).1
  have m2 := Rat.mul_le_mul_of_nonneg_left e6 (show (0 : Rat) ≤ 26 / 100 * (121 / 100) by grind)
  obtain ⟨q, Q, f3, i3, d3⟩ := add_is i2 one_is (lt_p2_1023 (abs_le_iff.2 ⟨by grind, by grind⟩))
  have g3 := abs_le_iff.1 (rnd_B d3 (B := 3) (abs_le_iff.2 ⟨by grind, by grind⟩) (by grind)).1
  have Q1 : 9 / 10 ≤ Q := by grind
  have Q2 : Q ≤ 3 := by grind
  obtain ⟨l, T, f4, i4, T0, d4⟩ := sqrt_is i3 (by grind) (by
    have h6 := p2_le (show (10 : Int) ≤ 1000 by decide)
    have h8 : (2 : Rat) ^ (10 : Int) = 1024 := by rw [show (10 : Int) = ((10 : Nat) : Int) by rfl, p2_nat]; rfl
    grind) (by
    have := low_small (B := 1 / 1000) (by grind)
    grind)
  have g4 := abs_le_iff.1 d4
  have m4 : Q * (2 : Rat) ^ (-51 : Int) ≤ 1 / 1000 := by
    show Q * eps ≤ 1 / 1000
    have := Rat.mul_le_mul_of_nonneg_right Q2 (Rat.le_of_lt ep)
    grind
  have T1 : 1 / 2 ≤ T := le_of_sq_le (Rat.le_of_lt T0) (by grind)
  have T2 : T ≤ 2 := le_of_sq_le (by grind) (by grind)
  have w1 := mul_mono' T1 h1 (by grind) (by grind)
  have w2 := mul_mono' T2 h2 (by grind) (by grind)
  have w3 : 1 / 2 ≤ T * X := by
    have := mul_mono' T1 h1 (show (0 : Rat) ≤ 1 by grind) (by grind)
    grind
  obtain ⟨h, H, f5, i5, d5⟩ := mul_is i4 hX (lt_p2_1023 (abs_le_iff.2 ⟨by grind, by grind⟩))
  have g5 := abs_le_iff.1 (rnd_B d5 (B := 128) (abs_le_iff.2 ⟨by grind, by grind⟩) (by grind)).1
  refine ⟨h, H, i5, by grind, by grind, fun R k => ?_⟩
  unfold hypC
  rw [bindF_eq f1, bindF_eq f2, bindF_eq f3, bindF_eq f4, bindF_eq f5]
theorem abs_int_ge {n : Int} (h : n ≠ 0) : (1 : Rat) ≤ ((n : Rat)).abs := by
  have := half_abs h
  rw [show ((n : Rat) / 2) = (n : Rat) * (1 / 2) by grind, abs_mul, Rat.abs_of_nonneg (x := (1 / 2 : Rat)) (by grind)] at this
  grind
theorem c64 : (((64 : Nat) : Int) : Rat) = 64 := rfl
theorem hyp_run {a b : Nat} {x y : Int} (ha : Is a (x : Rat)) (hb : Is b (y : Rat)) (h1 : x.natAbs ≤ 64) (h2 : y.natAbs ≤ 64) (h0 : x ≠ 0 ∨ y ≠ 0) : ∃ h H, Is h H ∧ 1 / 4 ≤ H ∧ H ≤ 500 ∧ ∀ (R : Type) (k : Nat → Option R), hypK R a b k = k h := by
  have ia := is_mod ha
  have ib := is_mod hb
  have fa := is_fin ha
  have fb := is_fin hb
  have ba := int_le h1 c64
  have bb := int_le h2 c64
  have na := abs_nonneg (x : Rat)
  have nb' := abs_nonneg (y : Rat)
  have c1 : (Nat.blt (a % 2 ^ 63) 9218868437227405312 && Nat.blt (b % 2 ^ 63) 9218868437227405312) = true := by
    simp only [Bool.and_eq_true, Nat.blt_eq]; exact ⟨fa, fb⟩
  have z : ∀ {w : Nat} {n : Int}, Is w ((n : Rat)).abs → w = 0 → n = 0 := fun {w n} h e => by
    subst e
    have := is_fun h is_zero
    rw [show ((0 : Int) : Rat) = 0 from rfl] at this
    refine Classical.byContradiction fun hn => ?_
    have := abs_int_ge hn
    grind
  have c2 : (Nat.beq (a % 2 ^ 63) 0 && Nat.beq (b % 2 ^ 63) 0) = false := by
    cases hc : (Nat.beq (a % 2 ^ 63) 0 && Nat.beq (b % 2 ^ 63) 0) with
    | false => rfl
    | true =>
      simp only [Bool.and_eq_true, Nat.beq_eq] at hc
      have e1 := z ia hc.1
      have e2 := z ib hc.2
      omega
  have c3 : ltF (a % 2 ^ 63) (b % 2 ^ 63) = decide (((x : Rat)).abs < ((y : Rat)).abs) := ltF_is ia ib
  have one : (1 : Rat) ≤ ((x : Rat)).abs ∨ (1 : Rat) ≤ ((y : Rat)).abs := h0.imp abs_int_ge abs_int_ge
  by_cases hl : ((x : Rat)).abs < ((y : Rat)).abs
  · obtain ⟨h, H, i, p, q, f⟩ := hypC_run ib ia (by rcases one with g | g <;> grind) bb na (Rat.le_of_lt hl)
    refine ⟨h, H, i, p, q, fun R k => ?_⟩
    unfold hypK
    rw [c1, c2, c3, decide_eq_true hl]
    exact f R k
  · obtain ⟨h, H, i, p, q, f⟩ := hypC_run ia ib (by rcases one with g | g <;> grind) ba nb' (Rat.not_lt.1 hl)
    refine ⟨h, H, i, p, q, fun R k => ?_⟩
    unfold hypK
    rw [c1, c2, c3, decide_eq_false hl]
    exact f R k
end Go.Vm
namespace Go.Vm
open Ieee
set_option linter.unusedVariables false
set_option linter.unusedSimpArgs false

/-! ### The law of halves -/
theorem hv_of {w : Nat} {x : Int} (h : Is w (x : Rat)) : Hv w (2 * x) := by
  have e : ((2 * x : Int) : Rat) / 2 = (x : Rat) := by rw [Rat.intCast_mul]; show (2 : Rat) * x / 2 = x; grind
  unfold Hv
  rw [e]
  exact h
theorem nab_32 {x : Int} (h : x.natAbs ≤ 16) : (2 * x).natAbs ≤ 32 := by omega
theorem nab_s {x y : Int} (h : x.natAbs ≤ 16) (g : y.natAbs ≤ 16) : (x + y).natAbs ≤ 32 := by omega
theorem nab_d {x y : Int} (h : x.natAbs ≤ 16) (g : y.natAbs ≤ 16) : (x - y).natAbs ≤ 32 := by omega
theorem nab_53 {x : Int} (h : x.natAbs ≤ 2048) : x.natAbs < 2 ^ 53 := by omega
theorem nab_p {x y : Int} (h : x.natAbs ≤ 32) (g : y.natAbs ≤ 32) : (x * y).natAbs ≤ 1024 := by rw [Int.natAbs_mul]; exact Nat.mul_le_mul h g
theorem nab_q {x y : Int} (h : x.natAbs ≤ 1024) (g : y.natAbs ≤ 1024) : (x - y).natAbs ≤ 2048 := by omega
theorem cross_ne {a b c d x y : Int} (h : (c - a) * (y - b) - (d - b) * (x - a) ≠ 0) :
    (2 * c - 2 * a ≠ 0 ∨ 2 * d - 2 * b ≠ 0) ∧ (2 * x - 2 * a ≠ 0 ∨ 2 * y - 2 * b ≠ 0) ∧ (2 * x - 2 * c ≠ 0 ∨ 2 * y - 2 * d ≠ 0) ∧ (a + c - 2 * a ≠ 0 ∨ b + d - 2 * b ≠ 0) ∧ (2 * x - (a + c) ≠ 0 ∨ 2 * y - (b + d) ≠ 0) ∧ (2 * c - (a + c) ≠ 0 ∨ 2 * d - (b + d) ≠ 0) := by
  have n1 : ∀ {p q : Int}, ¬ (p ≠ 0 ∨ q ≠ 0) → p = 0 ∧ q = 0 := fun {p q} h => by omega
  refine ⟨?_, ?_, ?_, ?_, ?_, ?_⟩ <;> (refine Classical.byContradiction fun hn => h ?_; obtain ⟨e1, e2⟩ := n1 hn)
  · have e3 : c - a = 0 := by omega
    have e4 : d - b = 0 := by omega
    rw [e3, e4]; omega
  · have e3 : x - a = 0 := by omega
    have e4 : y - b = 0 := by omega
    rw [e3, e4]; omega
  · have e3 : x = c := by omega
    have e4 : y = d := by omega
    subst e3 e4
    rw [Int.mul_comm]; omega
  · have e3 : c - a = 0 := by omega
    have e4 : d - b = 0 := by omega
    rw [e3, e4]; omega
  · have e3 : c - a = 2 * (x - a) := by omega
    have e4 : d - b = 2 * (y - b) := by omega
    rw [e3, e4]; grind
  · have e3 : c - a = 0 := by omega
    have e4 : d - b = 0 := by omega
    rw [e3, e4]; omega
theorem ratio {C H : Rat} (hC : C.abs ≤ 2048) (hH : 1 / 4 ≤ H) : (C / H).abs < (2 : Rat) ^ (1022 : Int) := by
  have Hn : H ≠ 0 := by grind
  have q1 : C / H * H = C := by rw [Rat.div_def, Rat.mul_assoc, Rat.inv_mul_cancel _ Hn, Rat.mul_one]
  have b1 := div_bound (Q := 8192) (A := 2048) (D := 1 / 4) q1 hC (by rw [Rat.abs_of_nonneg (by grind)]; exact hH) (by grind) (by grind) (by grind)
  have h6 := p2_le (show (14 : Int) ≤ 1022 by decide)
  have h8 : (2 : Rat) ^ (14 : Int) = 16384 := by rw [show (14 : Int) = ((14 : Nat) : Int) by rfl, p2_nat]; rfl
  grind
theorem foot_lit : ∃ x : Rat, Is 4571153621781053440 x ∧ 0 < x := by
  have := is_num (w := 4571153621781053440) (m := 4503599627370496) (n := 60) (by decide) (by decide)
  have e : ((2 ^ 60 : Nat) : Rat) = 1152921504606846976 := rfl
  have e2 : ((4503599627370496 : Nat) : Rat) = 4503599627370496 := rfl
  rw [e, e2] at this
  exact ⟨_, this, by grind⟩
theorem main_true {f1 f2 t1 t2 z1 z2 : Nat} {a b c d x y : Int} (if1 : Is f1 (a : Rat)) (if2 : Is f2 (b : Rat)) (it1 : Is t1 (c : Rat)) (it2 : Is t2 (d : Rat)) (iz1 : Is z1 (x : Rat)) (iz2 : Is z2 (y : Rat))
    (na : a.natAbs ≤ 16) (nb : b.natAbs ≤ 16) (nc : c.natAbs ≤ 16) (nd : d.natAbs ≤ 16) (nx : x.natAbs ≤ 16) (ny : y.natAbs ≤ 16) (h : (c - a) * (y - b) - (d - b) * (x - a) ≠ 0)
    {m1 m2 : Nat} (im1 : Hv m1 (a + c)) (im2 : Hv m2 (b + d)) :
    ∃ v1 v2 p1 p2 q1 q2 s1 s2 e1 e2, (∀ (R : Type) (k : Nat → Nat → Option R), OK1 R f1 f2 t1 t2 0 z1 z2 k = k v1 v2) ∧ (∀ (R : Type) (k : Nat → Nat → Option R), OK1 R f1 f2 m1 m2 0 z1 z2 k = k p1 p2) ∧ (∀ (R : Type) (k : Nat → Nat → Option R), OK1 R m1 m2 t1 t2 0 z1 z2 k = k q1 q2) ∧
      fbF .add p1 q1 = some s1 ∧ fbF .add p2 q2 = some s2 ∧ fbF .sub v1 s1 = some e1 ∧ fbF .sub v2 s2 = some e2 ∧ leF (absW e1) 4427038433705197568 = true ∧ leF (absW e2) 4427038433705197568 = true := by
  obtain ⟨c1, c2, c3, c4, c5, c6⟩ := cross_ne h
  have cv : ∀ {n p : Int} {x y : Rat}, ((n : Int) : Rat) / 2 = x → x = y → ((n : Int) : Rat) / 2 = y := fun h g => h.trans g
  have k1 : ((2 * c - 2 * a : Int) : Rat) / 2 = (c : Rat) - a := by push_cast; grind
  have k2 : ((2 * d - 2 * b : Int) : Rat) / 2 = (d : Rat) - b := by push_cast; grind
  have k3 : ((2 * x - 2 * a : Int) : Rat) / 2 = (x : Rat) - a := by push_cast; grind
  have k4 : ((2 * y - 2 * b : Int) : Rat) / 2 = (y : Rat) - b := by push_cast; grind
  have k5 : ((a + c - 2 * a : Int) : Rat) / 2 = ((c : Rat) - a) / 2 := by push_cast; grind
  have k6 : ((b + d - 2 * b : Int) : Rat) / 2 = ((d : Rat) - b) / 2 := by push_cast; grind
  have k7 : ((2 * c - (a + c) : Int) : Rat) / 2 = ((c : Rat) - a) / 2 := by push_cast; grind
  have k8 : ((2 * d - (b + d) : Int) : Rat) / 2 = ((d : Rat) - b) / 2 := by push_cast; grind
  have k9 : ((2 * x - (a + c) : Int) : Rat) / 2 = (x : Rat) - a - ((c : Rat) - a) / 2 := by push_cast; grind
  have k10 : ((2 * y - (b + d) : Int) : Rat) / 2 = (y : Rat) - b - ((d : Rat) - b) / 2 := by push_cast; grind
  have t1' := sq_top (N := 64) (p := 2 * c - 2 * a) (nab_sub (nab_32 nc) (nab_32 na)) n64
  have t2' := sq_top (N := 64) (p := 2 * d - 2 * b) (nab_sub (nab_32 nd) (nab_32 nb)) n64
  rw [k1] at t1'
  rw [k2] at t2'
  have hc : 1 ≤ ((c : Rat) - a) * (y - b) - (d - b) * (x - a) ∨ ((c : Rat) - a) * (y - b) - (d - b) * (x - a) ≤ -1 := by
    have e : ((c : Rat) - a) * (y - b) - (d - b) * (x - a) = (((c - a) * (y - b) - (d - b) * (x - a) : Int) : Rat) := by push_cast; rfl
    rw [e]
    have := abs_int_ge h
    generalize ((((c - a) * (y - b) - (d - b) * (x - a) : Int)) : Rat) = v at *
    rcases Rat.le_total (a := 0) (b := v) with g | g
    · rw [Rat.abs_of_nonneg g] at this; exact .inl this
    · rw [Rat.abs_of_nonpos g] at this; exact .inr (by grind)
  obtain ⟨L, U1, U2, D, Y, E, u, cc, dd, yy, ee, sn, fk⟩ := one_seen (B := 4526 / 100) (m := 142) (hv_of if1) (hv_of if2) (hv_of it1) (hv_of it2) (hv_of iz1) (hv_of iz2) (nab_32 na) (nab_32 nb) (nab_32 nc) (nab_32 nd) (nab_32 nx) (nab_32 ny) c1 c2 c3 k1 k2 k3 k4
    (by grind) (by grind) (by grind) (by grind) (by grind)
  obtain ⟨L', U1', U2', D', Y', E', u', cc', dd', yy', ee', sn', fk'⟩ := one_seen (B := 2263 / 100) (m := 106) (hv_of if1) (hv_of if2) im1 im2 (hv_of iz1) (hv_of iz2) (nab_32 na) (nab_32 nb) (nab_s na nc) (nab_s nb nd) (nab_32 nx) (nab_32 ny) c4 c2 c5 k5 k6 k3 k4
    (by grind) (by grind) (by grind) (by grind) (by grind)
  obtain ⟨L'', U1'', U2'', D'', Y'', E'', u'', cc'', dd'', yy'', ee'', sn'', fk''⟩ := one_seen (B := 2263 / 100) (m := 106) im1 im2 (hv_of it1) (hv_of it2) (hv_of iz1) (hv_of iz2) (nab_s na nc) (nab_s nb nd) (nab_32 nc) (nab_32 nd) (nab_32 nx) (nab_32 ny) c6 c5 c3 k7 k8 k9 k10
    (by grind) (by grind) (by grind) (by grind) (by grind)
  obtain ⟨v1, v2, p1, p2, q1, q2, s1, s2, e1, e2, g1, g2, g3, r⟩ := three_seen sn sn' sn'' hc
  exact ⟨v1, v2, p1, p2, q1, q2, s1, s2, e1, e2, fun R k => (fk R k).trans (g1 R k), fun R k => (fk' R k).trans (g2 R k), fun R k => (fk'' R k).trans (g3 R k), r⟩
theorem halvesR_true {f1 f2 t1 t2 z1 z2 : Nat} {a b c d x y : Int} (if1 : Is f1 (a : Rat)) (if2 : Is f2 (b : Rat)) (it1 : Is t1 (c : Rat)) (it2 : Is t2 (d : Rat)) (iz1 : Is z1 (x : Rat)) (iz2 : Is z2 (y : Rat))
    (na : a.natAbs ≤ 16) (nb : b.natAbs ≤ 16) (nc : c.natAbs ≤ 16) (nd : d.natAbs ≤ 16) (nx : x.natAbs ≤ 16) (ny : y.natAbs ≤ 16) (h0 : c - a ≠ 0 ∨ d - b ≠ 0) {R : Type} (k : Bool → Option R) :
    halvesR hypK absK OK1 f1 f2 t1 t2 z1 z2 k = k true := by
  have b1 := nab_d nc na
  have b2 := nab_d nd nb
  have b3 := nab_d ny nb
  have b4 := nab_d nx na
  have b5 := nab_p b1 b3
  have b6 := nab_p b2 b4
  have b7 := nab_q b5 b6
  have up : ∀ {n : Int}, n.natAbs ≤ 32 → n.natAbs < 2 ^ 53 := fun {n} h => by omega
  have up2 : ∀ {n : Int}, n.natAbs ≤ 1024 → n.natAbs < 2 ^ 53 := fun {n} h => by omega
  have up3 : ∀ {n : Int}, n.natAbs ≤ 32 → n.natAbs ≤ 64 := fun {n} h => by omega
  obtain ⟨dx, g1, i1⟩ := sub_int it1 if1 (up b1)
  obtain ⟨dy, g2, i2⟩ := sub_int it2 if2 (up b2)
  obtain ⟨sy, g3, i3⟩ := sub_int iz2 if2 (up b3)
  obtain ⟨p, g4, i4⟩ := mul_int i1 i3 (up2 b5)
  obtain ⟨sx, g5, i5⟩ := sub_int iz1 if1 (up b4)
  obtain ⟨q, g6, i6⟩ := mul_int i2 i5 (up2 b6)
  obtain ⟨cr, g7, i7⟩ := sub_int i4 i6 (nab_53 b7)
  obtain ⟨hw, H, ih, H1, H2, fh⟩ := hyp_run i1 i2 (up3 b1) (up3 b2) h0
  have ac : ((((c - a) * (y - b) - (d - b) * (x - a) : Int)) : Rat).abs ≤ 2048 := int_le b7 rfl
  have Hn : H ≠ 0 := by grind
  obtain ⟨off, O, g8, i8, r8⟩ := div_is (abs_is i7) ih Hn (ratio (by rw [Rat.abs_of_nonneg (abs_nonneg _)]; exact ac) H1)
  unfold halvesR absK
  rw [bindF_eq g1, bindF_eq g2, bindF_eq g3, bindF_eq g4, bindF_eq g5, bindF_eq g6, bindF_eq g7]
  show hypK R dx dy _ = _
  rw [fh, bindF_eq g8, forceB_eq]
  by_cases hc : (c - a) * (y - b) - (d - b) * (x - a) = 0
  · have z : O = 0 := by
      have e : ((((c - a) * (y - b) - (d - b) * (x - a) : Int)) : Rat).abs / H = 0 := by
        rw [hc]
        show ((0 : Rat)).abs / H = 0
        rw [abs_zero, Rat.div_def, Rat.zero_mul]
      have := r8.rep 0 0 (by decide) (by decide) (by rw [e]; simp)
      rw [this, e]
    obtain ⟨X, iX, X0⟩ := foot_lit
    rw [ltF_is i8 iX, z, decide_eq_true X0]
  · obtain ⟨w1, e1, j1⟩ := int_half if1 (by omega)
    obtain ⟨w2, e2, j2⟩ := int_half it1 (by omega)
    obtain ⟨m1, e3, j3⟩ := hv_add j1 j2 (by omega) (by omega)
    obtain ⟨w3, e4, j4⟩ := int_half if2 (by omega)
    obtain ⟨w4, e5, j5⟩ := int_half it2 (by omega)
    obtain ⟨m2, e6, j6⟩ := hv_add j4 j5 (by omega) (by omega)
    obtain ⟨v1, v2, p1, p2, q1, q2, s1, s2, o1, o2, t1', t2', t3', l1, l2, l3, l4, l5, l6⟩ := main_true if1 if2 it1 it2 iz1 iz2 na nb nc nd nx ny hc j3 j6
    cases ltF off 4571153621781053440 with
    | true => rfl
    | false =>
      simp only
      rw [bindF_eq e1, bindF_eq e2, bindF_eq e3, bindF_eq e4, bindF_eq e5, bindF_eq e6, t1', t2', t3', bindF_eq l1, bindF_eq l2, bindF_eq l3, forceB_eq, l5]
      simp only
      rw [bindF_eq l4, forceB_eq, l6]
theorem whole17_is (n : Int) : ∃ w, Is w ((n.tmod 17 : Int) : Rat) ∧ (n.tmod 17).natAbs ≤ 16 ∧ ∀ (R : Type) (k : Nat → Option R), whole17 R n k = k w := by
  have b : (n.tmod 17).natAbs ≤ 16 := by
    have h1 := Int.tmod_lt_of_pos n (show (0 : Int) < 17 by decide)
    have h2 := Int.lt_tmod_of_pos n (show (0 : Int) < 17 by decide)
    omega
  refine ⟨floatOfInt .f64 (n.tmod 17), ofInt_is (by omega), b, fun R k => ?_⟩
  unfold whole17 whole17B
  rw [fiReal_fair, forceN_eq]
theorem halves_true (a b c d x y : Int) (R : Type) (k : Bool → Option R) : halvesB whole17 hypK absK OK1 R a b c d x y k = k true := by
  obtain ⟨f1, i1, n1, h1⟩ := whole17_is a
  obtain ⟨f2, i2, n2, h2⟩ := whole17_is b
  obtain ⟨t1, i3, n3, h3⟩ := whole17_is c
  obtain ⟨t2, i4, n4, h4⟩ := whole17_is d
  obtain ⟨z1, i5, n5, h5⟩ := whole17_is x
  obtain ⟨z2, i6, n6, h6⟩ := whole17_is y
  unfold halvesB
  rw [h1, h2, h3, h4, h5, h6, forceB_eq, eqF_is i1 i3]
  by_cases e1 : ((a.tmod 17 : Int) : Rat) = ((c.tmod 17 : Int) : Rat)
  · rw [decide_eq_true e1]
    simp only
    rw [forceB_eq, eqF_is i2 i4]
    by_cases e2 : ((b.tmod 17 : Int) : Rat) = ((d.tmod 17 : Int) : Rat)
    · rw [decide_eq_true e2]
    · rw [decide_eq_false e2]
      simp only
      refine halvesR_true i1 i2 i3 i4 i5 i6 n1 n2 n3 n4 n5 n6 (.inr fun g => e2 ?_) k
      rw [show b.tmod 17 = d.tmod 17 by omega]
  · rw [decide_eq_false e1]
    simp only
    have g : halvesR hypK absK OK1 f1 f2 t1 t2 z1 z2 k = k true := halvesR_true i1 i2 i3 i4 i5 i6 n1 n2 n3 n4 n5 n6 (.inl fun g => e1 (by rw [show a.tmod 17 = c.tmod 17 by omega])) k
    rw [forceB_eq]
    cases eqF f2 t2
    · exact g
    · exact g
end Go.Vm
