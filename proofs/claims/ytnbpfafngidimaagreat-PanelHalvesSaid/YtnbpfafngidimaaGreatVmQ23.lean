/- One panel's way to its logarithms, and the whole panel beside its two halves; no conditions. -/
import Derived.Test.YtnbpfafngidimaaGreatVmQ19
namespace Go.Vm
open Ieee
set_option linter.unusedVariables false
set_option linter.unusedSimpArgs false

/-! ### One panel's way to its logarithms -/
def OK1 : KOne := oneX (oneB (cfT WithinK) (ffT withinK) subK mulK lengthK UK conjK powLogK sclK (fCT FiniteK))
def tailO {R : Type} (u c d y e : Nat) (k : Nat → Nat → Option R) : Option R := powLogK R d y fun a1 a2 => powLogK R e y fun b1 b2 => subK R a1 a2 b1 b2 fun v1 v2 => mulK R u c v1 v2 fun m1 m2 =>
  sclK R m1 m2 4594902181429758083 fun r1 r2 => fCT FiniteK R r1 r2 (k r1 r2)
theorem tiny_is : Is 4427038433705197568 (2048 * eps) := by
  have := is_num (w := 4427038433705197568) (m := 4503599627370496) (n := 92) (by decide) (by decide)
  have e : ((2 ^ 92 : Nat) : Rat) = 4951760157141521099596496896 := rfl
  have e2 : ((4503599627370496 : Nat) : Rat) = 4503599627370496 := rfl
  rw [e, e2] at this
  rw [eps_eq, show (2048 * (1 / 2251799813685248) : Rat) = 4503599627370496 * (1 / 4951760157141521099596496896) by grind]
  exact this
theorem sq_int {p q : Int} (h : p ≠ 0 ∨ q ≠ 0) : (1 : Rat) ≤ (p : Rat) * p + (q : Rat) * q := by
  have n1 := sq_nonneg (p : Rat)
  have n2 := sq_nonneg (q : Rat)
  have one : ∀ {n : Int}, n ≠ 0 → (1 : Rat) ≤ (n : Rat) * n := fun {n} hn => by
    have : (1 : Int) ≤ n * n := by
      rcases Int.lt_or_gt_of_ne hn with g | g
      · have := Int.mul_le_mul_of_nonneg_right (show (1 : Int) ≤ -n by omega) (show (0 : Int) ≤ -n by omega)
        have e : -n * -n = n * n := Int.neg_mul_neg n n
        omega
      · have := Int.mul_le_mul_of_nonneg_right (show (1 : Int) ≤ n by omega) (show (0 : Int) ≤ n by omega)
        omega
    have t : ((1 : Int) : Rat) ≤ ((n * n : Int) : Rat) := by exact_mod_cast this
    rw [Rat.intCast_mul] at t
    exact t
  rcases h with h | h
  · have := one h; grind
  · have := one h; grind
theorem sq_half {p q : Int} (h : p ≠ 0 ∨ q ≠ 0) : (1 / 4 : Rat) ≤ (p : Rat) / 2 * ((p : Rat) / 2) + (q : Rat) / 2 * ((q : Rat) / 2) := by
  have := sq_int h
  grind
theorem sq_top {p : Int} {N : Nat} {B : Rat} (h : p.natAbs ≤ N) (hN : ((N : Nat) : Rat) = 2 * B) : (p : Rat) / 2 * ((p : Rat) / 2) ≤ B * B := by
  have h1 := hv_abs h hN
  have h2 := abs_nonneg ((p : Rat) / 2)
  have := mul_mono' h1 h1 h2 (by grind)
  rw [← abs_mul, sq_abs] at this
  exact this
theorem n64 : ((64 : Nat) : Rat) = 2 * 32 := by
  rw [show ((64 : Nat) : Rat) = 64 from rfl]
  grind
theorem Rnd.neg {x z : Rat} (h : Rnd x z) : Rnd (-x) (-z) := by
  obtain ⟨h1, h2⟩ := h
  refine ⟨?_, fun K q k1 k2 e => ?_⟩
  · rw [show -z - -x = -(z - x) by grind, abs_neg, abs_neg]; exact h1
  · have := h2 (-K) q (by omega) k2 (by rw [Rat.intCast_neg]; grind)
    grind
theorem unit_le {U V L W : Rat} (hL : 0 < L) (s : W.abs + V.abs ≤ 14143 / 10000 * L) (d : (U * L - W).abs ≤ eps / 2 * W.abs + tn * L) : U.abs ≤ 3 / 2 := by
  refine le_of_mul hL ?_
  have e12 := eps12
  have n2 := abs_nonneg V
  have t := abs_add_le (U * L - W) W
  rw [show U * L - W + W = U * L by grind, abs_mul, Rat.abs_of_nonneg (Rat.le_of_lt hL)] at t
  have m1 := Rat.mul_le_mul_of_nonneg_right e12 (abs_nonneg W)
  have m2 := Rat.mul_le_mul_of_nonneg_right tn_small (Rat.le_of_lt hL)
  have m3 := Rat.mul_le_mul_of_nonneg_right e12 (Rat.le_of_lt hL)
  generalize W.abs = z1 at *
  generalize V.abs = z2 at *
  grind
theorem rnd_lim {x z : Rat} (h1 : Rnd x z) (h2 : x.abs ≤ 64) : z.abs ≤ 65 := by
  have f := h1.fine
  have e12 := eps12
  have ep := eps_pos
  have t := abs_add_le (z - x) x
  rw [show z - x + x = z by grind] at t
  have m := Rat.mul_le_mul_of_nonneg_right h2 (show 0 ≤ eps / 4 by grind)
  have := tn_small
  grind
theorem pr_lim {U S : Rat} (h1 : U.abs ≤ 3 / 2) (h2 : S.abs ≤ 32) : (U * S).abs ≤ 64 := by
  rw [abs_mul]; have := mul_mono' h1 h2 (abs_nonneg _) (by grind); grind
theorem mul_turned {u1 c2 s1 s2 : Nat} {L U1 U2 W1 W2 S1 S2 : Rat} (iu1 : Is u1 U1) (ic2 : Is c2 (-U2)) (is1 : Is s1 S1) (is2 : Is s2 S2) (bs1 : S1.abs ≤ 32) (bs2 : S2.abs ≤ 32) (p : Pan L W1 W2)
    (du1 : (U1 * L - W1).abs ≤ eps / 2 * W1.abs + tn * L) (du2 : (U2 * L - W2).abs ≤ eps / 2 * W2.abs + tn * L) :
    ∃ d1 yy D Y, Is d1 D ∧ Is yy Y ∧ Turned 46 L W1 W2 S1 S2 D Y ∧ ∀ (R : Type) (k : Nat → Nat → Option R), (mulK R u1 c2 s1 s2 fun d1 d2 => bindF (fbF .add d2 0) fun y => k d1 y) = k d1 yy := by
  have hL := p.pos
  have sm := p.sum
  have U1b := unit_le hL sm du1
  have U2b := unit_le hL (by rw [Rat.add_comm]; exact sm) du2
  have U2n : (-U2).abs ≤ 3 / 2 := by rw [abs_neg]; exact U2b
  have du2n : (-U2 * L - -W2).abs ≤ eps / 2 * (-W2).abs + tn * L := by
    rw [show -U2 * L - -W2 = -(U2 * L - W2) by grind, abs_neg, abs_neg]; exact du2
  have q1 := pr_lim U1b bs1
  have q2 := pr_lim U2n bs2
  have q3 := pr_lim U1b bs2
  have q4 := pr_lim U2n bs1
  obtain ⟨p1, P1, h1, j1, r1⟩ := mul_is iu1 is1 (lt_p2_1023 (Rat.le_trans q1 (by grind)))
  obtain ⟨p2, P2, h2, j2, r2⟩ := mul_is ic2 is2 (lt_p2_1023 (Rat.le_trans q2 (by grind)))
  obtain ⟨p3, P3, h3, j3, r3⟩ := mul_is iu1 is2 (lt_p2_1023 (Rat.le_trans q3 (by grind)))
  obtain ⟨p4, P4, h4, j4, r4⟩ := mul_is ic2 is1 (lt_p2_1023 (Rat.le_trans q4 (by grind)))
  have l1 := rnd_lim r1 q1
  have l2 := rnd_lim r2 q2
  have l3 := rnd_lim r3 q3
  have l4 := rnd_lim r4 q4
  have b1 : (P1 - P2).abs ≤ 130 := by
    have := abs_add_le P1 (-P2)
    rw [abs_neg, ← Rat.sub_eq_add_neg] at this
    grind
  have b2 : (P3 + P4).abs ≤ 130 := by
    have := abs_add_le P3 P4
    grind
  obtain ⟨d1, D, h5, j5, r5⟩ := sub_is j1 j2 (lt_p2_1023 (Rat.le_trans b1 (by grind)))
  obtain ⟨d2, Y, h6, j6, r6⟩ := add_is j3 j4 (lt_p2_1023 (Rat.le_trans b2 (by grind)))
  have r2' : Rnd (U2 * S2) (-P2) := by
    have := r2.neg
    rw [show -(-U2 * S2) = U2 * S2 by grind] at this
    exact this
  rw [Rat.sub_eq_add_neg] at r5
  have T1 := turned_one du1 du2 r1 r2' r5 bs1 bs2 p
  have p' : Pan L W1 (-W2) := ⟨hL, by rw [show W1 * W1 + -W2 * -W2 = W1 * W1 + W2 * W2 by grind]; exact p.near⟩
  have T2 := turned_one du1 du2n r3 r4 r6 bs2 bs1 p'
  rw [show W1 * S2 + -W2 * S1 = W1 * S2 - W2 * S1 by grind] at T2
  have b3 : Y.abs ≤ 500 := by
    have f := r6.fine
    have e12 := eps12
    have ep := eps_pos
    have t := abs_add_le (Y - (P3 + P4)) (P3 + P4)
    rw [show Y - (P3 + P4) + (P3 + P4) = Y by grind] at t
    have m := Rat.mul_le_mul_of_nonneg_right b2 (show 0 ≤ eps / 4 by grind)
    have := tn_small
    grind
  obtain ⟨yy, h7, j7⟩ := add_zero_is j6 b3
  refine ⟨d1, yy, D, Y, j5, j7, ⟨T1, T2⟩, fun R k => ?_⟩
  unfold mulK
  rw [bindF_eq h1, bindF_eq h2, bindF_eq h5, bindF_eq h3, bindF_eq h4, bindF_eq h6]
  exact bindF_eq h7
theorem subK_run {a b c d x y : Nat} (h1 : fbF .sub a c = some x) (h2 : fbF .sub b d = some y) {R : Type} {k : Nat → Nat → Option R} : subK R a b c d k = k x y := by
  unfold subK
  rw [bindF_eq h1, bindF_eq h2]
theorem one_eq {f1 f2 t1 t2 z1 z2 w1 w2 s1 s2 l u1 u2 d1 yy e : Nat} (wi1 : ∀ {R : Type} (k : Bool → Option R), WithinK R f1 f2 4787326403894837248 k = k true) (wi2 : ∀ {R : Type} (k : Bool → Option R), WithinK R t1 t2 4787326403894837248 k = k true)
    (wi3 : ∀ {R : Type} (k : Bool → Option R), WithinK R z1 z2 4787326403894837248 k = k true) (g1 : fbF .sub t1 f1 = some w1) (g2 : fbF .sub t2 f2 = some w2) (g3 : fbF .sub z1 f1 = some s1) (g4 : fbF .sub z2 f2 = some s2)
    (fl : ∀ (R : Type) (k : Nat → Option R), lengthK R w1 w2 k = k l) (fu : ∀ (R : Type) (k : Nat → Nat → Option R), UK R w1 w2 k = k u1 u2) (hge : geF l 4427038433705197568 = true)
    (mid1 : ∃ p q r, fbF .quo f1 4611686018427387904 = some p ∧ fbF .quo t1 4611686018427387904 = some q ∧ fbF .add p q = some r) (mid2 : ∃ p q r, fbF .quo f2 4611686018427387904 = some p ∧ fbF .quo t2 4611686018427387904 = some q ∧ fbF .add p q = some r)
    (hm : ∀ (R : Type) (k : Nat → Nat → Option R), (mulK R u1 (Op.negFloat .f64 u2) s1 s2 fun d1 d2 => bindF (fbF .add d2 0) fun y => k d1 y) = k d1 yy) (h8 : fbF .sub d1 l = some e)
    (R : Type) (k : Nat → Nat → Option R) : OK1 R f1 f2 t1 t2 0 z1 z2 k = tailO u1 (Op.negFloat .f64 u2) d1 yy e k := by
  obtain ⟨m1, m2, m3, h9, h10, h11⟩ := mid1
  obtain ⟨m4, m5, m6, h12, h13, h14⟩ := mid2
  show oneB (cfT WithinK) (ffT withinK) subK mulK lengthK UK conjK powLogK sclK (fCT FiniteK) R f1 f2 t1 t2 0 z1 z2 (fun _ => none) k = _
  unfold oneB cfT ffT
  rw [wi1]
  show WithinK R t1 t2 _ _ = _
  rw [wi2]
  show withinK R 0 _ _ = _
  rw [withinK_is is_zero (by rw [show ((0 : Int) : Rat) = 0 from rfl, abs_zero]; grind)]
  show subK R t1 t2 f1 f2 _ = _
  rw [subK_run g1 g2, fl, forceB_eq, hge]
  simp only
  rw [fu, bindF_eq h9, bindF_eq h10, bindF_eq h11, bindF_eq h12, bindF_eq h13, bindF_eq h14, wi3]
  simp only [yesB]
  unfold conjK
  rw [forceN_eq]
  simp only
  rw [subK_run g3 g4]
  refine (hm R _).trans ?_
  unfold tailO
  congr 1
  funext a1 a2
  rw [bindF_eq h8]
theorem one_start {f1 f2 t1 t2 z1 z2 : Nat} {a b c d x y : Int} (hf1 : Hv f1 a) (hf2 : Hv f2 b) (ht1 : Hv t1 c) (ht2 : Hv t2 d) (hz1 : Hv z1 x) (hz2 : Hv z2 y)
    (na : a.natAbs ≤ 32) (nb : b.natAbs ≤ 32) (nc : c.natAbs ≤ 32) (nd : d.natAbs ≤ 32) (nx : x.natAbs ≤ 32) (ny : y.natAbs ≤ 32) (hw : c - a ≠ 0 ∨ d - b ≠ 0) (hr : x - a ≠ 0 ∨ y - b ≠ 0) :
    ∃ (L U1 U2 D Y E : Rat) (u1 c2 d1 yy e : Nat), Pan L (((c - a : Int) : Rat) / 2) (((d - b : Int) : Rat) / 2) ∧
      (U1 * L - ((c - a : Int) : Rat) / 2).abs ≤ eps / 2 * (((c - a : Int) : Rat) / 2).abs + tn * L ∧ (U2 * L - ((d - b : Int) : Rat) / 2).abs ≤ eps / 2 * (((d - b : Int) : Rat) / 2).abs + tn * L ∧
      Is u1 U1 ∧ Is c2 (-U2) ∧ Is d1 D ∧ Is yy Y ∧ Is e E ∧ Turned 46 L (((c - a : Int) : Rat) / 2) (((d - b : Int) : Rat) / 2) (((x - a : Int) : Rat) / 2) (((y - b : Int) : Rat) / 2) D Y ∧
      (∀ m, 46 + 161 / 100 * L + 23 + 1 / 1000 ≤ m → Turned m L (((c - a : Int) : Rat) / 2) (((d - b : Int) : Rat) / 2) (((x - c : Int) : Rat) / 2) (((y - d : Int) : Rat) / 2) E Y) ∧
      ∀ (R : Type) (k : Nat → Nat → Option R), OK1 R f1 f2 t1 t2 0 z1 z2 k = tailO u1 c2 d1 yy e k := by
  obtain ⟨w1, g1, iw1⟩ := hv_sub ht1 hf1 (nab_500 nc) (nab_500 na)
  obtain ⟨w2, g2, iw2⟩ := hv_sub ht2 hf2 (nab_500 nd) (nab_500 nb)
  obtain ⟨s1, g3, is1⟩ := hv_sub hz1 hf1 (nab_500 nx) (nab_500 na)
  obtain ⟨s2, g4, is2⟩ := hv_sub hz2 hf2 (nab_500 ny) (nab_500 nb)
  obtain ⟨l, L, u1, u2, U1, U2, il, hL, dL, iu1, iu2, du1, du2, fl, fu⟩ := len_unit iw1 iw2 (nab_128 nc na) (nab_128 nd nb) hw
  have p : Pan L (((c - a : Int) : Rat) / 2) (((d - b : Int) : Rat) / 2) := ⟨hL, dL⟩
  have bs1 := hv_abs (N := 64) (a := x - a) (nab_sub nx na) n64
  have bs2 := hv_abs (N := 64) (a := y - b) (nab_sub ny nb) n64
  have tw1 := sq_top (N := 64) (p := c - a) (nab_sub nc na) n64
  have tw2 := sq_top (N := 64) (p := d - b) (nab_sub nd nb) n64
  have ts1 := sq_top (N := 64) (p := x - a) (nab_sub nx na) n64
  have ts2 := sq_top (N := 64) (p := y - b) (nab_sub ny nb) n64
  have lw := sq_half hw
  have ls := sq_half hr
  have e1 : ((x - c : Int) : Rat) / 2 = ((x - a : Int) : Rat) / 2 - ((c - a : Int) : Rat) / 2 := by simp only [Rat.intCast_sub]; grind
  have e2 : ((y - d : Int) : Rat) / 2 = ((y - b : Int) : Rat) / 2 - ((d - b : Int) : Rat) / 2 := by simp only [Rat.intCast_sub]; grind
  have ic2 := neg_is iu2
  rw [e1, e2]
  unfold Hv at iw1 iw2 is1 is2
  have mid1 := mids_come hf1 ht1 (nab_500 na) (nab_500 nc)
  have mid2 := mids_come hf2 ht2 (nab_500 nb) (nab_500 nd)
  have wi1 : ∀ {R : Type} (k : Bool → Option R), WithinK R f1 f2 4787326403894837248 k = k true := fun k => hv_Within hf1 hf2 (nab_500 na) (nab_500 nb) k
  have wi2 : ∀ {R : Type} (k : Bool → Option R), WithinK R t1 t2 4787326403894837248 k = k true := fun k => hv_Within ht1 ht2 (nab_500 nc) (nab_500 nd) k
  have wi3 : ∀ {R : Type} (k : Bool → Option R), WithinK R z1 z2 4787326403894837248 k = k true := fun k => hv_Within hz1 hz2 (nab_500 nx) (nab_500 ny) k
  generalize ((c - a : Int) : Rat) / 2 = W1 at *
  generalize ((d - b : Int) : Rat) / 2 = W2 at *
  generalize ((x - a : Int) : Rat) / 2 = S1 at *
  generalize ((y - b : Int) : Rat) / 2 = S2 at *
  have L46 : L ≤ 46 := p.top (by grind) (by grind)
  have e12 := eps12
  have ep := eps_pos
  have Lge : 1 / 3 ≤ L := le_of_sq_le (Rat.le_of_lt hL) (by have := p.bounds.1; grind)
  obtain ⟨d1, yy, D, Y, j5, j7, T, hm⟩ := mul_turned iu1 ic2 is1 is2 bs1 bs2 p du1 du2
  obtain ⟨D46, Y46, q1, q2⟩ := turned_size T p (by grind) (by grind) ls (by grind)
  have DL : (D - L).abs ≤ 92 := by have := abs_le_iff.1 D46; exact abs_le_iff.2 ⟨by grind, by grind⟩
  obtain ⟨e, E, h8, j8, r8⟩ := sub_is j5 il (lt_p2_1023 (by grind))
  have hge : geF l 4427038433705197568 = true := by rw [geF_is il tiny_is]; exact decide_eq_true (by grind)
  exact ⟨L, U1, U2, D, Y, E, u1, Op.negFloat .f64 u2, d1, yy, e, p, du1, du2, iu1, ic2, j5, j7, j8, T, fun m hm => T.back r8 DL p (by grind) hm, one_eq wi1 wi2 wi3 g1 g2 g3 g4 fl fu hge mid1 mid2 hm h8⟩
end Go.Vm
namespace Go.Vm
open Ieee
set_option linter.unusedVariables false
set_option linter.unusedSimpArgs false

/-! ### What a panel's way comes to -/
def kap : Rat := 5734161139222659 / 36028797018963968
theorem kap_is : Is 4594902181429758083 kap := by
  have := is_num (w := 4594902181429758083) (m := 5734161139222659) (n := 55) (by decide) (by decide)
  have e : ((2 ^ 55 : Nat) : Rat) = 36028797018963968 := rfl
  have e2 : ((5734161139222659 : Nat) : Rat) = 5734161139222659 := rfl
  rw [e, e2] at this
  rw [show kap = 5734161139222659 * (1 / 36028797018963968) by unfold kap; grind]
  exact this
theorem kap_pos : 0 ≤ kap := by unfold kap; grind
theorem kap_le : kap ≤ 15916 / 100000 := by unfold kap; grind
theorem rnd_B {x z B : Rat} (h : Rnd x z) (hx : x.abs ≤ B) (hB : 1 / 1000 ≤ B) : (z - x).abs ≤ 26 / 100 * B * eps ∧ z.abs ≤ B * (1001 / 1000) := by
  have f := h.fine
  have ts := tn_small
  have ep := eps_pos
  have e6 := eps6
  have m := Rat.mul_le_mul_of_nonneg_right hx (show 0 ≤ eps / 4 by grind)
  have m2 := Rat.mul_le_mul_of_nonneg_right hB (Rat.le_of_lt ep)
  have m3 := Rat.mul_le_mul_of_nonneg_left e6 (show 0 ≤ B by grind)
  have t := abs_add_le (z - x) x
  rw [show z - x + x = z by grind] at t
  exact ⟨by grind, by grind⟩
theorem comb {U V X Y x y P Q z : Rat} (hUV : U.abs + V.abs ≤ 14144 / 10000) (hX : X.abs ≤ 16) (hY : Y.abs ≤ 16) (hx : (x - X).abs ≤ 42 / 10 * eps) (hy : (y - Y).abs ≤ 42 / 10 * eps)
    (hP : Rnd (U * x) P) (hQ : Rnd (V * y) Q) (hz : Rnd (P + Q) z) : (z - (U * X + V * Y)).abs ≤ 18 * eps ∧ z.abs ≤ 23 := by
  have ts := tn_small
  have ep := eps_pos
  have e6 := eps6
  have nU := abs_nonneg U
  have nV := abs_nonneg V
  have x1 : x.abs ≤ 1601 / 100 := by
    have t := abs_add_le (x - X) X
    rw [show x - X + X = x by grind] at t
    grind
  have y1 : y.abs ≤ 1601 / 100 := by
    have t := abs_add_le (y - Y) Y
    rw [show y - Y + Y = y by grind] at t
    grind
  have a1 : (U * x).abs ≤ U.abs * (1601 / 100) := by rw [abs_mul]; exact Rat.mul_le_mul_of_nonneg_left x1 nU
  have a2 : (V * y).abs ≤ V.abs * (1601 / 100) := by rw [abs_mul]; exact Rat.mul_le_mul_of_nonneg_left y1 nV
  have f1 := hP.fine
  have f2 := hQ.fine
  have g1 := Rat.mul_le_mul_of_nonneg_right a1 (show 0 ≤ eps / 4 by grind)
  have g2 := Rat.mul_le_mul_of_nonneg_right a2 (show 0 ≤ eps / 4 by grind)
  have g3 := Rat.mul_le_mul_of_nonneg_right hUV (Rat.le_of_lt ep)
  have t1 := abs_add_le (P - U * x) (U * x)
  rw [show P - U * x + U * x = P by grind] at t1
  have t2 := abs_add_le (Q - V * y) (V * y)
  rw [show Q - V * y + V * y = Q by grind] at t2
  have t3 := abs_add_le P Q
  have s : (P + Q).abs ≤ 228 / 10 := by grind
  obtain ⟨r1, r2⟩ := rnd_B hz s (by grind)
  have b1 : (U * (x - X)).abs ≤ U.abs * (42 / 10 * eps) := by rw [abs_mul]; exact Rat.mul_le_mul_of_nonneg_left hx nU
  have b2 : (V * (y - Y)).abs ≤ V.abs * (42 / 10 * eps) := by rw [abs_mul]; exact Rat.mul_le_mul_of_nonneg_left hy nV
  have c1 := abs_add_le (z - (P + Q)) (P - U * x + (Q - V * y) + (U * (x - X) + V * (y - Y)))
  rw [show z - (P + Q) + (P - U * x + (Q - V * y) + (U * (x - X) + V * (y - Y))) = z - (U * X + V * Y) by grind] at c1
  have c2 := abs_add_le (P - U * x + (Q - V * y)) (U * (x - X) + V * (y - Y))
  have c3 := abs_add_le (P - U * x) (Q - V * y)
  have c4 := abs_add_le (U * (x - X)) (V * (y - Y))
  refine ⟨?_, by grind⟩
  generalize (z - (P + Q)).abs = v1 at *
  generalize (P - U * x).abs = v2 at *
  generalize (Q - V * y).abs = v3 at *
  generalize (U * (x - X)).abs = v4 at *
  generalize (V * (y - Y)).abs = v5 at *
  generalize (U * x).abs = v6 at *
  generalize (V * y).abs = v7 at *
  generalize U.abs = v8 at *
  generalize V.abs = v9 at *
  clear t1 t2 t3 s x1 y1 hx hy hX hY hP hQ hz r2
  grind
theorem diff_near {a b : Nat} {A B C : Rat} (ha : Is a A) (hb : Is b B) (h1 : A.abs ≤ 8) (h2 : B.abs ≤ 8) : ∃ v V, fbF .sub a b = some v ∧ Is v V ∧ (V - (A - B)).abs ≤ 42 / 10 * eps ∧ (A - B).abs ≤ 16 := by
  have t := abs_add_le A (-B)
  rw [abs_neg, ← Rat.sub_eq_add_neg] at t
  obtain ⟨v, V, e, i, r⟩ := sub_is ha hb (lt_p2_1023 (by grind))
  have ep := eps_pos
  have := (rnd_B r (B := 16) (by grind) (by grind)).1
  exact ⟨v, V, e, i, by grind, by grind⟩
theorem scaled_near {m : Nat} {M T : Rat} (hm : Is m M) (h : (M - T).abs ≤ 18 * eps) (hM : M.abs ≤ 23) : ∃ r Z, fbF .mul m 4594902181429758083 = some r ∧ Is r Z ∧ (Z - kap * T).abs ≤ 4 * eps ∧ Z.abs ≤ 4 := by
  have ep := eps_pos
  have k0 := kap_pos
  have k1 := kap_le
  have ak : kap.abs = kap := Rat.abs_of_nonneg k0
  have b : (M * kap).abs ≤ 367 / 100 := by
    rw [abs_mul, ak]; have := mul_mono' hM k1 k0 (by grind); grind
  obtain ⟨r, Z, e, i, q⟩ := mul_is hm kap_is (lt_p2_1023 (by grind))
  obtain ⟨q1, q2⟩ := rnd_B q b (by grind)
  refine ⟨r, Z, e, i, ?_, by grind⟩
  have t := abs_add_le (Z - M * kap) ((M - T) * kap)
  rw [show Z - M * kap + (M - T) * kap = Z - kap * T by grind, abs_mul, ak] at t
  have := mul_mono' h k1 k0 (by grind)
  grind
theorem mulK_run {a b c d p q r s x y : Nat} (h1 : fbF .mul a c = some p) (h2 : fbF .mul b d = some q) (h3 : fbF .sub p q = some x) (h4 : fbF .mul a d = some r) (h5 : fbF .mul b c = some s) (h6 : fbF .add r s = some y)
    {R : Type} {k : Nat → Nat → Option R} : mulK R a b c d k = k x y := by
  unfold mulK
  rw [bindF_eq h1, bindF_eq h2, bindF_eq h3, bindF_eq h4, bindF_eq h5, bindF_eq h6]
theorem sclK_run {a b c x y : Nat} (h1 : fbF .mul a c = some x) (h2 : fbF .mul b c = some y) {R : Type} {k : Nat → Nat → Option R} : sclK R a b c k = k x y := by
  unfold sclK
  rw [bindF_eq h1, bindF_eq h2]
theorem tail_run {u c d y e a1 a2 b1 b2 : Nat} {U1 U2 A1 A2 B1 B2 : Rat} (iu : Is u U1) (ic : Is c (-U2)) (hUV : U1.abs + U2.abs ≤ 14144 / 10000) (i1 : Is a1 A1) (i2 : Is a2 A2) (i3 : Is b1 B1) (i4 : Is b2 B2)
    (h1 : A1.abs ≤ 8) (h2 : A2.abs ≤ 8) (h3 : B1.abs ≤ 8) (h4 : B2.abs ≤ 8) (fa : ∀ (R : Type) (f : Nat → Nat → Option R), powLogK R d y f = f a1 a2) (fb : ∀ (R : Type) (f : Nat → Nat → Option R), powLogK R e y f = f b1 b2) :
    ∃ r1 r2 R1 R2, Is r1 R1 ∧ Is r2 R2 ∧ (R1 - kap * (U1 * (A1 - B1) + U2 * (A2 - B2))).abs ≤ 4 * eps ∧ (R2 - kap * (U1 * (A2 - B2) + -U2 * (A1 - B1))).abs ≤ 4 * eps ∧ R1.abs ≤ 4 ∧ R2.abs ≤ 4 ∧
      ∀ (R : Type) (k : Nat → Nat → Option R), tailO u c d y e k = k r1 r2 := by
  obtain ⟨v1, V1, g1, j1, n1, m1⟩ := diff_near (C := 0) i1 i3 h1 h3
  obtain ⟨v2, V2, g2, j2, n2, m2⟩ := diff_near (C := 0) i2 i4 h2 h4
  have ep := eps_pos
  have e6 := eps6
  have nU := abs_nonneg U1
  have nV := abs_nonneg U2
  have lim : ∀ {V T : Rat}, (V - T).abs ≤ 42 / 10 * eps → T.abs ≤ 16 → V.abs ≤ 17 := fun {V T} h h' => by
    have t := abs_add_le (V - T) T
    rw [show V - T + T = V by grind] at t
    grind
  have pr : ∀ {U V : Rat}, U.abs ≤ 2 → V.abs ≤ 17 → (U * V).abs ≤ 34 := fun {U V} h h' => by
    rw [abs_mul]; have := mul_mono' h h' (abs_nonneg _) (by grind); grind
  have nn : (-U2).abs = U2.abs := abs_neg _
  have w1 := lim n1 m1
  have w2 := lim n2 m2
  have q1 := pr (U := U1) (by grind) w1
  have q2 := pr (U := -U2) (by grind) w2
  have q3 := pr (U := U1) (by grind) w2
  have q4 := pr (U := -U2) (by grind) w1
  obtain ⟨p1, P1, g3, j3, r1⟩ := mul_is iu j1 (lt_p2_1023 (by grind))
  obtain ⟨p2, P2, g4, j4, r2⟩ := mul_is ic j2 (lt_p2_1023 (by grind))
  obtain ⟨p3, P3, g5, j5, r3⟩ := mul_is iu j2 (lt_p2_1023 (by grind))
  obtain ⟨p4, P4, g6, j6, r4⟩ := mul_is ic j1 (lt_p2_1023 (by grind))
  have s1 := abs_add_le P1 (-P2)
  rw [abs_neg, ← Rat.sub_eq_add_neg] at s1
  have s2 := abs_add_le P3 P4
  have b1 := (rnd_B r1 q1 (by grind)).2
  have b2 := (rnd_B r2 q2 (by grind)).2
  have b3 := (rnd_B r3 q3 (by grind)).2
  have b4 := (rnd_B r4 q4 (by grind)).2
  obtain ⟨x, D, g7, j7, r5⟩ := sub_is j3 j4 (lt_p2_1023 (by grind))
  obtain ⟨y', E, g8, j8, r6⟩ := add_is j5 j6 (lt_p2_1023 (by grind))
  have r2' : Rnd (U2 * V2) (-P2) := by
    have := r2.neg
    rw [show -(-U2 * V2) = U2 * V2 by grind] at this
    exact this
  rw [Rat.sub_eq_add_neg] at r5
  obtain ⟨z1, z2⟩ := comb hUV m1 m2 n1 n2 r1 r2' r5
  obtain ⟨z3, z4⟩ := comb (by rw [nn]; exact hUV) m2 m1 n2 n1 r3 r4 r6
  obtain ⟨o1, O1, g9, j9, c1, d1⟩ := scaled_near j7 z1 z2
  obtain ⟨o2, O2, g10, j10, c2, d2⟩ := scaled_near j8 z3 z4
  refine ⟨o1, o2, O1, O2, j9, j10, c1, c2, d1, d2, fun R k => ?_⟩
  unfold tailO
  rw [fa, fb, subK_run g1 g2]
  rw [mulK_run g3 g4 g7 g5 g6 g8, sclK_run g9 g10]
  unfold fCT
  rw [FiniteK_yes j9 j10]
  rfl
end Go.Vm
namespace Go.Vm
open Ieee
set_option linter.unusedVariables false
set_option linter.unusedSimpArgs false

/-! ### The whole panel and its halves compared -/
theorem pan_two {L M w1 w2 : Rat} (p : Pan L w1 w2) (q : Pan M w1 w2) : (M - L).abs ≤ 161 / 100 * eps * L := by
  have a := p.near
  have b := q.near
  obtain ⟨a1, a2, _⟩ := p.bounds
  obtain ⟨b1, b2, _⟩ := q.bounds
  have hL := p.pos
  have hM := q.pos
  have ep := eps_pos
  generalize w1 * w1 + w2 * w2 = N at *
  have h : 9999 / 10000 * L ≤ M := le_of_sq_le (Rat.le_of_lt hM) (by grind)
  have t := abs_add_le (M * M - N) (-(L * L - N))
  rw [abs_neg, show M * M - N + -(L * L - N) = (M - L) * (M + L) by grind, abs_mul, Rat.abs_of_nonneg (show 0 ≤ M + L by grind)] at t
  have m := Rat.mul_le_mul_of_nonneg_left (show 19999 / 10000 * L ≤ M + L by grind) (abs_nonneg (M - L))
  have n := Rat.mul_le_mul_of_nonneg_left a1 (Rat.le_of_lt ep)
  have pL := Rat.mul_pos ep (Rat.mul_pos hL hL)
  refine le_of_mul hL ?_
  generalize (M - L).abs = z at *
  generalize (M * M - N).abs = z1 at *
  generalize (L * L - N).abs = z2 at *
  grind
theorem Pan.twice {L w1 w2 : Rat} (p : Pan L (w1 / 2) (w2 / 2)) : Pan (2 * L) w1 w2 := by
  refine ⟨by have := p.pos; grind, ?_⟩
  have := p.near
  rw [show w1 / 2 * (w1 / 2) + w2 / 2 * (w2 / 2) = (w1 * w1 + w2 * w2) / 4 by grind] at this
  have f := abs_le_iff.1 this
  exact abs_le_iff.2 ⟨by grind, by grind⟩
/-- the whole and a half -/
theorem whole_half {k k' m L L' w1 w2 r1 r2 X Y X' Y' : Rat} (h : Turned k L w1 w2 r1 r2 X Y) (h' : Turned k' L' (w1 / 2) (w2 / 2) r1 r2 X' Y') (p : Pan L w1 w2) (p' : Pan L' (w1 / 2) (w2 / 2)) (hk' : 0 ≤ k')
    (hX : X'.abs ≤ 46) (hY : Y'.abs ≤ 46) (hm : k + k' * (1001 / 1000) + 741 / 10 ≤ m) : (X - X').abs ≤ m * eps ∧ (Y - Y').abs ≤ m * eps := by
  have d := pan_two p p'.twice
  refine ⟨near_two (c := 2) ?_ h'.re (by grind) p.pos p'.pos d hk' hX hm, near_two (c := 2) ?_ h'.im (by grind) p.pos p'.pos d hk' hY hm⟩
  · rw [show 2 * (w1 / 2 * r1 + w2 / 2 * r2) = w1 * r1 + w2 * r2 by grind]; exact h.re
  · rw [show 2 * (w1 / 2 * r2 - w2 / 2 * r1) = w1 * r2 - w2 * r1 by grind]; exact h.im
theorem half_half {k k' m L L' w1 w2 r1 r2 X Y X' Y' : Rat} (h : Turned k L w1 w2 r1 r2 X Y) (h' : Turned k' L' w1 w2 r1 r2 X' Y') (p : Pan L w1 w2) (p' : Pan L' w1 w2) (hk' : 0 ≤ k')
    (hX : X'.abs ≤ 46) (hY : Y'.abs ≤ 46) (hm : k + k' * (1001 / 1000) + 741 / 10 ≤ m) : (X - X').abs ≤ m * eps ∧ (Y - Y').abs ≤ m * eps := by
  have d := pan_two p p'
  have d' : (1 * L' - L).abs ≤ 161 / 100 * eps * L := by rw [Rat.one_mul]; exact d
  refine ⟨near_two (c := 1) ?_ h'.re (by grind) p.pos p'.pos d' hk' hX hm, near_two (c := 1) ?_ h'.im (by grind) p.pos p'.pos d' hk' hY hm⟩
  · rw [Rat.one_mul]; exact h.re
  · rw [Rat.one_mul]; exact h.im
theorem unit_two {L L' W V U U' : Rat} (hL : 0 < L) (hL' : 0 < L') (d : (2 * L' - L).abs ≤ 161 / 100 * eps * L) (s : W.abs + V.abs ≤ 14143 / 10000 * L) (h : (U * L - W).abs ≤ eps / 2 * W.abs + tn * L) (h' : (U' * L' - W / 2).abs ≤ eps / 2 * (W / 2).abs + tn * L')
    (hU : U'.abs ≤ 3 / 2) : (U - U').abs ≤ 4 * eps := by
  refine le_of_mul hL ?_
  have nV := abs_nonneg V
  have nW := abs_nonneg W
  have ep := eps_pos
  have e6 := eps6
  have eW : (W / 2).abs = W.abs / 2 := by
    rw [show W / 2 = W * (1 / 2) by grind, abs_mul, Rat.abs_of_nonneg (show (0 : Rat) ≤ 1 / 2 by grind)]; grind
  rw [eW] at h'
  have e1 : (U - U').abs * L = (U * L - U' * L).abs := by rw [show U * L - U' * L = (U - U') * L by grind, abs_mul, Rat.abs_of_nonneg (Rat.le_of_lt hL)]
  rw [e1]
  have t1 := abs_add_le (U * L - W) (-(U' * L' - W / 2) + -(U' * L' - W / 2) + (2 * L' - L) * U')
  rw [show U * L - W + (-(U' * L' - W / 2) + -(U' * L' - W / 2) + (2 * L' - L) * U') = U * L - U' * L by grind] at t1
  have t2 := abs_add_le (-(U' * L' - W / 2) + -(U' * L' - W / 2)) ((2 * L' - L) * U')
  have t3 := abs_add_le (-(U' * L' - W / 2)) (-(U' * L' - W / 2))
  rw [abs_neg] at t3
  have t4 : ((2 * L' - L) * U').abs ≤ 161 / 100 * eps * L * (3 / 2) := by
    rw [abs_mul]; exact mul_mono' d hU (abs_nonneg _) (by have := Rat.mul_pos ep hL; grind)
  have f := abs_le_iff.1 d
  have l : L' ≤ L := by
    have := Rat.mul_le_mul_of_nonneg_right e6 (Rat.le_of_lt hL)
    grind
  have g1 := Rat.mul_le_mul_of_nonneg_left (show W.abs ≤ 14143 / 10000 * L by grind) (Rat.le_of_lt ep)
  have g2 := Rat.mul_le_mul_of_nonneg_right tn_small (Rat.le_of_lt hL)
  have g3 := Rat.mul_le_mul_of_nonneg_left l (Rat.le_of_lt tn_pos)
  have pL := Rat.mul_pos ep hL
  generalize (U * L - W).abs = z1 at *
  generalize (U' * L' - W / 2).abs = z2 at *
  generalize (U * L - U' * L).abs = z3 at *
  generalize ((2 * L' - L) * U').abs = z4 at *
  generalize W.abs = z5 at *
  clear eW e1 f d
  grind
theorem unit_sum {U V L W1 W2 : Rat} (p : Pan L W1 W2) (h : (U * L - W1).abs ≤ eps / 2 * W1.abs + tn * L) (g : (V * L - W2).abs ≤ eps / 2 * W2.abs + tn * L) : U.abs + V.abs ≤ 14144 / 10000 := by
  have hL := p.pos
  refine le_of_mul hL ?_
  have s := p.sum
  have e6 := eps6
  have t := abs_add_le (U * L - W1) W1
  rw [show U * L - W1 + W1 = U * L by grind, abs_mul, Rat.abs_of_nonneg (Rat.le_of_lt hL)] at t
  have t2 := abs_add_le (V * L - W2) W2
  rw [show V * L - W2 + W2 = V * L by grind, abs_mul, Rat.abs_of_nonneg (Rat.le_of_lt hL)] at t2
  have m1 := Rat.mul_le_mul_of_nonneg_right e6 (abs_nonneg W1)
  have m2 := Rat.mul_le_mul_of_nonneg_right e6 (abs_nonneg W2)
  have m3 := Rat.mul_le_mul_of_nonneg_right tn_small (Rat.le_of_lt hL)
  have m4 := Rat.mul_le_mul_of_nonneg_right e6 (Rat.le_of_lt hL)
  generalize W1.abs = z1 at *
  generalize W2.abs = z2 at *
  grind
/-- the last step -/
theorem gap {U V U1 V1 U2 V2 X0 X1 X2 Y0 Y1 Y2 R0 R1 R2 s e : Rat} (hUV : U.abs + V.abs ≤ 14144 / 10000) (u1 : (U - U1).abs ≤ 4 * eps) (v1 : (V - V1).abs ≤ 4 * eps) (u2 : (U - U2).abs ≤ 4 * eps) (v2 : (V - V2).abs ≤ 4 * eps)
    (hX : (X0 - X1 - X2).abs ≤ 7904 * eps) (hY : (Y0 - Y1 - Y2).abs ≤ 7904 * eps) (bX1 : X1.abs ≤ 16) (bX2 : X2.abs ≤ 16) (bY1 : Y1.abs ≤ 16) (bY2 : Y2.abs ≤ 16)
    (h0 : (R0 - kap * (U * X0 + V * Y0)).abs ≤ 4 * eps) (h1 : (R1 - kap * (U1 * X1 + V1 * Y1)).abs ≤ 4 * eps) (h2 : (R2 - kap * (U2 * X2 + V2 * Y2)).abs ≤ 4 * eps)
    (b1 : R1.abs ≤ 4) (b2 : R2.abs ≤ 4) (hs : Rnd (R1 + R2) s) (he : Rnd (R0 - s) e) : e.abs ≤ 2048 * eps := by
  have ep := eps_pos
  have k0 := kap_pos
  have k1 := kap_le
  have ak : kap.abs = kap := Rat.abs_of_nonneg k0
  have nU := abs_nonneg U
  have nV := abs_nonneg V
  have sR := abs_add_le R1 R2
  obtain ⟨s1, _⟩ := rnd_B hs (B := 8) (by grind) (by grind)
  have pm : ∀ {a b A B : Rat}, a.abs ≤ A → b.abs ≤ B → 0 ≤ A → (a * b).abs ≤ A * B := fun {a b A B} h h' hA => by
    rw [abs_mul]; exact mul_mono' h h' (abs_nonneg _) hA
  have e4 : 0 ≤ 4 * eps := by grind
  have c1 := pm (Rat.le_refl (a := U.abs)) hX nU
  have c2 := pm (Rat.le_refl (a := V.abs)) hY nV
  have c3 := pm u1 bX1 e4
  have c4 := pm v1 bY1 e4
  have c5 := pm u2 bX2 e4
  have c6 := pm v2 bY2 e4
  have cs := Rat.mul_le_mul_of_nonneg_right hUV (show 0 ≤ 7904 * eps by grind)
  have d1 := abs_add_le (U * (X0 - X1 - X2)) (V * (Y0 - Y1 - Y2))
  have d2 := abs_add_le ((U - U1) * X1) ((V - V1) * Y1)
  have d3 := abs_add_le ((U - U2) * X2) ((V - V2) * Y2)
  have d4 := abs_add_le ((U - U1) * X1 + (V - V1) * Y1) ((U - U2) * X2 + (V - V2) * Y2)
  have d5 := abs_add_le (U * (X0 - X1 - X2) + V * (Y0 - Y1 - Y2)) ((U - U1) * X1 + (V - V1) * Y1 + ((U - U2) * X2 + (V - V2) * Y2))
  have g : (U * (X0 - X1 - X2) + V * (Y0 - Y1 - Y2) + ((U - U1) * X1 + (V - V1) * Y1 + ((U - U2) * X2 + (V - V2) * Y2))).abs ≤ 11450 * eps := by
    generalize (U * (X0 - X1 - X2)).abs = z1 at *
    generalize (V * (Y0 - Y1 - Y2)).abs = z2 at *
    generalize ((U - U1) * X1).abs = z3 at *
    generalize ((V - V1) * Y1).abs = z4 at *
    generalize ((U - U2) * X2).abs = z5 at *
    generalize ((V - V2) * Y2).abs = z6 at *
    grind
  have g2 := pm (a := kap) (by rw [ak]; exact k1) g (by grind)
  have f1 := abs_add_le (R0 - kap * (U * X0 + V * Y0)) (-(R1 - kap * (U1 * X1 + V1 * Y1)) + -(R2 - kap * (U2 * X2 + V2 * Y2)))
  have f2 := abs_add_le (-(R1 - kap * (U1 * X1 + V1 * Y1))) (-(R2 - kap * (U2 * X2 + V2 * Y2)))
  rw [abs_neg, abs_neg] at f2
  have f3 := abs_add_le (R0 - kap * (U * X0 + V * Y0) + (-(R1 - kap * (U1 * X1 + V1 * Y1)) + -(R2 - kap * (U2 * X2 + V2 * Y2)))) (-(s - (R1 + R2)))
  rw [abs_neg] at f3
  have f4 := abs_add_le (R0 - kap * (U * X0 + V * Y0) + (-(R1 - kap * (U1 * X1 + V1 * Y1)) + -(R2 - kap * (U2 * X2 + V2 * Y2))) + -(s - (R1 + R2))) (kap * (U * (X0 - X1 - X2) + V * (Y0 - Y1 - Y2) + ((U - U1) * X1 + (V - V1) * Y1 + ((U - U2) * X2 + (V - V2) * Y2))))
  rw [show R0 - kap * (U * X0 + V * Y0) + (-(R1 - kap * (U1 * X1 + V1 * Y1)) + -(R2 - kap * (U2 * X2 + V2 * Y2))) + -(s - (R1 + R2)) + kap * (U * (X0 - X1 - X2) + V * (Y0 - Y1 - Y2) + ((U - U1) * X1 + (V - V1) * Y1 + ((U - U2) * X2 + (V - V2) * Y2))) = R0 - s by grind] at f4
  have hd : (R0 - s).abs ≤ 1900 * eps := by grind
  have t := abs_add_le (e - (R0 - s)) (R0 - s)
  rw [show e - (R0 - s) + (R0 - s) = e by grind] at t
  have fe := he.fine
  have ts := tn_small
  have e6 := eps6
  have m := Rat.mul_le_mul_of_nonneg_right hd (show 0 ≤ eps / 4 by grind)
  have m2 := Rat.mul_le_mul_of_nonneg_right e6 (Rat.le_of_lt ep)
  grind
end Go.Vm
namespace Go.Vm
open Ieee
set_option linter.unusedVariables false
set_option linter.unusedSimpArgs false

/-! ### A panel with all that is seen from it -/
structure Seen (m L W1 W2 S1 S2 U1 U2 D Y E : Rat) (u c d y e : Nat) : Prop where
  pan : Pan L W1 W2
  un1 : (U1 * L - W1).abs ≤ eps / 2 * W1.abs + tn * L
  un2 : (U2 * L - W2).abs ≤ eps / 2 * W2.abs + tn * L
  iu : Is u U1
  ic : Is c (-U2)
  id : Is d D
  iy : Is y Y
  ie : Is e E
  st : Turned 46 L W1 W2 S1 S2 D Y
  en : Turned m L W1 W2 (S1 - W1) (S2 - W2) E Y
  bD : D.abs ≤ 46
  bY : Y.abs ≤ 46
  bE : E.abs ≤ 46
  loD : 2497 / 10000 ≤ D * D + Y * Y
  hiD : D * D + Y * Y ≤ 2100
  loE : 2497 / 10000 ≤ E * E + Y * Y
  hiE : E * E + Y * Y ≤ 2100
  pos : 1 / 2 ≤ W1 * S2 - W2 * S1 → 0 < Y
  neg : W1 * S2 - W2 * S1 ≤ -(1 / 2) → Y < 0
theorem one_seen {f1 f2 t1 t2 z1 z2 : Nat} {a b c d x y : Int} {W1 W2 S1 S2 B m : Rat} (hf1 : Hv f1 a) (hf2 : Hv f2 b) (ht1 : Hv t1 c) (ht2 : Hv t2 d) (hz1 : Hv z1 x) (hz2 : Hv z2 y)
    (na : a.natAbs ≤ 32) (nb : b.natAbs ≤ 32) (nc : c.natAbs ≤ 32) (nd : d.natAbs ≤ 32) (nx : x.natAbs ≤ 32) (ny : y.natAbs ≤ 32) (hw : c - a ≠ 0 ∨ d - b ≠ 0) (hr : x - a ≠ 0 ∨ y - b ≠ 0) (hr' : x - c ≠ 0 ∨ y - d ≠ 0)
    (e1 : ((c - a : Int) : Rat) / 2 = W1) (e2 : ((d - b : Int) : Rat) / 2 = W2) (e3 : ((x - a : Int) : Rat) / 2 = S1) (e4 : ((y - b : Int) : Rat) / 2 = S2) (hB0 : 0 ≤ B) (hB : (W1 * W1 + W2 * W2) * (100001 / 100000) ≤ B * B) (hB6 : B ≤ 46)
    (hm : 46 + 161 / 100 * B + 23 + 1 / 1000 ≤ m) (hm1 : m ≤ 1000) :
    ∃ (L U1 U2 D Y E : Rat) (u c2 d1 yy e : Nat), Seen m L W1 W2 S1 S2 U1 U2 D Y E u c2 d1 yy e ∧ ∀ (R : Type) (k : Nat → Nat → Option R), OK1 R f1 f2 t1 t2 0 z1 z2 k = tailO u c2 d1 yy e k := by
  have g1 : ((x - c : Int) : Rat) / 2 = S1 - W1 := by rw [← e1, ← e3]; simp only [Rat.intCast_sub]; grind
  have g2 : ((y - d : Int) : Rat) / 2 = S2 - W2 := by rw [← e2, ← e4]; simp only [Rat.intCast_sub]; grind
  obtain ⟨L, U1, U2, D, Y, E, u1, c2, d1, yy, e, p, du1, du2, iu, ic, id, iy, ie, T, T', fk⟩ := one_start hf1 hf2 ht1 ht2 hz1 hz2 na nb nc nd nx ny hw hr
  have ts1 := sq_top (N := 64) (p := x - a) (nab_sub nx na) n64
  have ts2 := sq_top (N := 64) (p := y - b) (nab_sub ny nb) n64
  have ts3 := sq_top (N := 64) (p := x - c) (nab_sub nx nc) n64
  have ts4 := sq_top (N := 64) (p := y - d) (nab_sub ny nd) n64
  have ls := sq_half hr
  have ls' := sq_half hr'
  rw [g1] at ts3 ls'
  rw [g2] at ts4 ls'
  rw [e3] at ts1 ls
  rw [e4] at ts2 ls
  simp only [e1, e2, e3, e4, g1, g2] at p du1 du2 T T'
  have LB := p.top hB0 hB
  have T'' := T' m (by grind)
  obtain ⟨q1, q2, q3, q4⟩ := turned_size T p (by grind) (by grind) ls (by grind)
  obtain ⟨q5, q6, q7, q8⟩ := turned_size T'' p (by grind) hm1 ls' (by grind)
  obtain ⟨s1, s2⟩ := turned_sign T p (by grind) (by grind) (by grind)
  exact ⟨L, U1, U2, D, Y, E, u1, c2, d1, yy, e, ⟨p, du1, du2, iu, ic, id, iy, ie, T, T'', q1, q2, q5, q3, q4, q7, q8, s1, s2⟩, fk⟩
end Go.Vm
namespace Go.Vm
open Ieee
set_option linter.unusedVariables false
set_option linter.unusedSimpArgs false

/-! ### The whole panel's way is its halves' ways -/
theorem three_diff {A A' B B' C C' k1 k2 k3 m : Rat} (h1 : (A - A').abs ≤ k1 * eps) (h2 : (B - B').abs ≤ k2 * eps) (h3 : (C - C').abs ≤ k3 * eps) (hm : k1 + k2 + k3 ≤ m) : (A - C - (A' - B) - (B' - C')).abs ≤ m * eps := by
  have t1 := abs_add_le (A - A') ((B - B') + -(C - C'))
  have t2 := abs_add_le (B - B') (-(C - C'))
  rw [abs_neg] at t2
  rw [show A - A' + (B - B' + -(C - C')) = A - C - (A' - B) - (B' - C') by grind] at t1
  have := Rat.mul_le_mul_of_nonneg_right hm (Rat.le_of_lt eps_pos)
  grind
theorem abs8 {A B : Rat} (h1 : A.abs ≤ 8) (h2 : B.abs ≤ 8) : (A - B).abs ≤ 16 := by
  have t := abs_add_le A (-B)
  rw [abs_neg, ← Rat.sub_eq_add_neg] at t
  grind
/-- the machine's last sums -/
theorem last_sum {p q v : Nat} {P Q V : Rat} (ip : Is p P) (iq : Is q Q) (iv : Is v V) (bp : P.abs ≤ 4) (bq : Q.abs ≤ 4) (bv : V.abs ≤ 4) (h : ∀ s e, Rnd (P + Q) s → Rnd (V - s) e → e.abs ≤ 2048 * eps) :
    ∃ s e, fbF .add p q = some s ∧ fbF .sub v s = some e ∧ leF (absW e) 4427038433705197568 = true := by
  have t := abs_add_le P Q
  obtain ⟨s, S, g1, j1, r1⟩ := add_is ip iq (lt_p2_1023 (by grind))
  have b := (rnd_B r1 (B := 8) (by grind) (by grind)).2
  have t2 := abs_add_le V (-S)
  rw [abs_neg, ← Rat.sub_eq_add_neg] at t2
  obtain ⟨e, E, g2, j2, r2⟩ := sub_is iv j1 (lt_p2_1023 (by grind))
  exact ⟨s, e, g1, g2, by rw [leF_is (abs_is j2) tiny_is]; exact decide_eq_true (h S E r1 r2)⟩
theorem same_sign {X Y Z : Rat} {a b : Prop} (h : a ∨ b) (h1 : a → 0 < X ∧ 0 < Y ∧ 0 < Z) (h2 : b → X < 0 ∧ Y < 0 ∧ Z < 0) :
    ((0 < X ∧ 0 < Y) ∨ (X < 0 ∧ Y < 0)) ∧ ((0 < Y ∧ 0 < Z) ∨ (Y < 0 ∧ Z < 0)) ∧ ((0 < X ∧ 0 < Z) ∨ (X < 0 ∧ Z < 0)) := by
  rcases h with h | h
  · have := h1 h
    exact ⟨.inl ⟨this.1, this.2.1⟩, .inl ⟨this.2.1, this.2.2⟩, .inl ⟨this.1, this.2.2⟩⟩
  · have := h2 h
    exact ⟨.inr ⟨this.1, this.2.1⟩, .inr ⟨this.2.1, this.2.2⟩, .inr ⟨this.1, this.2.2⟩⟩
theorem three_seen {W1 W2 S1 S2 L U1 U2 D Y E L' U1' U2' D' Y' E' L'' U1'' U2'' D'' Y'' E'' : Rat} {u c d y e u' c' d' y' e' u'' c'' d'' y'' e'' : Nat}
    (h : Seen 142 L W1 W2 S1 S2 U1 U2 D Y E u c d y e) (h' : Seen 106 L' (W1 / 2) (W2 / 2) S1 S2 U1' U2' D' Y' E' u' c' d' y' e') (h'' : Seen 106 L'' (W1 / 2) (W2 / 2) (S1 - W1 / 2) (S2 - W2 / 2) U1'' U2'' D'' Y'' E'' u'' c'' d'' y'' e'')
    (hc : 1 ≤ W1 * S2 - W2 * S1 ∨ W1 * S2 - W2 * S1 ≤ -1) :
    ∃ v1 v2 p1 p2 q1 q2 s1 s2 e1 e2, (∀ (R : Type) (k : Nat → Nat → Option R), tailO u c d y e k = k v1 v2) ∧ (∀ (R : Type) (k : Nat → Nat → Option R), tailO u' c' d' y' e' k = k p1 p2) ∧ (∀ (R : Type) (k : Nat → Nat → Option R), tailO u'' c'' d'' y'' e'' k = k q1 q2) ∧
      fbF .add p1 q1 = some s1 ∧ fbF .add p2 q2 = some s2 ∧ fbF .sub v1 s1 = some e1 ∧ fbF .sub v2 s2 = some e2 ∧ leF (absW e1) 4427038433705197568 = true ∧ leF (absW e2) 4427038433705197568 = true := by
  have x1 : W1 / 2 * S2 - W2 / 2 * S1 = (W1 * S2 - W2 * S1) / 2 := by grind
  have x2 : W1 / 2 * (S2 - W2 / 2) - W2 / 2 * (S1 - W1 / 2) = (W1 * S2 - W2 * S1) / 2 := by grind
  have n' := h'.pos
  have m' := h'.neg
  have n'' := h''.pos
  have m'' := h''.neg
  rw [x1] at n' m'
  rw [x2] at n'' m''
  obtain ⟨g1, g2, g3⟩ := same_sign hc (fun hp => ⟨h.pos (by grind), n' (by grind), n'' (by grind)⟩) (fun hn => ⟨h.neg (by grind), m' (by grind), m'' (by grind)⟩)
  have z3 : Turned 106 L'' (W1 / 2) (W2 / 2) (S1 - W1) (S2 - W2) E'' Y'' := by
    have := h''.en
    rw [show S1 - W1 / 2 - W1 / 2 = S1 - W1 by grind, show S2 - W2 / 2 - W2 / 2 = S2 - W2 by grind] at this
    exact this
  obtain ⟨a1, a2⟩ := whole_half (m := 167) h.st h'.st h.pan h'.pan (by grind) h'.bD h'.bY (by grind)
  obtain ⟨b1, b2⟩ := half_half (m := 227) h'.en h''.st h'.pan h''.pan (by grind) h''.bD h''.bY (by grind)
  obtain ⟨c1, c2⟩ := whole_half (m := 323) h.en z3 h.pan h''.pan (by grind) h''.bE h''.bY (by grind)
  obtain ⟨A, A', I, I', ⟨vA, vA', iA, iA', bA, bA', dA⟩, ⟨vI, vI', iI, iI', bI, bI', dI⟩, fA, fA'⟩ := pair_log h.id h.iy h'.id h'.iy h.bD h.bY h'.bD h'.bY h.loD h.hiD h'.loD h'.hiD a1 a2 (by grind) (by grind) g1
  obtain ⟨B, B', J, J', ⟨vB, vB', iB, iB', bB, bB', dB⟩, ⟨vJ, vJ', iJ, iJ', bJ, bJ', dJ⟩, fB, fB'⟩ := pair_log h'.ie h'.iy h''.id h''.iy h'.bE h'.bY h''.bD h''.bY h'.loE h'.hiE h''.loD h''.hiD b1 b2 (by grind) (by grind) g2
  obtain ⟨C, C', K, K', ⟨vC, vC', iC, iC', bC, bC', dC⟩, ⟨vK, vK', iK, iK', bK, bK', dK⟩, fC, fC'⟩ := pair_log h.ie h.iy h''.ie h''.iy h.bE h.bY h''.bE h''.bY h.loE h.hiE h''.loE h''.hiE c1 c2 (by grind) (by grind) g3
  have lo : ∀ {X : Rat}, X.abs ≤ 13 / 2 → X.abs ≤ 8 := fun {X} h => by grind
  have us := unit_sum h.pan h.un1 h.un2
  have us' := unit_sum h'.pan h'.un1 h'.un2
  have us'' := unit_sum h''.pan h''.un1 h''.un2
  obtain ⟨v1, v2, R1, R2, i1, i2, r1, r2, k1, k2, t1⟩ := tail_run h.iu h.ic us iA iI iC iK bA (lo bI) bC (lo bK) fA fC
  obtain ⟨p1, p2, P1, P2, i3, i4, r3, r4, k3, k4, t2⟩ := tail_run h'.iu h'.ic us' iA' iI' iB iJ bA' (lo bI') bB (lo bJ) fA' fB
  obtain ⟨q1, q2, Q1, Q2, i5, i6, r5, r6, k5, k6, t3⟩ := tail_run h''.iu h''.ic us'' iB' iJ' iC' iK' bB' (lo bJ') bC' (lo bK') fB' fC'
  have dd' := pan_two h.pan h'.pan.twice
  have dd'' := pan_two h.pan h''.pan.twice
  have sm := h.pan.sum
  have sm2 : W2.abs + W1.abs ≤ 14143 / 10000 * L := by rw [Rat.add_comm]; exact sm
  have nU1' := abs_nonneg U1'
  have nU2' := abs_nonneg U2'
  have nU1'' := abs_nonneg U1''
  have nU2'' := abs_nonneg U2''
  have w1 := unit_two h.pan.pos h'.pan.pos dd' sm h.un1 h'.un1 (by grind)
  have w2 := unit_two h.pan.pos h'.pan.pos dd' sm2 h.un2 h'.un2 (by grind)
  have w3 := unit_two h.pan.pos h''.pan.pos dd'' sm h.un1 h''.un1 (by grind)
  have w4 := unit_two h.pan.pos h''.pan.pos dd'' sm2 h.un2 h''.un2 (by grind)
  have ng : ∀ {X Y : Rat}, (X - Y).abs ≤ 4 * eps → (-X - -Y).abs ≤ 4 * eps := fun {X Y} h => by
    rw [show -X - -Y = -(X - Y) by grind, abs_neg]; exact h
  have o1 := three_diff (m := 7904) dA dB dC (by grind)
  have o2 := three_diff (m := 7904) dI dJ dK (by grind)
  obtain ⟨s1, e1, m1, m2, m3⟩ := last_sum i3 i5 i1 k3 k5 k1 fun s e hs he => gap us w1 w2 w3 w4 o1 o2 (abs8 bA' bB) (abs8 bB' bC') (abs8 (lo bI') (lo bJ)) (abs8 (lo bJ') (lo bK')) r1 r3 r5 k3 k5 hs he
  obtain ⟨s2, e2, m4, m5, m6⟩ := last_sum i4 i6 i2 k4 k6 k2 fun s e hs he => gap (V := -U2) (by rw [abs_neg]; exact us) w1 (ng w2) w3 (ng w4) o2 o1 (abs8 (lo bI') (lo bJ)) (abs8 (lo bJ') (lo bK')) (abs8 bA' bB) (abs8 bB' bC') r2 r4 r6 k4 k6 hs he
  exact ⟨v1, v2, p1, p2, q1, q2, s1, s2, e1, e2, t1, t2, t3, m1, m4, m2, m5, m3, m6⟩
end Go.Vm
