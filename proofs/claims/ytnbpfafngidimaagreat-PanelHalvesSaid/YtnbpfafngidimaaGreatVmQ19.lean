/- Points seen from a panel: how near the words come, how far the points lie, and how near the logarithms of two sights are; no conditions. -/
import Derived.Test.YtnbpfafngidimaaGreatVmQ14
import Derived.Test.YtnbpfafngidimaaGreatVmP17
namespace Go.Vm
open Ieee
set_option linter.unusedVariables false
set_option linter.unusedSimpArgs false

/-! ### Points seen from a panel -/
structure Turned (k L w1 w2 r1 r2 X Y : Rat) : Prop where
  re : (X * L - (w1 * r1 + w2 * r2)).abs ≤ k * eps * L
  im : (Y * L - (w1 * r2 - w2 * r1)).abs ≤ k * eps * L
theorem eps6 : eps ≤ 1 / 1000000 := by rw [eps_eq]; grind
structure Pan (L w1 w2 : Rat) : Prop where
  pos : 0 < L
  near : (L * L - (w1 * w1 + w2 * w2)).abs ≤ 8 / 5 * eps * (w1 * w1 + w2 * w2)
theorem Pan.bounds {L w1 w2 : Rat} (h : Pan L w1 w2) : w1 * w1 + w2 * w2 ≤ L * L * (100001 / 100000) ∧ L * L ≤ (w1 * w1 + w2 * w2) * (100001 / 100000) ∧ (L * L - (w1 * w1 + w2 * w2)).abs ≤ 161 / 100 * eps * (L * L) := by
  obtain ⟨h1, h2⟩ := h
  have n1 := sq_nonneg w1
  have n2 := sq_nonneg w2
  have ep := eps_pos
  have e6 := eps6
  generalize w1 * w1 + w2 * w2 = N at *
  have f := abs_le_iff.1 h2
  have N0 : 0 ≤ N := by
    refine Rat.not_lt.1 fun hc => ?_
    have := abs_nonneg (L * L - N)
    have := Rat.mul_lt_mul_of_pos_right hc (show 0 < 8 / 5 * eps by grind)
    grind
  have m := Rat.mul_le_mul_of_nonneg_right e6 N0
  have a : N ≤ L * L * (100001 / 100000) := by grind
  refine ⟨a, by grind, Rat.le_trans h2 ?_⟩
  have := Rat.mul_le_mul_of_nonneg_left a (show 0 ≤ 8 / 5 * eps by grind)
  have := Rat.mul_nonneg (Rat.le_of_lt ep) (sq_nonneg L)
  grind
theorem Pan.sum {L w1 w2 : Rat} (h : Pan L w1 w2) : w1.abs + w2.abs ≤ 14143 / 10000 * L := by
  have b := h.bounds.1
  have p := h.pos
  refine le_of_sq_le (by grind) ?_
  have e1 : w1.abs * w1.abs = w1 * w1 := by rw [← abs_mul, sq_abs]
  have e2 : w2.abs * w2.abs = w2 * w2 := by rw [← abs_mul, sq_abs]
  have s := sq_nonneg (w1.abs - w2.abs)
  have l := Rat.mul_pos p p
  grind
theorem turned_one {U1 U2 s1 s2 w1 w2 L P1 P2 z : Rat} (hU : (U1 * L - w1).abs ≤ eps / 2 * w1.abs + tn * L) (hV : (U2 * L - w2).abs ≤ eps / 2 * w2.abs + tn * L)
    (h1 : Rnd (U1 * s1) P1) (h2 : Rnd (U2 * s2) P2) (hz : Rnd (P1 + P2) z) (hs1 : s1.abs ≤ 32) (hs2 : s2.abs ≤ 32) (h : Pan L w1 w2) : (z * L - (w1 * s1 + w2 * s2)).abs ≤ 46 * eps * L := by
  have p := h.pos
  have q1 := prod_near hU h1 (by grind) p
  have q2 := prod_near hV h2 (by grind) p
  have t := sum_turn q1 q2 hz p
  have s := h.sum
  have ep := eps_pos
  have e6 := eps6
  have ts := Rat.mul_le_mul_of_nonneg_right tn_small (Rat.le_of_lt p)
  have k1 : (w1 * s1).abs ≤ w1.abs * 32 := by rw [abs_mul]; exact Rat.mul_le_mul_of_nonneg_left hs1 (abs_nonneg _)
  have k2 : (w2 * s2).abs ≤ w2.abs * 32 := by rw [abs_mul]; exact Rat.mul_le_mul_of_nonneg_left hs2 (abs_nonneg _)
  have n1 := abs_nonneg (w1 * s1)
  have n2 := abs_nonneg (w2 * s2)
  generalize (w1 * s1).abs = a at *
  generalize (w2 * s2).abs = b at *
  have k3 : a + b ≤ 4525760 / 100000 * L := by grind
  have pL := Rat.mul_pos ep p
  have k4 := Rat.mul_le_mul_of_nonneg_left k3 (Rat.le_of_lt ep)
  have k5 : 76 / 100 * eps * a + eps / 1000 * L + (76 / 100 * eps * b + eps / 1000 * L) ≤ 35 * (eps * L) := by grind
  have k6 : 76 / 100 * eps * a + eps / 1000 * L + (76 / 100 * eps * b + eps / 1000 * L) ≤ L / 1000 := by
    have := Rat.mul_le_mul_of_nonneg_right e6 (Rat.le_of_lt p)
    grind
  have k7 : eps / 4 * (a + b + (76 / 100 * eps * a + eps / 1000 * L) + (76 / 100 * eps * b + eps / 1000 * L)) ≤ eps / 4 * (a + b + L / 1000) := Rat.mul_le_mul_of_nonneg_left (by grind) (by grind)
  have k8 := Rat.mul_le_mul_of_nonneg_left k3 (show 0 ≤ eps / 4 by grind)
  grind
theorem Turned.mono {k m L w1 w2 r1 r2 X Y : Rat} (h : Turned k L w1 w2 r1 r2 X Y) (hk : k ≤ m) (hL : 0 < L) : Turned m L w1 w2 r1 r2 X Y := by
  have := Rat.mul_le_mul_of_nonneg_right hk (Rat.le_of_lt (Rat.mul_pos eps_pos hL))
  obtain ⟨a, b⟩ := h
  exact ⟨by grind, by grind⟩
/-- the end of the panel in place of its start -/
theorem Turned.back {k m L w1 w2 r1 r2 X Y X' : Rat} (h : Turned k L w1 w2 r1 r2 X Y) (hX : Rnd (X - L) X') (hb : (X - L).abs ≤ 92) (p : Pan L w1 w2) (h0 : 0 ≤ k) (hm : k + 161 / 100 * L + 23 + 1 / 1000 ≤ m) : Turned m L w1 w2 (r1 - w1) (r2 - w2) X' Y := by
  have ep := eps_pos
  have hp := p.pos
  have pL := Rat.mul_pos ep hp
  have ts := Rat.mul_le_mul_of_nonneg_right tn_small (Rat.le_of_lt hp)
  obtain ⟨a, b⟩ := h
  have f := Rat.mul_le_mul_of_nonneg_right hX.fine (Rat.le_of_lt hp)
  have g := Rat.mul_le_mul_of_nonneg_right hb (Rat.le_of_lt pL)
  have aL : L.abs = L := Rat.abs_of_nonneg (Rat.le_of_lt hp)
  have e1 : (X' - (X - L)).abs * L = (X' * L - (X - L) * L).abs := by
    rw [show X' * L - (X - L) * L = (X' - (X - L)) * L by grind, abs_mul, aL]
  rw [e1] at f
  have d := p.bounds.2.2
  have t1 := abs_add_le (X' * L - (X - L) * L) (X * L - (w1 * r1 + w2 * r2) - (L * L - (w1 * w1 + w2 * w2)))
  rw [show X' * L - (X - L) * L + (X * L - (w1 * r1 + w2 * r2) - (L * L - (w1 * w1 + w2 * w2))) = X' * L - (w1 * (r1 - w1) + w2 * (r2 - w2)) by grind] at t1
  have t2 := abs_add_le (X * L - (w1 * r1 + w2 * r2)) (-(L * L - (w1 * w1 + w2 * w2)))
  rw [abs_neg, ← Rat.sub_eq_add_neg] at t2
  have mm := Rat.mul_le_mul_of_nonneg_right hm (Rat.le_of_lt pL)
  refine ⟨?_, ?_⟩
  · generalize (X' * L - (X - L) * L).abs = x1 at *
    generalize (X - L).abs = x2 at *
    grind
  · rw [show w1 * (r2 - w2) - w2 * (r1 - w1) = w1 * r2 - w2 * r1 by grind]
    have : k * (eps * L) ≤ m * (eps * L) := Rat.mul_le_mul_of_nonneg_right (by grind) (Rat.le_of_lt pL)
    grind
/-- two sights of the same point -/
theorem near_two {k k' c m L L' X X' t : Rat} (h : (X * L - c * t).abs ≤ k * eps * L) (h' : (X' * L' - t).abs ≤ k' * eps * L') (hc : 0 < c) (hL : 0 < L) (hL' : 0 < L') (d : (c * L' - L).abs ≤ 161 / 100 * eps * L) (hk' : 0 ≤ k') (hX : X'.abs ≤ 46)
    (hm : k + k' * (1001 / 1000) + 741 / 10 ≤ m) : (X - X').abs ≤ m * eps := by
  have ep := eps_pos
  have e6 := eps6
  have pL := Rat.mul_pos ep hL
  have aL : L.abs = L := Rat.abs_of_nonneg (Rat.le_of_lt hL)
  have ac : c.abs = c := Rat.abs_of_nonneg (Rat.le_of_lt hc)
  have g := Rat.mul_le_mul_of_nonneg_left h' (Rat.le_of_lt hc)
  have e1 : c * (X' * L' - t).abs = (c * t - c * L' * X').abs := by rw [← ac, ← abs_mul, ac, ← abs_neg]; congr 1; grind
  rw [e1] at g
  have e2 : (X - X').abs * L = (X * L - X' * L).abs := by rw [show X * L - X' * L = (X - X') * L by grind, abs_mul, aL]
  have t1 := abs_add_le (X * L - c * t) ((c * t - c * L' * X') + (c * L' - L) * X')
  rw [show X * L - c * t + (c * t - c * L' * X' + (c * L' - L) * X') = X * L - X' * L by grind] at t1
  have t2 := abs_add_le (c * t - c * L' * X') ((c * L' - L) * X')
  have g2 : ((c * L' - L) * X').abs ≤ 161 / 100 * eps * L * 46 := by rw [abs_mul]; exact mul_mono' d hX (abs_nonneg _) (by grind)
  have d' := abs_le_iff.1 d
  have d2 : c * L' ≤ L * (1001 / 1000) := by
    have := Rat.mul_le_mul_of_nonneg_right e6 (Rat.le_of_lt hL)
    grind
  have d3 : k' * eps * (c * L') ≤ k' * eps * (L * (1001 / 1000)) := Rat.mul_le_mul_of_nonneg_left d2 (Rat.mul_nonneg hk' (Rat.le_of_lt ep))
  have mm := Rat.mul_le_mul_of_nonneg_right hm (Rat.le_of_lt pL)
  refine Rat.not_lt.1 fun hn => ?_
  have := Rat.mul_lt_mul_of_pos_right hn hL
  grind
end Go.Vm
namespace Go.Vm
open Ieee
set_option linter.unusedVariables false
set_option linter.unusedSimpArgs false

/-! ### How far a point seen from a panel lies -/
theorem eps12 : eps ≤ 1 / 1000000000000 := by rw [eps_eq]; grind
theorem sq_close {d L x t : Rat} (h : (x - t).abs ≤ d * L) (ht : t.abs ≤ 4526 / 100 * L) (hd : d ≤ 1 / 1000000) (hd0 : 0 ≤ d) (hL : 0 < L) : (x * x - t * t).abs ≤ 1 / 10000 * (L * L) := by
  have dL := Rat.mul_le_mul_of_nonneg_right hd (Rat.le_of_lt hL)
  have s := abs_add_le (x - t) (2 * t)
  rw [abs_mul, Rat.abs_of_nonneg (show (0 : Rat) ≤ 2 by grind), show x - t + 2 * t = x + t by grind] at s
  rw [show x * x - t * t = (x - t) * (x + t) by grind, abs_mul]
  have := mul_mono' (a := 1 / 1000000 * L) (b := 91 * L) (show (x - t).abs ≤ 1 / 1000000 * L by grind) (show (x + t).abs ≤ 91 * L by grind) (abs_nonneg _) (by grind)
  have := Rat.mul_pos hL hL
  grind
theorem abs_le_of_sq {t b : Rat} (hb : 0 ≤ b) (h : t * t ≤ b * b) : t.abs ≤ b := le_of_sq_le hb (by rw [← abs_mul, sq_abs]; exact h)
theorem le_of_mul {a b L : Rat} (hL : 0 < L) (h : a * L ≤ b * L) : a ≤ b := by
  refine Rat.not_lt.1 fun hn => ?_
  have := Rat.mul_lt_mul_of_pos_right hn hL
  grind
theorem turned_size {k L w1 w2 r1 r2 X Y : Rat} (h : Turned k L w1 w2 r1 r2 X Y) (p : Pan L w1 w2) (k0 : 0 ≤ k) (k1 : k ≤ 1000) (lo : 1 / 4 ≤ r1 * r1 + r2 * r2) (hi : r1 * r1 + r2 * r2 ≤ 2048) :
    X.abs ≤ 46 ∧ Y.abs ≤ 46 ∧ 2497 / 10000 ≤ X * X + Y * Y ∧ X * X + Y * Y ≤ 2100 := by
  obtain ⟨a, b⟩ := h
  obtain ⟨b1, b2, b3⟩ := p.bounds
  have hL := p.pos
  have ep := eps_pos
  have e12 := eps12
  have d1 : k * eps ≤ 1 / 1000000 := by
    have := mul_mono' k1 e12 (Rat.le_of_lt ep) (by grind)
    grind
  have d0 : 0 ≤ k * eps := Rat.mul_nonneg k0 (Rat.le_of_lt ep)
  have LL := Rat.mul_pos hL hL
  have e : (w1 * r1 + w2 * r2) * (w1 * r1 + w2 * r2) + (w1 * r2 - w2 * r1) * (w1 * r2 - w2 * r1) = (w1 * w1 + w2 * w2) * (r1 * r1 + r2 * r2) := by grind
  have n1 := sq_nonneg w1
  have n2 := sq_nonneg w2
  have nt := sq_nonneg (w1 * r1 + w2 * r2)
  have nc := sq_nonneg (w1 * r2 - w2 * r1)
  generalize w1 * r1 + w2 * r2 = t at *
  generalize w1 * r2 - w2 * r1 = c at *
  generalize w1 * w1 + w2 * w2 = N at *
  generalize r1 * r1 + r2 * r2 = S at *
  have g1 := mul_mono' (a := L * L * (100001 / 100000)) (b := 2048) b1 hi (by grind) (by grind)
  have g2 := Rat.mul_le_mul_of_nonneg_left lo (show 0 ≤ N by grind)
  have t1 : t.abs ≤ 4526 / 100 * L := abs_le_of_sq (by grind) (by grind)
  have c1 : c.abs ≤ 4526 / 100 * L := abs_le_of_sq (by grind) (by grind)
  have f1 := abs_le_iff.1 (sq_close a t1 d1 d0 hL)
  have f2 := abs_le_iff.1 (sq_close b c1 d1 d0 hL)
  have ab : ∀ {Z z : Rat}, (Z * L - z).abs ≤ k * eps * L → z.abs ≤ 4526 / 100 * L → Z.abs ≤ 46 := fun {Z z} h1 h2 => by
    refine le_of_mul hL ?_
    have s := abs_add_le (Z * L - z) z
    rw [show Z * L - z + z = Z * L by grind, abs_mul, Rat.abs_of_nonneg (Rat.le_of_lt hL)] at s
    have := Rat.mul_le_mul_of_nonneg_right d1 (Rat.le_of_lt hL)
    grind
  refine ⟨ab a t1, ab b c1, le_of_mul LL ?_, le_of_mul LL ?_⟩
  · grind
  · grind
theorem part_low {X Y : Rat} (h : 2497 / 10000 ≤ X * X + Y * Y) : 7 / 20 ≤ Y.abs ∨ 7 / 20 ≤ X.abs := by
  refine Classical.byContradiction fun hc => ?_
  have h1 : X.abs < 7 / 20 := by grind
  have h2 : Y.abs < 7 / 20 := by grind
  have g1 := mul_mono' (Rat.le_of_lt h1) (Rat.le_of_lt h1) (abs_nonneg X) (by grind)
  have g2 := mul_mono' (Rat.le_of_lt h2) (Rat.le_of_lt h2) (abs_nonneg Y) (by grind)
  rw [← abs_mul, sq_abs] at g1 g2
  grind
theorem Pan.top {L w1 w2 B : Rat} (p : Pan L w1 w2) (hB : 0 ≤ B) (h : (w1 * w1 + w2 * w2) * (100001 / 100000) ≤ B * B) : L ≤ B := le_of_sq_le hB (Rat.le_trans p.bounds.2.1 h)
theorem turned_sign {k L w1 w2 r1 r2 X Y : Rat} (h : Turned k L w1 w2 r1 r2 X Y) (p : Pan L w1 w2) (k0 : 0 ≤ k) (k1 : k ≤ 1000) (hL : L ≤ 46) : (1 / 2 ≤ w1 * r2 - w2 * r1 → 0 < Y) ∧ (w1 * r2 - w2 * r1 ≤ -(1 / 2) → Y < 0) := by
  have b := abs_le_iff.1 h.im
  have hp := p.pos
  have ep := eps_pos
  have e12 := eps12
  have d1 : k * eps ≤ 1 / 1000000 := by
    have := mul_mono' k1 e12 (Rat.le_of_lt ep) (by grind)
    grind
  have d2 : k * eps * L ≤ 1 / 10000 := by
    have := mul_mono' d1 hL (Rat.le_of_lt hp) (by grind)
    grind
  refine ⟨fun g => ?_, fun g => ?_⟩
  · refine Rat.not_le.1 fun hn => ?_
    have := Rat.mul_le_mul_of_nonneg_right hn (Rat.le_of_lt hp)
    grind
  · refine Rat.not_le.1 fun hn => ?_
    have := Rat.mul_le_mul_of_nonneg_right hn (Rat.le_of_lt hp)
    grind
end Go.Vm
namespace Go.Vm
open Ieee
set_option linter.unusedVariables false
set_option linter.unusedSimpArgs false

/-! ### Lengths, logarithms and angles of two sights -/
theorem len_at {L X Y : Rat} (hL : 0 < L) (h : (L * L - (X * X + Y * Y)).abs ≤ 11 / 5 * eps * (X * X + Y * Y)) (lo : 2497 / 10000 ≤ X * X + Y * Y) (hi : X * X + Y * Y ≤ 2100) :
    45 / 100 ≤ L ∧ L ≤ 46 ∧ X.abs + Y.abs ≤ 14143 / 10000 * L ∧ 11 / 5 * eps * (X * X + Y * Y) ≤ 102 * eps * L := by
  have ep := eps_pos
  have e6 := eps6
  have e1 : X.abs * X.abs = X * X := by rw [← abs_mul, sq_abs]
  have e2 : Y.abs * Y.abs = Y * Y := by rw [← abs_mul, sq_abs]
  have s := sq_nonneg (X.abs - Y.abs)
  have f := abs_le_iff.1 h
  have m := Rat.mul_le_mul_of_nonneg_right e6 (show 0 ≤ X * X + Y * Y by grind)
  have hs : (X.abs + Y.abs) * (X.abs + Y.abs) ≤ 2 * (X * X + Y * Y) := by grind
  generalize X * X + Y * Y = A at *
  have l1 : 45 / 100 ≤ L := le_of_sq_le (Rat.le_of_lt hL) (by grind)
  have l2 : L ≤ 46 := le_of_sq_le (by grind) (by grind)
  have l3 : L * L ≤ 46 * L := Rat.mul_le_mul_of_nonneg_right l2 (Rat.le_of_lt hL)
  refine ⟨l1, l2, le_of_sq_le (by grind) (by grind), ?_⟩
  have a : A ≤ 461 / 10 * L := by grind
  have := Rat.mul_le_mul_of_nonneg_left a (show 0 ≤ 11 / 5 * eps by grind)
  have := Rat.mul_pos ep hL
  grind
theorem sq_diff {X X' k : Rat} (h : (X - X').abs ≤ k) : (X * X - X' * X').abs ≤ k * (X.abs + X'.abs) := by
  rw [show X * X - X' * X' = (X - X') * (X + X') by grind, abs_mul]
  have := abs_nonneg (X - X')
  exact mul_mono' h (abs_add_le _ _) (abs_nonneg _) (by grind)
theorem len_two {L L' X X' Y Y' k : Rat} (hL : 0 < L) (h : (L * L - (X * X + Y * Y)).abs ≤ 11 / 5 * eps * (X * X + Y * Y)) (lo : 2497 / 10000 ≤ X * X + Y * Y) (hi : X * X + Y * Y ≤ 2100)
    (hL' : 0 < L') (h' : (L' * L' - (X' * X' + Y' * Y')).abs ≤ 11 / 5 * eps * (X' * X' + Y' * Y')) (lo' : 2497 / 10000 ≤ X' * X' + Y' * Y') (hi' : X' * X' + Y' * Y' ≤ 2100)
    (dX : (X - X').abs ≤ k * eps) (dY : (Y - Y').abs ≤ k * eps) : (L - L').abs ≤ (142 / 100 * k + 102) * eps := by
  obtain ⟨a1, a2, a3, a4⟩ := len_at hL h lo hi
  obtain ⟨b1, b2, b3, b4⟩ := len_at hL' h' lo' hi'
  have s1 := sq_diff dX
  have s2 := sq_diff dY
  have ep := eps_pos
  have k0 : 0 ≤ k * eps := Rat.le_trans (abs_nonneg _) dX
  have t1 := abs_add_le (X * X - X' * X') (Y * Y - Y' * Y')
  have t2 := abs_add_le (L * L - (X * X + Y * Y)) (-(L' * L' - (X' * X' + Y' * Y')))
  rw [abs_neg] at t2
  have t3 := abs_add_le (L * L - (X * X + Y * Y) + -(L' * L' - (X' * X' + Y' * Y'))) (X * X - X' * X' + (Y * Y - Y' * Y'))
  rw [show L * L - (X * X + Y * Y) + -(L' * L' - (X' * X' + Y' * Y')) + (X * X - X' * X' + (Y * Y - Y' * Y')) = (L - L') * (L + L') by grind, abs_mul, Rat.abs_of_nonneg (show 0 ≤ L + L' by grind)] at t3
  refine le_of_mul (L := L + L') (by grind) ?_
  have m := Rat.mul_le_mul_of_nonneg_left (show X.abs + X'.abs + (Y.abs + Y'.abs) ≤ 142 / 100 * (L + L') by grind) k0
  generalize (X * X - X' * X').abs = z1 at *
  generalize (Y * Y - Y' * Y').abs = z2 at *
  generalize (X * X - X' * X' + (Y * Y - Y' * Y')).abs = z3 at *
  generalize (L * L - (X * X + Y * Y) + -(L' * L' - (X' * X' + Y' * Y'))).abs = z4 at *
  generalize (L * L - (X * X + Y * Y)).abs = z5 at *
  generalize (L' * L' - (X' * X' + Y' * Y')).abs = z6 at *
  generalize (L - L').abs = z7 at *
  generalize X.abs = z8 at *
  generalize Y.abs = z9 at *
  generalize X'.abs = u8 at *
  generalize Y'.abs = u9 at *
  have h5 := Rat.le_trans h a4
  have h6 := Rat.le_trans h' b4
  clear h h' dX dY lo lo' hi hi' a4 b4
  grind
/-- logarithms of two sights -/
theorem pair_log {k : Rat} {x y x' y' : Nat} {X Y X' Y' : Rat} (ix : Is x X) (iy : Is y Y) (ix' : Is x' X') (iy' : Is y' Y') (aX : X.abs ≤ 46) (aY : Y.abs ≤ 46) (aX' : X'.abs ≤ 46) (aY' : Y'.abs ≤ 46)
    (lo : 2497 / 10000 ≤ X * X + Y * Y) (hi : X * X + Y * Y ≤ 2100) (lo' : 2497 / 10000 ≤ X' * X' + Y' * Y') (hi' : X' * X' + Y' * Y' ≤ 2100)
    (dX : (X - X').abs ≤ k * eps) (dY : (Y - Y').abs ≤ k * eps) (k0 : 0 ≤ k) (k1 : k ≤ 1000) (sg : (0 < Y ∧ 0 < Y') ∨ (Y < 0 ∧ Y' < 0)) :
    ∃ a a' b b', Pr 8 (412 / 100 * k + 406) a a' ∧ Pr (13 / 2) (53 / 5 * k + 101) b b' ∧ (∀ (R : Type) (f : Nat → Nat → Option R), powLogK R x y f = f a b) ∧ ∀ (R : Type) (f : Nat → Nat → Option R), powLogK R x' y' f = f a' b' := by
  have mx := part_low lo
  have mx' := part_low lo'
  have e12 := eps12
  have ep := eps_pos
  have d1 : k * eps ≤ 1 / 1000000 := by
    have := mul_mono' k1 e12 (Rat.le_of_lt ep) (by grind)
    grind
  obtain ⟨b, b', p2, g3, g4⟩ := angle_pr (A := 46) iy iy' ix ix' aY aY' aX aX' dY dX k0 (by grind) sg mx mx'
  obtain ⟨l, L, iL, hL, dL, fL⟩ := length_fine ix iy (by grind) (by grind) mx.symm
  obtain ⟨l', L', iL', hL', dL', fL'⟩ := length_fine ix' iy' (by grind) (by grind) mx'.symm
  obtain ⟨q1, q2, _⟩ := len_at hL dL lo hi
  obtain ⟨q1', q2', _⟩ := len_at hL' dL' lo' hi'
  have dd := len_two hL dL lo hi hL' dL' lo' hi' dX dY
  obtain ⟨a, a', p1, g1, g2⟩ := log_pr (k := 142 / 100 * k + 102) iL iL' q1 q1' (by grind) (by grind) dd (by grind) (by rw [Rat.add_mul]; grind)
  refine ⟨a, a', b, b', p1.mono Rat.le_refl (by grind), p2, fun R f => ?_, fun R f => ?_⟩
  · show lengthK R x y (fun l => logK R l fun x' => angleK R y x fun y' => f x' y') = _
    rw [fL, g1, g3]
  · show lengthK R x' y' (fun l => logK R l fun z => angleK R y' x' fun y' => f z y') = _
    rw [fL', g2, g4]
end Go.Vm
namespace Go.Vm
open Ieee
set_option linter.unusedVariables false
set_option linter.unusedSimpArgs false

/-! ### Halves of whole numbers -/
def Hv (w : Nat) (a : Int) : Prop := Is w ((a : Rat) / 2)
theorem hv_abs {a : Int} {N : Nat} {B : Rat} (h : a.natAbs ≤ N) (hN : ((N : Nat) : Rat) = 2 * B) : ((a : Rat) / 2).abs ≤ B := by
  have := int_le (N := N) (B := 2 * B) h hN
  have a := abs_le_iff.1 this
  exact abs_le_iff.2 ⟨by grind, by grind⟩
theorem nab_sub {x y : Int} (h1 : x.natAbs ≤ 32) (h2 : y.natAbs ≤ 32) : (x - y).natAbs ≤ 64 := by omega
theorem nab_128 {x y : Int} (h1 : x.natAbs ≤ 32) (h2 : y.natAbs ≤ 32) : (x - y).natAbs ≤ 128 := by omega
theorem nab_500 {x : Int} (h1 : x.natAbs ≤ 32) : x.natAbs ≤ 500 := by omega
theorem n1000 : ((1000 : Nat) : Rat) = 2 * 500 := by
  rw [show ((1000 : Nat) : Rat) = 1000 from rfl]
  grind
theorem hv_sub {a b : Nat} {x y : Int} (ha : Hv a x) (hb : Hv b y) (h1 : x.natAbs ≤ 500) (h2 : y.natAbs ≤ 500) : ∃ r, fbF .sub a b = some r ∧ Hv r (x - y) := by
  have e : (x : Rat) / 2 - (y : Rat) / 2 = ((x - y : Int) : Rat) / 2 := by rw [Rat.intCast_sub]; grind
  have b0 := hv_abs (N := 1000) (a := x - y) (by omega) n1000
  obtain ⟨r, z, f, i, q⟩ := sub_is ha hb (lt_p2_1023 (by rw [e]; grind))
  have := q.rep (x - y) (-1) (by omega) (by omega) (by rw [p2_m1, e]; grind)
  rw [this, e] at i
  exact ⟨r, f, i⟩
theorem hv_add {a b : Nat} {x y : Int} (ha : Hv a x) (hb : Hv b y) (h1 : x.natAbs ≤ 500) (h2 : y.natAbs ≤ 500) : ∃ r, fbF .add a b = some r ∧ Hv r (x + y) := by
  have e : (x : Rat) / 2 + (y : Rat) / 2 = ((x + y : Int) : Rat) / 2 := by rw [Rat.intCast_add]; grind
  have b0 := hv_abs (N := 1000) (a := x + y) (by omega) n1000
  obtain ⟨r, z, f, i, q⟩ := add_is ha hb (lt_p2_1023 (by rw [e]; grind))
  have := q.rep (x + y) (-1) (by omega) (by omega) (by rw [p2_m1, e]; grind)
  rw [this, e] at i
  exact ⟨r, f, i⟩
theorem two_is : Is 4611686018427387904 (2 : Rat) := by
  have := is_num (w := 4611686018427387904) (m := 4503599627370496) (n := 51) (by decide) (by decide)
  have e : ((2 ^ 51 : Nat) : Rat) = 2251799813685248 := rfl
  have e2 : ((4503599627370496 : Nat) : Rat) = 4503599627370496 := rfl
  rw [e, e2] at this
  rw [show (2 : Rat) = 4503599627370496 * (1 / 2251799813685248) by grind]
  exact this
theorem p1022 {x : Rat} (h : x.abs ≤ 1000) : x.abs < (2 : Rat) ^ (1022 : Int) := by
  have h6 := p2_le (show (10 : Int) ≤ 1022 by decide)
  have h8 : (2 : Rat) ^ (10 : Int) = 1024 := by rw [show (10 : Int) = ((10 : Nat) : Int) by rfl, p2_nat]; rfl
  grind
/-- the half of a whole number -/
theorem int_half {a : Nat} {x : Int} (ha : Is a (x : Rat)) (h1 : x.natAbs ≤ 500) : ∃ r, fbF .quo a 4611686018427387904 = some r ∧ Hv r x := by
  have b0 := hv_abs (N := 1000) (a := x) (by omega) n1000
  obtain ⟨r, z, f, i, q⟩ := div_is ha two_is (by grind) (p1022 (by grind))
  have := q.rep x (-1) (by omega) (by omega) (by rw [p2_m1]; grind)
  rw [this] at i
  exact ⟨r, f, i⟩
theorem hv_half {a : Nat} {x : Int} (ha : Hv a x) (h1 : x.natAbs ≤ 500) : ∃ r, fbF .quo a 4611686018427387904 = some r ∧ Is r ((x : Rat) / 4) := by
  have b0 := hv_abs (N := 1000) (a := x) (by omega) n1000
  have b1 := abs_le_iff.1 b0
  obtain ⟨r, z, f, i, q⟩ := div_is ha two_is (by grind) (p1022 (abs_le_iff.2 ⟨by grind, by grind⟩))
  have := q.rep x (-2) (by omega) (by omega) (by rw [p2_m2]; grind)
  rw [this, show (x : Rat) / 2 / 2 = (x : Rat) / 4 by grind] at i
  exact ⟨r, f, i⟩
theorem mids_come {a b : Nat} {x y : Int} (ha : Hv a x) (hb : Hv b y) (h1 : x.natAbs ≤ 500) (h2 : y.natAbs ≤ 500) :
    ∃ p q r, fbF .quo a 4611686018427387904 = some p ∧ fbF .quo b 4611686018427387904 = some q ∧ fbF .add p q = some r := by
  obtain ⟨p, e1, i1⟩ := hv_half ha h1
  obtain ⟨q, e2, i2⟩ := hv_half hb h2
  have b1 := abs_le_iff.1 (hv_abs (N := 1000) (a := x) (by omega) n1000)
  have b2 := abs_le_iff.1 (hv_abs (N := 1000) (a := y) (by omega) n1000)
  obtain ⟨r, z, e3, _, _⟩ := add_is i1 i2 (lt_p2_1023 (abs_le_iff.2 ⟨by grind, by grind⟩))
  exact ⟨p, q, r, e1, e2, e3⟩
theorem hv_within {a : Nat} {x : Int} (ha : Hv a x) (h1 : x.natAbs ≤ 500) {R : Type} (k : Bool → Option R) : withinK R a 4787326403894837248 k = k true :=
  withinK_is ha (by have := hv_abs (N := 1000) (a := x) (by omega) n1000; grind) k
theorem hv_Within {a b : Nat} {x y : Int} (ha : Hv a x) (hb : Hv b y) (h1 : x.natAbs ≤ 500) (h2 : y.natAbs ≤ 500) {R : Type} (k : Bool → Option R) : WithinK R a b 4787326403894837248 k = k true := by
  unfold WithinK WithinB
  rw [hv_within ha h1, forceB_eq]
  simp only
  rw [hv_within hb h2, forceB_eq]
/-- adding nought changes no value -/
theorem add_zero_is {a : Nat} {x : Rat} (ha : Is a x) (hx : x.abs ≤ 500) : ∃ r, fbF .add a 0 = some r ∧ Is r x := by
  have h0 : Is 0 (0 : Rat) := is_zero
  have e : x + 0 = x := by grind
  obtain ⟨r, z, f, i, q⟩ := add_is ha h0 (lt_p2_1023 (by rw [e]; grind))
  obtain ⟨K, e', k1, k2, k3, rfl⟩ := is_rep ha
  have := q.rep K e' (by omega) (by omega) (by rw [e])
  rw [this, e] at i
  exact ⟨r, f, i⟩
end Go.Vm
