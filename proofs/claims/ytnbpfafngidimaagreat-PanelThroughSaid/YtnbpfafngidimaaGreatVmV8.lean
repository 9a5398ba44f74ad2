/- A part of the evaluator and of what is told of floats; no conditions. -/
import Derived.Test.YtnbpfafngidimaaGreatVmV6
import Derived.Test.YtnbpfafngidimaaGreatVmV0
import Derived.Test.YtnbpfafngidimaaGreatVmUL6
import Derived.Test.YtnbpfafngidimaaGreatVmV1
import Derived.Test.YtnbpfafngidimaaGreatVmV12
namespace Go.Vm
open Go.Proofs Ieee
set_option linter.unusedVariables false
set_option linter.unusedSimpArgs false

/-! ### A panel between places of whole numbers -/
/-- what a piece's words are -/
structure PieceOk (U : Un) : Prop where
  u1 : Bv (101 / 100) U.u1
  u2 : Bv (101 / 100) U.u2
  l : Bv 60 U.l
  m1 : ∃ m : Int, m.natAbs ≤ 32 ∧ Hv U.m1 m
  m2 : ∃ m : Int, m.natAbs ≤ 32 ∧ Hv U.m2 m
/-- its way is a unit -/
def UnitU (U : Un) : Prop := (vl U.u1 * vl U.u1 + vl U.u2 * vl U.u2 - 1).abs ≤ 10 * eps
theorem pan_unit {L w1 w2 U1 U2 : Rat} (p : Pan L w1 w2) (h1 : (U1 * L - w1).abs ≤ eps / 2 * w1.abs + tn * L) (h2 : (U2 * L - w2).abs ≤ eps / 2 * w2.abs + tn * L) : (U1 * U1 + U2 * U2 - 1).abs ≤ 10 * eps ∧ U1.abs ≤ 101 / 100 ∧ U2.abs ≤ 101 / 100 := by
  have hL := p.pos
  obtain ⟨b1, b2, b3⟩ := p.bounds
  have sm := p.sum
  have ep := eps_pos
  have e6 := eps6
  have t0 := tn_pos
  have ts := tn_small
  have hLL := Rat.mul_pos hL hL
  have eL := Rat.mul_pos ep hL
  have a1 := abs_nonneg w1
  have a2 := abs_nonneg w2
  -- over L
  have k1 : w1.abs ≤ 1001 / 1000 * L := by
    refine le_of_sq_le (by grind) ?_
    have : w1.abs * w1.abs = w1 * w1 := by rw [← abs_mul, sq_abs]
    have := sq_nonneg w2
    grind
  have k2 : w2.abs ≤ 1001 / 1000 * L := by
    refine le_of_sq_le (by grind) ?_
    have : w2.abs * w2.abs = w2 * w2 := by rw [← abs_mul, sq_abs]
    have := sq_nonneg w1
    grind
  have d1 : (U1 * L - w1).abs ≤ 6 / 10 * eps * L := by
    have := Rat.mul_le_mul_of_nonneg_left k1 (show 0 ≤ eps / 2 by grind)
    have := Rat.mul_le_mul_of_nonneg_right ts (Rat.le_of_lt hL)
    grind
  have d2 : (U2 * L - w2).abs ≤ 6 / 10 * eps * L := by
    have := Rat.mul_le_mul_of_nonneg_left k2 (show 0 ≤ eps / 2 by grind)
    have := Rat.mul_le_mul_of_nonneg_right ts (Rat.le_of_lt hL)
    grind
  have bd : ∀ {U w : Rat}, (U * L - w).abs ≤ 6 / 10 * eps * L → w.abs ≤ 1001 / 1000 * L → U.abs ≤ 101 / 100 := fun {U w} hd hw => by
    have h := abs_near hd
    rw [abs_mul, Rat.abs_of_nonneg (Rat.le_of_lt hL)] at h
    refine Rat.le_of_mul_le_mul_right (c := L) ?_ hL
    have := Rat.mul_le_mul_of_nonneg_right e6 (Rat.le_of_lt hL)
    grind
  have B1 := bd d1 k1
  have B2 := bd d2 k2
  refine ⟨?_, B1, B2⟩
  -- squares
  have sq : ∀ {U w : Rat}, (U * L - w).abs ≤ 6 / 10 * eps * L → w.abs ≤ 1001 / 1000 * L → U.abs ≤ 101 / 100 → (U * L * (U * L) - w * w).abs ≤ 13 / 10 * eps * (L * L) := fun {U w} hd hw hU => by
    have e : U * L * (U * L) - w * w = (U * L - w) * (U * L + w) := by grind
    have h2 : (U * L + w).abs ≤ 2012 / 1000 * L := by
      have h := abs_add_le (U * L) w
      rw [abs_mul, Rat.abs_of_nonneg (Rat.le_of_lt hL)] at h
      have := Rat.mul_le_mul_of_nonneg_right hU (Rat.le_of_lt hL)
      grind
    rw [e, abs_mul]
    have h3 := mul_mono' hd h2 (abs_nonneg _) (show 0 ≤ 6 / 10 * eps * L by have := Rat.mul_nonneg (show 0 ≤ 6 / 10 * eps by grind) (Rat.le_of_lt hL); grind)
    have := Rat.mul_nonneg (Rat.le_of_lt ep) (Rat.le_of_lt hLL)
    have e2 : 6 / 10 * eps * L * (2012 / 1000 * L) = (12072 / 10000) * (eps * (L * L)) := by grind
    grind
  have s1 := sq d1 k1 B1
  have s2 := sq d2 k2 B2
  refine Rat.le_of_mul_le_mul_right (c := L * L) ?_ hLL
  have e1 : (U1 * U1 + U2 * U2 - 1).abs * (L * L) = (U1 * L * (U1 * L) + U2 * L * (U2 * L) - L * L).abs := by
    rw [← Rat.abs_of_nonneg (Rat.le_of_lt hLL), ← abs_mul, Rat.abs_of_nonneg (Rat.le_of_lt hLL)]
    congr 1
    grind
  rw [e1]
  have f1 := abs_le_iff.1 s1
  have f2 := abs_le_iff.1 s2
  have f3 := abs_le_iff.1 b3
  have := Rat.mul_nonneg (Rat.le_of_lt ep) (Rat.le_of_lt hLL)
  exact abs_le_iff.2 ⟨by grind, by grind⟩
/-- the middle's words -/
structure MidU (f1 f2 t1 t2 : Nat) (U : Un) : Prop where
  a : ∃ p q, fbF .quo f1 4611686018427387904 = some p ∧ fbF .quo t1 4611686018427387904 = some q ∧ fbF .add p q = some U.m1
  b : ∃ p q, fbF .quo f2 4611686018427387904 = some p ∧ fbF .quo t2 4611686018427387904 = some q ∧ fbF .add p q = some U.m2
theorem mid_of {f t : Nat} (hf : W16 f) (ht : W16 t) : ∃ p q r, fbF .quo f 4611686018427387904 = some p ∧ fbF .quo t 4611686018427387904 = some q ∧ fbF .add p q = some r ∧ ∃ m : Int, m.natAbs ≤ 32 ∧ Hv r m := by
  obtain ⟨a, a1, a2⟩ := hf
  obtain ⟨c, c1, c2⟩ := ht
  obtain ⟨p, p1, p2⟩ := int_half a2 (by omega)
  obtain ⟨q, q1, q2⟩ := int_half c2 (by omega)
  obtain ⟨r, r1, r2⟩ := hv_add p2 q2 (by omega) (by omega)
  exact ⟨p, q, r, p1, q1, r1, a + c, by omega, r2⟩
theorem w16_within {s : Nat} (h : leF (absW s) 4787326403894837248 = true) {R : Type} (X : Option R) : ffT withinK R s 4787326403894837248 X = X := by
  show forceB (leF (absW s) 4787326403894837248) (fun t => yesB X t) = X
  rw [forceB_eq, h]
  rfl
theorem w16_Within {a b : Nat} (h1 : W16 a) (h2 : W16 b) {R : Type} (X : Option R) : cfT WithinK R a b 4787326403894837248 X = X := by
  obtain ⟨m, m1, m2⟩ := w16_hv h1
  obtain ⟨n, n1, n2⟩ := w16_hv h2
  show WithinK R a b 4787326403894837248 (fun t => yesB X t) = X
  rw [hv_Within m2 n2 (by omega) (by omega)]
  rfl
theorem len_nought {a b : Nat} (ha : Is a 0) (hb : Is b 0) : ∃ r, Is r 0 ∧ ∀ (R : Type) (k : Nat → Option R), lengthK R a b k = k r := by
  obtain ⟨r, L, h1, h2, h3, h4, h5, h6⟩ := lengthK_pos ha hb (d := 1) (by rw [abs_zero]; grind) (by rw [abs_zero]; grind) (Rat.le_trans (p2_small (by decide)) (by grind)) (one_le_p2 400)
  have := h4 rfl rfl
  subst this
  exact ⟨r, h1, h6⟩
theorem min_real : ∃ x : Rat, Is 4427038433705197568 x ∧ 0 < x ∧ x ≤ 1 / 1000 := by
  have hi := fields_is (s := false) (E := 983) (f := 0) (by decide) (by decide) (by decide)
  obtain ⟨d1, d2⟩ := dv_band (s := false) (E := 983) (f := 0) (by decide)
  simp only [Bool.false_eq_true, if_false, Nat.zero_add, Nat.add_zero] at hi
  refine ⟨_, hi, ?_, ?_⟩
  · unfold dv sg
    simp only [Bool.false_eq_true, if_false]
    refine Rat.mul_pos (by grind) (Rat.mul_pos ?_ (p2_pos _))
    exact_mod_cast (show 0 < 2 ^ 52 + 0 by decide)
  · have := (abs_le_self (dv false (2 ^ 52 + 0) (((983 : Nat) : Int) - 1075))).1
    have h3 : (2 : Rat) ^ (((983 : Nat) : Int) - 1022) ≤ 1 / 1000 := Rat.le_trans (p2_le (show ((983 : Nat) : Int) - 1022 ≤ -10 by decide)) (by
      have h10 := p2_cancel 10
      have : (2 : Rat) ^ (10 : Int) = 1024 := by rw [show (10 : Int) = ((10 : Nat) : Int) by rfl, p2_nat]; rfl
      rw [this] at h10
      generalize (2 : Rat) ^ (-10 : Int) = u at *
      grind)
    exact Rat.le_trans this (Rat.le_trans (Rat.le_of_lt d2) h3)
theorem piece_out {f1 f2 t1 t2 : Nat} (hf1 : W16 f1) (hf2 : W16 f2) (ht1 : W16 t1) (ht2 : W16 t2) : ∃ U, PieceOk U ∧
    ((UnitU U ∧ MidU f1 f2 t1 t2 U ∧ ∀ s, leF (absW s) 4787326403894837248 = true → ∀ (R : Type) (er : Option R) (ok : Nat → Nat → Nat → Nat → Nat → Option R), of2K R f1 f2 t1 t2 s er ok = ok U.u1 U.u2 U.m1 U.m2 U.l) ∨
    (∀ (R : Type) (er : Option R) (ok : Nat → Nat → Nat → Nat → Nat → Option R), of2K R f1 f2 t1 t2 0 er ok = er)) := by
  obtain ⟨a1, A1, I1⟩ := hf1
  obtain ⟨a2, A2, I2⟩ := hf2
  obtain ⟨c1, C1, J1⟩ := ht1
  obtain ⟨c2, C2, J2⟩ := ht2
  have hh : ∀ {w : Nat} {x : Int}, Is w (x : Rat) → Hv w (2 * x) := fun {w x} h => by
    unfold Hv
    have : ((2 * x : Int) : Rat) / 2 = (x : Rat) := by push_cast; rw [Rat.div_def]; grind
    rw [this]
    exact h
  obtain ⟨w1, e1, g1⟩ := hv_sub (hh J1) (hh I1) (by omega) (by omega)
  obtain ⟨w2, e2, g2⟩ := hv_sub (hh J2) (hh I2) (by omega) (by omega)
  obtain ⟨M, hM, hM0, hM1⟩ := min_real
  have start : ∀ s, leF (absW s) 4787326403894837248 = true → ∀ (R : Type) (er : Option R) (ok : Nat → Nat → Nat → Nat → Nat → Option R), of2K R f1 f2 t1 t2 s er ok = lengthK R w1 w2 fun l => forceB (geF l 4427038433705197568) fun t => match t with
      | false => er
      | true => unitK R w1 w2 fun u1 u2 => bindF (fbF .quo f1 4611686018427387904) fun x => bindF (fbF .quo t1 4611686018427387904) fun y => bindF (fbF .add x y) fun m1 =>
          bindF (fbF .quo f2 4611686018427387904) fun x => bindF (fbF .quo t2 4611686018427387904) fun y => bindF (fbF .add x y) fun m2 => ok u1 u2 m1 m2 l := fun s hs R er ok => by
    unfold of2K ofB
    rw [w16_Within ⟨a1, A1, I1⟩ ⟨a2, A2, I2⟩, w16_Within ⟨c1, C1, J1⟩ ⟨c2, C2, J2⟩, w16_within hs]
    unfold subK
    simp only [bindF_eq e1, bindF_eq e2]
    rfl
  by_cases h0 : 2 * c1 - 2 * a1 = 0 ∧ 2 * c2 - 2 * a2 = 0
  · have z1 : Is w1 0 := by unfold Hv at g1; rw [h0.1] at g1; rwa [show ((0 : Int) : Rat) / 2 = 0 by rw [Rat.div_def]; simp] at g1
    have z2 : Is w2 0 := by unfold Hv at g2; rw [h0.2] at g2; rwa [show ((0 : Int) : Rat) / 2 = 0 by rw [Rat.div_def]; simp] at g2
    obtain ⟨r, hr, hk⟩ := len_nought z1 z2
    refine ⟨⟨0, 0, 0, 0, 0⟩, ⟨⟨0, is0, by rw [abs_zero]; grind⟩, ⟨0, is0, by rw [abs_zero]; grind⟩, ⟨0, is0, by rw [abs_zero]; grind⟩, ⟨0, by decide, ?_⟩, ⟨0, by decide, ?_⟩⟩, .inr fun R er ok => ?_⟩
    · unfold Hv; rw [show ((0 : Int) : Rat) / 2 = 0 by rw [Rat.div_def]; simp]; exact is0
    · unfold Hv; rw [show ((0 : Int) : Rat) / 2 = 0 by rw [Rat.div_def]; simp]; exact is0
    · rw [start 0 (by decide), hk, forceB_eq, geF_is hr hM, decide_eq_false (by grind)]
  · have h0' : 2 * c1 - 2 * a1 ≠ 0 ∨ 2 * c2 - 2 * a2 ≠ 0 := by omega
    obtain ⟨l, L, u1, u2, U1, U2, iL, L0, dL, iu1, iu2, d1, d2, hlen, hun⟩ := len_unit g1 g2 (by omega) (by omega) h0'
    obtain ⟨p1, q1, m1, x1, x2, x3, x4⟩ := mid_of ⟨a1, A1, I1⟩ ⟨c1, C1, J1⟩
    obtain ⟨p2, q2, m2, y1, y2, y3, y4⟩ := mid_of ⟨a2, A2, I2⟩ ⟨c2, C2, J2⟩
    have pan : Pan L (((2 * c1 - 2 * a1 : Int) : Rat) / 2) (((2 * c2 - 2 * a2 : Int) : Rat) / 2) := ⟨L0, dL⟩
    obtain ⟨un, B1, B2⟩ := pan_unit pan d1 d2
    have b1 : ((((2 * c1 - 2 * a1 : Int)) : Rat) / 2).abs ≤ 32 := hv_abs (N := 64) (B := 32) (by omega) (by norm_cast)
    have b2 : ((((2 * c2 - 2 * a2 : Int)) : Rat) / 2).abs ≤ 32 := hv_abs (N := 64) (B := 32) (by omega) (by norm_cast)
    have lo : 1 / 4 ≤ ((2 * c1 - 2 * a1 : Int) : Rat) / 2 * (((2 * c1 - 2 * a1 : Int) : Rat) / 2) + ((2 * c2 - 2 * a2 : Int) : Rat) / 2 * (((2 * c2 - 2 * a2 : Int) : Rat) / 2) := by
      have n1 := sq_nonneg (((2 * c1 - 2 * a1 : Int) : Rat) / 2)
      have n2 := sq_nonneg (((2 * c2 - 2 * a2 : Int) : Rat) / 2)
      rcases h0' with h | h
      · have := sq_ge (half_abs h) (by grind); grind
      · have := sq_ge (half_abs h) (by grind); grind
    have hi1 := pan.bounds.1
    have hi2 := pan.bounds.2.1
    generalize ((2 * c1 - 2 * a1 : Int) : Rat) / 2 = W1 at *
    generalize ((2 * c2 - 2 * a2 : Int) : Rat) / 2 = W2 at *
    have Lhi : L ≤ 60 := by
      refine le_of_sq_le (by decide) ?_
      have s1 : W1 * W1 ≤ 32 * 32 := by have := mul_mono' b1 b1 (abs_nonneg _) (by decide); rw [← abs_mul, sq_abs] at this; exact this
      have s2 : W2 * W2 ≤ 32 * 32 := by have := mul_mono' b2 b2 (abs_nonneg _) (by decide); rw [← abs_mul, sq_abs] at this; exact this
      grind
    have Llo : 1 / 1000 ≤ L := by
      refine Rat.not_lt.1 fun h => ?_
      have := Rat.mul_le_mul_of_nonneg_left (Rat.le_of_lt h) (Rat.le_of_lt L0)
      grind
    refine ⟨⟨u1, u2, m1, m2, l⟩, ⟨⟨U1, iu1, B1⟩, ⟨U2, iu2, B2⟩, ⟨L, iL, by rw [Rat.abs_of_nonneg (Rat.le_of_lt L0)]; exact Lhi⟩, x4, y4⟩, .inl ⟨?_, ⟨⟨p1, q1, x1, x2, x3⟩, ⟨p2, q2, y1, y2, y3⟩⟩, fun s hs R er ok => ?_⟩⟩
    · unfold UnitU
      rw [vl_eq iu1, vl_eq iu2]
      exact un
    · rw [start s hs, hlen, forceB_eq, geF_is iL hM, decide_eq_true (by grind)]
      simp only
      rw [show unitK R w1 w2 = UK R w1 w2 from rfl, hun]
      simp only [bindF_eq x1, bindF_eq x2, bindF_eq x3, bindF_eq y1, bindF_eq y2, bindF_eq y3]
end Go.Vm
namespace Go.Vm
open Go.Proofs Ieee
set_option linter.unusedVariables false
set_option linter.unusedSimpArgs false
set_option maxRecDepth 1000000

/-! ### The body's data -/
theorem pt5_is : Is 4602678819172646912 (1 / 2 : Rat) := by
  have hi := fields_is (s := false) (E := 1022) (f := 0) (by decide) (by decide) (by decide)
  simp only [Bool.false_eq_true, if_false, Nat.zero_add, Nat.add_zero] at hi
  have e : dv false (2 ^ 52) (((1022 : Nat) : Int) - 1075) = 1 / 2 := by
    unfold dv sg
    simp only [Bool.false_eq_true, if_false]
    have c := p2_cancel 53
    have h53 : (2 : Rat) ^ (53 : Int) = 9007199254740992 := by rw [show (53 : Int) = ((53 : Nat) : Int) by rfl, p2_nat]; rfl
    rw [h53] at c
    rw [show (((1022 : Nat) : Int) - 1075) = -53 by decide, show ((2 ^ 52 : Nat) : Rat) = 4503599627370496 from rfl]
    generalize (2 : Rat) ^ (-53 : Int) = q at *
    grind
  rw [e] at hi
  exact hi
/-- every panel's piece, or none -/
theorem pieces {n : Nat} {l : Nat → Nat × Nat} (hl : ∀ i, W16 (l i).1 ∧ W16 (l i).2) : ∃ (U : Nat → Un) (bad : Nat → Bool), (∀ i, PieceOk (U i)) ∧ OfD n l U bad ∧
    ∀ i, bad i = false → UnitU (U i) ∧ MidU (l i).1 (l i).2 (l (nxt n i)).1 (l (nxt n i)).2 (U i) ∧ ∀ s, leF (absW s) 4787326403894837248 = true → ∀ (R : Type) (er : Option R) (ok : Nat → Nat → Nat → Nat → Nat → Option R), of2K R (l i).1 (l i).2 (l (nxt n i)).1 (l (nxt n i)).2 s er ok = ok (U i).u1 (U i).u2 (U i).m1 (U i).m2 (U i).l := by
  have key : ∀ i, ∃ r : Un × Bool, PieceOk r.1 ∧ (r.2 = false → UnitU r.1 ∧ MidU (l i).1 (l i).2 (l (nxt n i)).1 (l (nxt n i)).2 r.1 ∧ ∀ s, leF (absW s) 4787326403894837248 = true → ∀ (R : Type) (er : Option R) (ok : Nat → Nat → Nat → Nat → Nat → Option R), of2K R (l i).1 (l i).2 (l (nxt n i)).1 (l (nxt n i)).2 s er ok = ok r.1.u1 r.1.u2 r.1.m1 r.1.m2 r.1.l) ∧
      (r.2 = true → ∀ (R : Type) (er : Option R) (ok : Nat → Nat → Nat → Nat → Nat → Option R), of2K R (l i).1 (l i).2 (l (nxt n i)).1 (l (nxt n i)).2 0 er ok = er) := fun i => by
    obtain ⟨U, h1, h2 | h2⟩ := piece_out (hl i).1 (hl i).2 (hl (nxt n i)).1 (hl (nxt n i)).2
    · exact ⟨(U, false), h1, fun _ => h2, fun h => by cases h⟩
    · exact ⟨(U, true), h1, (fun h => by cases h), fun _ => h2⟩
  let F := fun i => Classical.choose (key i)
  have hF : ∀ i, _ := fun i => Classical.choose_spec (key i)
  refine ⟨fun i => (F i).1, fun i => (F i).2, fun i => (hF i).1, ⟨fun i hi R X => w16_Within (hl i).1 (hl i).2 X, fun i hi h => (hF i).2.2 h, fun i hi h R er ok => ((hF i).2.1 h).2.2 0 (by decide) R er ok⟩, fun i h => (hF i).2.1 h⟩
theorem hv_bv {w : Nat} (h : ∃ m : Int, m.natAbs ≤ 32 ∧ Hv w m) : Bv 20 w := by
  obtain ⟨m, h1, h2⟩ := h
  exact ⟨_, h2, Rat.le_trans (hv_abs (N := 32) (B := 16) h1 (by norm_cast)) (by grind)⟩
theorem w16_bv {w : Nat} (h : W16 w) : Bv 20 w := (w16_bg h).bv.mono (by grind)
/-- the rows -/
theorem rows_exist {n : Nat} {l : Nat → Nat × Nat} (hl : ∀ i, W16 (l i).1 ∧ W16 (l i).2) {U : Nat → Un} (hU : ∀ i, PieceOk (U i)) : ∃ (v : Nat → Nat → Nat × Nat) (e : Nat → Nat → Int), (∀ i, RowV n i (pn n l) U (v i) (e i)) ∧ (∀ i j, 0 ≤ e i j) ∧
    (∀ i j, e i j = 0 → Bv 261 (v i j).1 ∧ Bv 261 (v i j).2) ∧ ∀ i, (vl (v i i).1 - vl (U i).u2 / 2).abs ≤ eps ∧ (vl (v i i).2 - vl (U i).u1 / 2).abs ≤ eps := by
  have at_ : ∀ i j, ∃ r : (Nat × Nat) × Int, AtOut r.1.1 r.1.2 r.2 ∧ ∀ (R : Type) (k : Nat → Nat → Int → Option R), plK R (l j).1 (l j).2 (U j).u1 (U j).u2 (U j).l (U i).m1 (U i).m2 k = k r.1.1 r.1.2 r.2 := fun i j => by
    obtain ⟨x, y, e, h1, h2⟩ := plK_out (w16_bv (hl j).1) (w16_bv (hl j).2) (hU j).u1 (hU j).u2 (hU j).l (hv_bv (hU i).m1) (hv_bv (hU i).m2)
    exact ⟨((x, y), e), h1, h2⟩
  have own : ∀ i, ∃ r : Nat × Nat, Bv 261 r.1 ∧ Bv 261 r.2 ∧ (vl r.1 - vl (U i).u2 / 2).abs ≤ eps ∧ (vl r.2 - vl (U i).u1 / 2).abs ≤ eps ∧ ∀ (R : Type) (k : Nat → Nat → Option R), (conjK R (U i).u1 (U i).u2 fun a b => timesK R a b fun a b => sclK R a b 4602678819172646912 k) = k r.1 r.2 := fun i => by
    obtain ⟨U1, i1, b1⟩ := (hU i).u1
    obtain ⟨U2, i2, b2⟩ := (hU i).u2
    have n2 := neg_is (neg_is i2)
    rw [show - -U2 = U2 by grind] at n2
    have b200 := big200_lo
    have ha : (1 / 2 : Rat).abs = 1 / 2 := Rat.abs_of_nonneg (by grind)
    obtain ⟨a, A, f1, j1, e1, _⟩ := fine_mul n2 pt5_is (by rw [ha]; grind)
    obtain ⟨b, B, f2, j2, e2, _⟩ := fine_mul i1 pt5_is (by rw [ha]; grind)
    rw [ha] at e1 e2
    have ep := eps_pos
    have el := eps_le
    have t0 := tn_pos
    have ts := tn_small
    have m1 := Rat.mul_le_mul_of_nonneg_left b2 (Rat.le_of_lt ep)
    have m2 := Rat.mul_le_mul_of_nonneg_left b1 (Rat.le_of_lt ep)
    have g1 : (A - U2 / 2).abs ≤ eps := by rw [show U2 / 2 = U2 * (1 / 2) by rw [Rat.div_def, Rat.div_def]; grind]; grind
    have g2 : (B - U1 / 2).abs ≤ eps := by rw [show U1 / 2 = U1 * (1 / 2) by rw [Rat.div_def, Rat.div_def]; grind]; grind
    have h1 := abs_near e1
    have h2 := abs_near e2
    rw [abs_mul, ha] at h1 h2
    refine ⟨(a, b), ⟨A, j1, by grind⟩, ⟨B, j2, by grind⟩, ?_, ?_, fun R k => ?_⟩
    · rw [vl_eq j1, vl_eq i2]; exact g1
    · rw [vl_eq j2, vl_eq i1]; exact g2
    · unfold conjK timesK sclK
      simp only [forceN_eq]
      simp only [bindF_eq f1, bindF_eq f2]
  obtain ⟨V, hV⟩ : ∃ V : Nat → Nat → (Nat × Nat) × Int, ∀ i j, AtOut (V i j).1.1 (V i j).1.2 (V i j).2 ∧ ∀ (R : Type) (k : Nat → Nat → Int → Option R), plK R (l j).1 (l j).2 (U j).u1 (U j).u2 (U j).l (U i).m1 (U i).m2 k = k (V i j).1.1 (V i j).1.2 (V i j).2 :=
    ⟨fun i j => Classical.choose (at_ i j), fun i j => Classical.choose_spec (at_ i j)⟩
  obtain ⟨O, hO⟩ : ∃ O : Nat → Nat × Nat, ∀ i, Bv 261 (O i).1 ∧ Bv 261 (O i).2 ∧ (vl (O i).1 - vl (U i).u2 / 2).abs ≤ eps ∧ (vl (O i).2 - vl (U i).u1 / 2).abs ≤ eps ∧ ∀ (R : Type) (k : Nat → Nat → Option R), (conjK R (U i).u1 (U i).u2 fun a b => timesK R a b fun a b => sclK R a b 4602678819172646912 k) = k (O i).1 (O i).2 :=
    ⟨fun i => Classical.choose (own i), fun i => Classical.choose_spec (own i)⟩
  obtain ⟨v, hv1, hv2⟩ : ∃ v : Nat → Nat → Nat × Nat, (∀ i, v i i = O i) ∧ ∀ i j, j ≠ i → v i j = (V i j).1 := ⟨fun i j => if j = i then O i else (V i j).1, fun i => if_pos rfl, fun i j h => if_neg h⟩
  obtain ⟨e, he1, he2⟩ : ∃ e : Nat → Nat → Int, (∀ i, e i i = 0) ∧ ∀ i j, j ≠ i → e i j = (V i j).2 := ⟨fun i j => if j = i then 0 else (V i j).2, fun i => if_pos rfl, fun i j h => if_neg h⟩
  refine ⟨v, e, fun i => ⟨fun R k => ?_, he1 i, fun j hj hji R k => ?_⟩, fun i j => ?_, fun i j h => ?_, fun i => ?_⟩
  · rw [hv1]; exact (hO i).2.2.2.2 R k
  · rw [hv2 i j hji, he2 i j hji]; exact (hV i j).2 R k
  · by_cases hji : j = i
    · rw [hji, he1]; exact Int.le_refl 0
    · rw [he2 i j hji]
      rcases (hV i j).1 with ⟨h, _⟩ | ⟨h, _⟩
      · rw [h]; decide
      · rw [h]; decide
  · by_cases hji : j = i
    · rw [hji, hv1]; exact ⟨(hO i).1, (hO i).2.1⟩
    · rw [he2 i j hji] at h
      rw [hv2 i j hji]
      rcases (hV i j).1 with ⟨_, h1, h2⟩ | ⟨h1, _⟩
      · exact ⟨h1, h2⟩
      · rw [h1] at h; cases h
  · rw [hv1]; exact ⟨(hO i).2.2.1, (hO i).2.2.2.1⟩
/-- the flow's speeds at the middles -/
theorem speeds_exist {t : Bool} {m cb : Nat} {f : Nat → El} (hf : FlOk t m f) {U : Nat → Un} (hU : ∀ i, PieceOk (U i)) : ∃ (xy : Nat → Nat × Nat) (es : Nat → Int), (∀ i, SpOut 70 235 (xy i).1 (xy i).2 (es i)) ∧
    ∀ i (b : Nat) (H : AH), (t = true → ∃ sz, (b, .cells (elsV f 0 m) sz) ∈ H.objs) → FlatCall Tryz.prog 52 [flV b t m cb, .complex .f64 (U i).m1 (U i).m2] H (.tuple ⟨[.complex .f64 (xy i).1 (xy i).2, .int .i64 (es i)]⟩) := by
  have key : ∀ i, ∃ r : (Nat × Nat) × Int, SpOut 70 235 r.1.1 r.1.2 r.2 ∧ ∀ (b : Nat) (H : AH), (t = true → ∃ sz, (b, .cells (elsV f 0 m) sz) ∈ H.objs) → FlatCall Tryz.prog 52 [flV b t m cb, .complex .f64 (U i).m1 (U i).m2] H (.tuple ⟨[.complex .f64 r.1.1 r.1.2, .int .i64 r.2]⟩) := fun i => by
    obtain ⟨p, p1, p2⟩ := (hU i).m1
    obtain ⟨q, q1, q2⟩ := (hU i).m2
    obtain ⟨x, y, e, h1, h2⟩ := speed_call (c := cb) hf p2 q2 p1 q1
    exact ⟨((x, y), e), h1, h2⟩
  exact ⟨fun i => (Classical.choose (key i)).1, fun i => (Classical.choose (key i)).2, fun i => (Classical.choose_spec (key i)).1, fun i => (Classical.choose_spec (key i)).2⟩
theorem firstE_nonneg {e : Nat → Int} (h : ∀ j, 0 ≤ e j) : ∀ m k, 0 ≤ firstE e k m
  | 0, _ => Int.le_refl 0
  | m + 1, k => by
    unfold firstE
    cases (e k != 0) with
    | true => exact h k
    | false => exact firstE_nonneg h m (k + 1)
end Go.Vm
namespace Go.Vm
open Go.Proofs Ieee
set_option linter.unusedVariables false
set_option linter.unusedSectionVars false
set_option linter.unusedSimpArgs false
set_option maxRecDepth 1000000

/-! ### The rows' words, and how near they are -/
theorem Bv.vl {B : Rat} {w : Nat} (h : Bv B w) : Is w (vl w) ∧ (vl w).abs ≤ B := ⟨vl_is h.fin, h.le.2⟩
section
variable {n : Nat} {U : Nat → Un} (hU : ∀ i, PieceOk (U i)) {v : Nat → Nat → Nat × Nat} {e : Nat → Nat → Int} (hv : ∀ i j, e i j = 0 → Bv 261 (v i j).1 ∧ Bv 261 (v i j).2) {xy : Nat → Nat × Nat} {es : Nat → Int} (hs : ∀ i, SpOut 70 235 (xy i).1 (xy i).2 (es i))
include hv in
theorem ok_v {i : Nat} (h : okRow n e es i) {j : Nat} (hj : j < n) : Bv 261 (v i j).1 ∧ Bv 261 (v i j).2 := hv i j (firstE_zero n 0 h.1 j (Nat.zero_le _) (by omega))
include hs in
theorem ok_s {i : Nat} (h : okRow n e es i) : Bg 70 235 (xy i).1 ∧ Bg 70 235 (xy i).2 := by
  rcases hs i with ⟨_, h1⟩ | ⟨h1, _⟩
  · exact h1
  · have := h.2; rw [h1] at this; cases this
/-- how near the words are -/
structure Near (n : Nat) (U : Nat → Un) (v : Nat → Nat → Nat × Nat) (xy : Nat → Nat × Nat) (cA : Nat → Nat → Nat) (cB : Nat → Nat) (i : Nat) : Prop where
  a : ∀ j, j < n → Fin (cA i j) ∧ (vl (cA i j)).abs ≤ 530 ∧ (vl (cA i j) - (vl (v i j).1 * vl (U i).u2 + vl (v i j).2 * vl (U i).u1)).abs ≤ 530 * eps
  b : Fin (cB i) ∧ (vl (cB i) - (vl (xy i).1 * vl (U i).u2 + vl (xy i).2 * vl (U i).u1)).abs ≤ 2 * (eps * ((vl (xy i).1).abs + (vl (xy i).2).abs)) + 4 * tn ∧ (vl (xy i).1 = 0 → vl (xy i).2 = 0 → vl (cB i) = 0)
include hU hv hs
theorem rowD_exist : ∃ (cA : Nat → Nat → Nat) (cB : Nat → Nat), (∀ i, okRow n e es i → RowD n U v xy cA cB i) ∧ ∀ i, okRow n e es i → Near n U v xy cA cB i := by
  have ep := eps_pos
  have el := eps_le
  have t0 := tn_pos
  have ts := tn_small
  have P90 := p2_90_lo
  have ka : ∀ i j, ∃ c : Nat, okRow n e es i → j < n → (∃ x, ∀ (R : Type) (k : Nat → Nat → Option R), mulK R (v i j).1 (v i j).2 (U i).u1 (U i).u2 k = k x c) ∧ Fin c ∧ (vl c).abs ≤ 530 ∧ (vl c - (vl (v i j).1 * vl (U i).u2 + vl (v i j).2 * vl (U i).u1)).abs ≤ 530 * eps := fun i j => by
    by_cases h : okRow n e es i ∧ j < n
    · obtain ⟨b1, b2⟩ := ok_v hv h.1 h.2
      obtain ⟨i1, c1⟩ := b1.vl
      obtain ⟨i2, c2⟩ := b2.vl
      obtain ⟨i3, c3⟩ := (hU i).u1.vl
      obtain ⟨i4, c4⟩ := (hU i).u2.vl
      obtain ⟨x, y, Y, iY, eY, _, hk⟩ := fine_im i1 i2 i3 i4 (by grind) (by grind) (by grind) (by grind)
      refine ⟨y, fun _ _ => ⟨⟨x, hk⟩, ⟨Y, iY⟩, ?_⟩⟩
      rw [vl_eq iY]
      generalize vl (v i j).1 = A at *
      generalize vl (v i j).2 = B at *
      generalize vl (U i).u1 = C at *
      generalize vl (U i).u2 = D at *
      have m1 := mul_mono' c1 c4 (abs_nonneg D) (show (0 : Rat) ≤ 261 by decide)
      have m2 := mul_mono' c2 c3 (abs_nonneg C) (show (0 : Rat) ≤ 261 by decide)
      have g1 := Rat.mul_le_mul_of_nonneg_left (show A.abs * D.abs + B.abs * C.abs ≤ 261 * (101 / 100) + 261 * (101 / 100) by grind) (Rat.le_of_lt ep)
      have near : (Y - (A * D + B * C)).abs ≤ 530 * eps := by grind
      refine ⟨?_, near⟩
      have h1 := abs_near near
      have h2 := abs_add_le (A * D) (B * C)
      rw [abs_mul, abs_mul] at h2
      grind
    · exact ⟨0, fun h1 h2 => absurd ⟨h1, h2⟩ h⟩
  have kb : ∀ i, ∃ c : Nat, okRow n e es i → (∃ x, ∀ (R : Type) (k : Nat → Nat → Option R), mulK R (xy i).1 (xy i).2 (U i).u1 (U i).u2 k = k x c) ∧ Fin c ∧ (vl c - (vl (xy i).1 * vl (U i).u2 + vl (xy i).2 * vl (U i).u1)).abs ≤ 2 * (eps * ((vl (xy i).1).abs + (vl (xy i).2).abs)) + 4 * tn ∧ (vl (xy i).1 = 0 → vl (xy i).2 = 0 → vl c = 0) := fun i => by
    by_cases h : okRow n e es i
    · obtain ⟨b1, b2⟩ := ok_s hs h
      obtain ⟨i1, c1⟩ := b1.bv.vl
      obtain ⟨i2, c2⟩ := b2.bv.vl
      obtain ⟨i3, c3⟩ := (hU i).u1.vl
      obtain ⟨i4, c4⟩ := (hU i).u2.vl
      obtain ⟨x, y, Y, iY, eY, zY, hk⟩ := fine_im i1 i2 i3 i4 (by grind) (by grind) (by grind) (by grind)
      refine ⟨y, fun _ => ⟨⟨x, hk⟩, ⟨Y, iY⟩, ?_⟩⟩
      rw [vl_eq iY]
      refine ⟨?_, zY⟩
      generalize vl (xy i).1 = A at *
      generalize vl (xy i).2 = B at *
      generalize vl (U i).u1 = C at *
      generalize vl (U i).u2 = D at *
      have nA := abs_nonneg A
      have nB := abs_nonneg B
      have m1 := Rat.mul_le_mul_of_nonneg_left c4 nA
      have m2 := Rat.mul_le_mul_of_nonneg_left c3 nB
      have g1 := Rat.mul_le_mul_of_nonneg_left (show A.abs * D.abs + B.abs * C.abs ≤ A.abs * (101 / 100) + B.abs * (101 / 100) by grind) (Rat.le_of_lt ep)
      have g2 := Rat.mul_nonneg (Rat.le_of_lt ep) nA
      have g3 := Rat.mul_nonneg (Rat.le_of_lt ep) nB
      grind
    · exact ⟨0, fun h1 => absurd h1 h⟩
  obtain ⟨cA, hA⟩ : ∃ cA : Nat → Nat → Nat, ∀ i j, okRow n e es i → j < n → (∃ x, ∀ (R : Type) (k : Nat → Nat → Option R), mulK R (v i j).1 (v i j).2 (U i).u1 (U i).u2 k = k x (cA i j)) ∧ Fin (cA i j) ∧ (vl (cA i j)).abs ≤ 530 ∧ (vl (cA i j) - (vl (v i j).1 * vl (U i).u2 + vl (v i j).2 * vl (U i).u1)).abs ≤ 530 * eps :=
    ⟨fun i j => Classical.choose (ka i j), fun i j => Classical.choose_spec (ka i j)⟩
  obtain ⟨cB, hB⟩ : ∃ cB : Nat → Nat, ∀ i, okRow n e es i → (∃ x, ∀ (R : Type) (k : Nat → Nat → Option R), mulK R (xy i).1 (xy i).2 (U i).u1 (U i).u2 k = k x (cB i)) ∧ Fin (cB i) ∧ (vl (cB i) - (vl (xy i).1 * vl (U i).u2 + vl (xy i).2 * vl (U i).u1)).abs ≤ 2 * (eps * ((vl (xy i).1).abs + (vl (xy i).2).abs)) + 4 * tn ∧ (vl (xy i).1 = 0 → vl (xy i).2 = 0 → vl (cB i) = 0) :=
    ⟨fun i => Classical.choose (kb i), fun i => Classical.choose_spec (kb i)⟩
  exact ⟨cA, cB, fun i hi => ⟨fun j hj => (hA i j hi hj).1, (hB i hi).1⟩, fun i hi => ⟨fun j hj => (hA i j hi hj).2, (hB i hi).2⟩⟩
end
/-- the greatest of some -/
theorem max_exists {g : Nat → Rat} : ∀ n, 0 < n → ∃ σ, (∀ j, j < n → g j ≤ σ) ∧ ∃ j, j < n ∧ g j = σ
  | 0, h => absurd h (by omega)
  | 1, _ => ⟨g 0, fun j hj => by rw [show j = 0 by omega]; exact Rat.le_refl, 0, by decide, rfl⟩
  | n + 2, _ => by
    obtain ⟨σ, h1, j, h2, h3⟩ := max_exists (g := g) (n + 1) (by omega)
    rcases Rat.le_total (a := g (n + 1)) (b := σ) with h | h
    · exact ⟨σ, fun i hi => by
        by_cases hi2 : i = n + 1
        · rw [hi2]; exact h
        · exact h1 i (by omega), j, by omega, h3⟩
    · exact ⟨g (n + 1), fun i hi => by
        by_cases hi2 : i = n + 1
        · rw [hi2]; exact Rat.le_refl
        · exact Rat.le_trans (h1 i (by omega)) h, n + 1, by omega, rfl⟩
end Go.Vm
namespace Go.Vm
open Go.Proofs Ieee
set_option linter.unusedVariables false
set_option linter.unusedSectionVars false
set_option linter.unusedSimpArgs false
set_option maxRecDepth 1000000

/-! ### The rows' rest, and what comes through -/
theorem p28_is : Is 4481081629233643520 (1 / 268435456 : Rat) := by
  have hi := fields_is (s := false) (E := 995) (f := 0) (by decide) (by decide) (by decide)
  simp only [Bool.false_eq_true, if_false, Nat.zero_add, Nat.add_zero] at hi
  have e : dv false (2 ^ 52) (((995 : Nat) : Int) - 1075) = 1 / 268435456 := by
    unfold dv sg
    simp only [Bool.false_eq_true, if_false]
    have c := p2_neg 80
    have e80 : ((2 ^ 80 : Nat) : Rat) = 1208925819614629174706176 := rfl
    rw [e80] at c
    rw [show (((995 : Nat) : Int) - 1075) = -((80 : Nat) : Int) by decide, show ((2 ^ 52 : Nat) : Rat) = 4503599627370496 from rfl]
    generalize (2 : Rat) ^ (-((80 : Nat) : Int)) = q at *
    grind
  rw [e] at hi
  exact hi
def tq : Rat := (2 : Rat) ^ (-300 : Int)
theorem tq_pos : 0 < tq := p2_pos _
theorem tq_small : tq ≤ 1 / 1000 := p2_small (by decide)
theorem tn_tq : tn ≤ tq := p2_le (by decide)
theorem tau_tq : tau ≤ tq := p2_le (by decide)
theorem p300_lo : (1000000 : Rat) ≤ (2 : Rat) ^ (300 : Int) := by
  have h := p2_le (show (20 : Int) ≤ 300 by decide)
  have e : (2 : Rat) ^ (20 : Int) = 1048576 := by rw [show (20 : Int) = ((20 : Nat) : Int) by rfl, p2_nat]; rfl
  grind
theorem p390_lo : (1000000000000000000000 : Rat) ≤ (2 : Rat) ^ (390 : Int) := by
  have h := p2_le (show (77 : Int) ≤ 390 by decide)
  have e : (2 : Rat) ^ (77 : Int) = 151115727451828646838272 := by rw [show (77 : Int) = ((77 : Nat) : Int) by rfl, p2_nat]; rfl
  grind
theorem gz_tq {x : Rat} (h : Gz 235 x) (hx : x ≠ 0) : tq * 1000000000000000 ≤ x.abs := by
  rcases h with h | h
  · exact absurd h hx
  · refine Rat.le_trans ?_ h
    have e : (2 : Rat) ^ (-((235 : Nat) : Int)) = tq * (2 : Rat) ^ (65 : Int) := by
      unfold tq
      rw [← p2_add]
      congr 1
    rw [e]
    refine Rat.mul_le_mul_of_nonneg_left ?_ (Rat.le_of_lt tq_pos)
    rw [show (65 : Int) = ((65 : Nat) : Int) by rfl, p2_nat]
    have : ((2 ^ 65 : Nat) : Rat) = 36893488147419103232 := rfl
    grind
theorem w0_lt {n : Nat} {A : Nat → Nat → Nat} {b : Nat → Nat} {r j : Nat} (h : j < n) : W0f n A b r j = A r j := by
  unfold W0f
  rw [beq_ne (show j ≠ n by omega)]
  rfl
theorem w0_at {n : Nat} {A : Nat → Nat → Nat} {b : Nat → Nat} {r : Nat} : W0f n A b r n = b r := by
  unfold W0f
  rw [Nat.beq_refl]
  rfl
theorem mat_at {cA : Nat → Nat → Nat} {i : Nat} : matA cA i i = 4602678819172646912 := by
  unfold matA
  rw [Nat.beq_refl]
  rfl
theorem mat_ne {cA : Nat → Nat → Nat} {i j : Nat} (h : j ≠ i) : matA cA i j = cA i j := by
  unfold matA
  rw [beq_ne h]
  rfl
theorem vec_is {cB : Nat → Nat} {i : Nat} (h : Fin (cB i)) : Is (vecB cB i) (-(vl (cB i))) := neg_is (vl_is h)
section
variable {n : Nat} (hn1 : 3 ≤ n) (hn : n ≤ 8) {U : Nat → Un} (hU : ∀ i, PieceOk (U i)) (hu : ∀ i, i < n → UnitU (U i)) {v : Nat → Nat → Nat × Nat} {e : Nat → Nat → Int} (hv : ∀ i j, e i j = 0 → Bv 261 (v i j).1 ∧ Bv 261 (v i j).2) (hd : ∀ i, (vl (v i i).1 - vl (U i).u2 / 2).abs ≤ eps ∧ (vl (v i i).2 - vl (U i).u1 / 2).abs ≤ eps)
  {xy : Nat → Nat × Nat} {es : Nat → Int} (hs : ∀ i, SpOut 70 235 (xy i).1 (xy i).2 (es i)) (hok : ∀ i, i < n → okRow n e es i) {cA : Nat → Nat → Nat} {cB : Nat → Nat} (hN : ∀ i, i < n → Near n U v xy cA cB i)
  {σ : Rat} (hσ : ∀ j, j < n → (vl (xy j).1).abs + (vl (xy j).2).abs ≤ σ) (hσ2 : ∃ j, j < n ∧ (vl (xy j).1).abs + (vl (xy j).2).abs = σ)
include hs hok
theorem sp_is {i : Nat} (hi : i < n) : (Is (xy i).1 (vl (xy i).1) ∧ (vl (xy i).1).abs ≤ 70 ∧ Gz 235 (vl (xy i).1)) ∧ (Is (xy i).2 (vl (xy i).2) ∧ (vl (xy i).2).abs ≤ 70 ∧ Gz 235 (vl (xy i).2)) := by
  obtain ⟨⟨x, h1, h2, h3⟩, ⟨y, g1, g2, g3⟩⟩ := ok_s hs (hok i hi)
  rw [vl_eq h1, vl_eq g1]
  exact ⟨⟨h1, h2, h3⟩, g1, g2, g3⟩
include hσ2
theorem sig_bd : 0 ≤ σ ∧ σ ≤ 140 ∧ (σ ≠ 0 → tq * 1000000000000000 ≤ σ) := by
  obtain ⟨j, hj, e⟩ := hσ2
  obtain ⟨⟨i1, b1, g1⟩, ⟨i2, b2, g2⟩⟩ := sp_is hs hok hj
  have n1 := abs_nonneg (vl (xy j).1)
  have n2 := abs_nonneg (vl (xy j).2)
  refine ⟨by grind, by grind, fun h => ?_⟩
  rcases Classical.em (vl (xy j).1 = 0) with h1 | h1
  · rcases Classical.em (vl (xy j).2 = 0) with h2 | h2
    · rw [h1, h2, abs_zero] at e; exact absurd e (by grind)
    · have := gz_tq g2 h2; grind
  · have := gz_tq g1 h1; grind
include hU hσ hN
theorem cb_bd {i : Nat} (hi : i < n) : (vl (cB i)).abs ≤ 103 / 100 * σ + tq := by
  obtain ⟨_, h, _⟩ := (hN i hi).b
  have ep := eps_pos
  have el := eps6
  have t0 := tn_pos
  have ts := tn_small
  have n1 := abs_nonneg (vl (xy i).1)
  have n2 := abs_nonneg (vl (xy i).2)
  obtain ⟨i3, c3⟩ := (hU i).u1.vl
  obtain ⟨i4, c4⟩ := (hU i).u2.vl
  have g := abs_near h
  have g2 := abs_add_le (vl (xy i).1 * vl (U i).u2) (vl (xy i).2 * vl (U i).u1)
  rw [abs_mul, abs_mul] at g2
  have m1 := Rat.mul_le_mul_of_nonneg_left c4 n1
  have m2 := Rat.mul_le_mul_of_nonneg_left c3 n2
  have hh := hσ i hi
  have m3 := Rat.mul_le_mul_of_nonneg_right el (show 0 ≤ (vl (xy i).1).abs + (vl (xy i).2).abs by grind)
  have q : 4 * tn ≤ tq := by
    have h2 := p2_half (-1072)
    have h3 := p2_half (-1073)
    have h4 := p2_le (show (-1072 : Int) ≤ -300 by decide)
    rw [show (-1072 - 1 : Int) = -1073 by decide] at h2
    rw [show (-1073 - 1 : Int) = -1074 by decide] at h3
    unfold tn tq
    grind
  grind
theorem sys_facts : (∀ r j, r < n → j < n → Le 530 (W0f n (matA cA) (vecB cB) r j)) ∧ (∀ r, r < n → Le (103 / 100 * σ + tq) (W0f n (matA cA) (vecB cB) r n)) ∧ tau ≤ 530 ∧ tau ≤ 103 / 100 * σ + tq ∧ (530 : Rat) * 300 ≤ (2 : Rat) ^ (300 : Int) ∧ (103 / 100 * σ + tq) * 300 ≤ (2 : Rat) ^ (300 : Int) := by
  obtain ⟨s0, s1, _⟩ := sig_bd hs hok hσ2
  have q0 := tq_pos
  have q1 := tq_small
  have qt := tau_tq
  have p := p300_lo
  refine ⟨fun r j hr hj => ?_, fun r hr => ?_, by grind, by grind, by grind, by grind⟩
  · rw [w0_lt hj]
    by_cases h : j = r
    · subst h
      rw [mat_at]
      refine Le.of pt5_is ?_
      rw [Rat.abs_of_nonneg (by grind)]
      grind
    · rw [mat_ne h]
      obtain ⟨h1, h2, _⟩ := (hN r hr).a j hj
      exact ⟨h1, h2⟩
  · rw [w0_at]
    refine Le.of (vec_is (hN r hr).b.1) ?_
    rw [abs_neg]
    exact cb_bd hU hs hok hN hσ hσ2 hr
theorem sys_ok : SysOk n (matA cA) (vecB cB) := ⟨530, 103 / 100 * σ + tq, sys_facts hU hs hok hN hσ hσ2⟩
include hd hu
/-- how far what comes through lies from the rest -/
theorem row_rest {i : Nat} (hi : i < n) {x : Nat → Rat} {X : Rat} (hX : sm (fun j => (x j).abs) 0 n ≤ X) :
    ((vl (xy i).1 * vl (U i).u2 + vl (xy i).2 * vl (U i).u1 + sm (fun j => (vl (v i j).1 * vl (U i).u2 + vl (v i j).2 * vl (U i).u1) * x j) 0 n) - offBy (W0f n (matA cA) (vecB cB)) x 0 n i).abs ≤ eps * (530 * X + 2 * σ) + 4 * tn := by
  have ep := eps_pos
  obtain ⟨fb, hb, _⟩ := (hN i hi).b
  have hA := (hN i hi).a
  have hsig := hσ i hi
  have eb : vl (W0f n (matA cA) (vecB cB) i n) = -(vl (cB i)) := by rw [w0_at, vl_eq (vec_is fb)]
  unfold offBy
  rw [eb, Nat.sub_zero]
  have hj : ∀ j, 0 ≤ j → j < 0 + n → ((vl (v i j).1 * vl (U i).u2 + vl (v i j).2 * vl (U i).u1) * x j - vl (W0f n (matA cA) (vecB cB) i j) * x j).abs ≤ (530 * eps) * (x j).abs := fun j _ hj => by
    have hj' : j < n := by omega
    rw [show (vl (v i j).1 * vl (U i).u2 + vl (v i j).2 * vl (U i).u1) * x j - vl (W0f n (matA cA) (vecB cB) i j) * x j = ((vl (v i j).1 * vl (U i).u2 + vl (v i j).2 * vl (U i).u1) - vl (W0f n (matA cA) (vecB cB) i j)) * x j by grind, abs_mul]
    refine Rat.mul_le_mul_of_nonneg_right ?_ (abs_nonneg _)
    rw [w0_lt hj']
    by_cases h : j = i
    · subst h
      rw [mat_at, vl_eq pt5_is]
      obtain ⟨d1, d2⟩ := hd j
      obtain ⟨_, c3⟩ := (hU j).u1.vl
      obtain ⟨_, c4⟩ := (hU j).u2.vl
      have un := hu j hi
      unfold UnitU at un
      generalize vl (v j j).1 = p at *
      generalize vl (v j j).2 = q at *
      generalize vl (U j).u1 = C at *
      generalize vl (U j).u2 = D at *
      rw [show p * D + q * C - 1 / 2 = ((p - D / 2) * D + (q - C / 2) * C) + (1 / 2) * (C * C + D * D - 1) by rw [Rat.div_def, Rat.div_def]; grind]
      have g1 := abs_add_le ((p - D / 2) * D + (q - C / 2) * C) ((1 / 2) * (C * C + D * D - 1))
      have g2 := abs_add_le ((p - D / 2) * D) ((q - C / 2) * C)
      rw [abs_mul, abs_mul] at g2
      rw [abs_mul (1 / 2), Rat.abs_of_nonneg (show (0 : Rat) ≤ 1 / 2 by grind)] at g1
      have m1 := mul_mono' d1 c4 (abs_nonneg _) (Rat.le_of_lt ep)
      have m2 := mul_mono' d2 c3 (abs_nonneg _) (Rat.le_of_lt ep)
      grind
    · rw [mat_ne h]
      have := (hA j hj').2.2
      rw [abs_sub_comm]
      exact this
  have h1 := sm_abs n 0 hj
  rw [sm_mul, ← sm_sub] at h1
  have m := Rat.mul_le_mul_of_nonneg_left hX (show 0 ≤ 530 * eps by grind)
  have m2 := Rat.mul_le_mul_of_nonneg_left hsig (Rat.le_of_lt ep)
  generalize sm (fun j => (vl (v i j).1 * vl (U i).u2 + vl (v i j).2 * vl (U i).u1) * x j) 0 n = G at *
  generalize sm (fun j => vl (W0f n (matA cA) (vecB cB) i j) * x j) 0 n = K at *
  generalize vl (xy i).1 * vl (U i).u2 + vl (xy i).2 * vl (U i).u1 = E at *
  have h2 := abs_add_le (E - vl (cB i)) (G - K)
  rw [abs_sub_comm] at hb
  rw [show E + G - (K - -vl (cB i)) = E - vl (cB i) + (G - K) by grind]
  grind
end
end Go.Vm
