/- A product of complex words comes; a complex word is the same as itself; no conditions. Values of corners of broken powers and of doublets come; no conditions. Values of corners of whole powers come; no conditions. Values of doublets, and speeds of corners of broken powers, come; no conditions. Slopes of corners of broken powers come; no conditions. Values of sources come; no conditions. -/
import Derived.Test.YtnbpfafngidimaaGreatVmP36
namespace Go.Vm
open Ieee
set_option linter.unusedVariables false
set_option linter.unusedSimpArgs false

/-! ### The last parts of ElementMoved's law -/
theorem mulK_mag {a b c d : Nat} {e f : Int} (ha : Mag e a) (hb : Mag e b) (hc : Mag f c) (hd : Mag f d) (h1 : 0 ≤ e + f) (h2 : e + f ≤ 890) :
    ∃ r i, Mag (e + f + 3) r ∧ Mag (e + f + 3) i ∧ ∀ (R : Type) (k : Nat → Nat → Option R), mulK R a b c d k = k r i := by
  obtain ⟨x1, p1, q1⟩ := mag_mul ha hc (by omega) (by omega)
  obtain ⟨x2, p2, q2⟩ := mag_mul hb hd (by omega) (by omega)
  obtain ⟨r, p3, q3⟩ := mag_sub q1 q2 (g := e + f + 1) (by omega) (by omega) (by omega) (by omega)
  obtain ⟨x3, p4, q4⟩ := mag_mul ha hd (by omega) (by omega)
  obtain ⟨x4, p5, q5⟩ := mag_mul hb hc (by omega) (by omega)
  obtain ⟨i, p6, q6⟩ := mag_add q4 q5 (g := e + f + 1) (by omega) (by omega) (by omega) (by omega)
  refine ⟨r, i, q3.mono (by omega), q6.mono (by omega), fun R k => ?_⟩
  unfold mulK
  rw [bindF_eq p1, bindF_eq p2, bindF_eq p3, bindF_eq p4, bindF_eq p5, bindF_eq p6]

theorem bitsB_tot (a : Nat) : ∃ n, ∀ (R : Type) (k : Int → Option R), bitsB R a k = k n := by
  cases h : neF a a with
  | true => exact ⟨9221120237041090560, fun R k => by unfold bitsB; rw [h, forceB_eq]⟩
  | false => exact ⟨a, fun R k => by unfold bitsB; rw [h, forceB_eq]; exact fiReal_fair R _ k⟩
theorem sameB_refl (a b : Nat) {R : Type} (k : Bool → Option R) : sameB R a b a b k = k true := by
  obtain ⟨n, hn⟩ := bitsB_tot a
  obtain ⟨m, hm⟩ := bitsB_tot b
  unfold sameB
  rw [hn, hn, forceB_eq]
  simp only [beq_self_eq_true]
  rw [hm, hm, forceB_eq]
  simp
end Go.Vm
namespace Go.Vm
open Ieee
set_option linter.unusedVariables false
set_option linter.unusedSimpArgs false

/-! ### What a value's leafs come to -/
theorem toldE_yes {r i : Nat} {x y : Rat} (h : Is r x) (g : Is i y) {R : Type} (er : Int → Option R) (ok : Nat → Nat → Option R) : toldE FiniteK er ok r i = ok r i := by
  unfold toldE
  rw [FiniteK_yes h g, forceB_eq]
theorem toldE_mag {r i : Nat} {e f : Int} (h : Mag e r) (g : Mag f i) {R : Type} (er : Int → Option R) (ok : Nat → Nat → Option R) : toldE FiniteK er ok r i = ok r i := by
  obtain ⟨x, h1, _⟩ := h
  obtain ⟨y, g1, _⟩ := g
  exact toldE_yes h1 g1 er ok
theorem Nb.mags {p q a b : Nat} (h : Nb p q a b) : Mag q a ∧ Mag q b := by
  obtain ⟨A, ⟨x, y, ix, iy, h1, h2, _⟩, _, h3⟩ := h
  exact ⟨⟨x, ix, Rat.le_trans h1 h3⟩, ⟨y, iy, Rat.le_trans h2 h3⟩⟩

/-- broken powers -/
theorem leafB0_tot {s1 s2 d1 d2 p : Nat} {x y : Int} (hs1 : Mag 11 s1) (hs2 : Mag 11 s2) (ha : Is d1 x) (hb : Is d2 y) (h : x ≠ 0 ∨ y ≠ 0) (hx : x.natAbs ≤ 2048) (hy : y.natAbs ≤ 2048) (hp : Bv 4 p) :
    ∃ v1 v2, ∀ (R : Type) (er : Int → Option R) (ok : Nat → Nat → Option R), leafB0 mulK realK p s1 s2 d1 d2 (toldE FiniteK er ok) = ok v1 v2 := by
  obtain ⟨r, i, mr, mi, he⟩ := realK_tot ha hb h hx hy hp
  obtain ⟨u, v, mu, mv, hm⟩ := mulK_mag hs1 hs2 mr mi (by decide) (by decide)
  refine ⟨u, v, fun R er ok => ?_⟩
  unfold leafB0
  rw [he, hm, toldE_mag mu mv]
/-- powers of doublets -/
theorem leafD0_tot {s1 s2 d1 d2 : Nat} {x y : Rat} {n : Int} (ix : Is s1 x) (iy : Is s2 y) (hx : x.abs ≤ (2 : Rat) ^ (100 : Int)) (hy : y.abs ≤ (2 : Rat) ^ (100 : Int)) (hd : Nb 0 11 d1 d2) (h0 : 0 ≤ n) (h1 : n ≤ 10) :
    ∃ v1 v2, ∀ (R : Type) (er : Int → Option R) (ok : Nat → Nat → Option R), leafD divK sclK wpowK none n s1 s2 d1 d2 (toldE FiniteK er ok) = ok v1 v2 := by
  obtain ⟨w1, w2, nw, hw⟩ := wpowK_tot hd h0 h1
  obtain ⟨u, v, ⟨X, iX⟩, ⟨Y, iY⟩, hq⟩ := divK_tot (p := 0) (q := 0) ix iy hx hy nw
  refine ⟨u, v, fun R er ok => ?_⟩
  unfold leafD
  simp only
  rw [hw, hq, toldE_yes iX iY]
end Go.Vm
namespace Go.Vm
open Ieee
set_option linter.unusedVariables false
set_option linter.unusedSimpArgs false

theorem sclK_mag {a b c : Nat} {e f : Int} (ha : Mag e a) (hb : Mag e b) (hc : Mag f c) (h1 : -500 ≤ e + f) (h2 : e + f ≤ 900) :
    ∃ r i, Mag (e + f + 1) r ∧ Mag (e + f + 1) i ∧ ∀ (R : Type) (k : Nat → Nat → Option R), sclK R a b c k = k r i := by
  obtain ⟨r, r1, r2⟩ := mag_mul ha hc h1 (by omega)
  obtain ⟨i, i1, i2⟩ := mag_mul hb hc h1 (by omega)
  refine ⟨r, i, r2, i2, fun R k => ?_⟩
  unfold sclK
  rw [bindF_eq r1, bindF_eq i1]
theorem leafC_tot {s1 s2 d1 d2 : Nat} {n : Int} {times : Option Nat} (hs1 : Mag 11 s1) (hs2 : Mag 11 s2) (hd : Nb 0 11 d1 d2) (h0 : 0 ≤ n) (h1 : n ≤ 10) (ht : ∀ f, times = some f → Mag 8 f) :
    ∃ v1 v2, ∀ (R : Type) (er : Int → Option R) (ok : Nat → Nat → Option R), leafC mulK sclK wpowK times n s1 s2 d1 d2 (toldE FiniteK er ok) = ok v1 v2 := by
  obtain ⟨w1, w2, nw, hw⟩ := wpowK_tot hd h0 h1
  obtain ⟨m1, m2⟩ := nw.mags
  cases times with
  | none =>
    obtain ⟨u, v, mu, mv, hm⟩ := mulK_mag hs1 hs2 m1 m2 (by decide) (by decide)
    refine ⟨u, v, fun R er ok => ?_⟩
    unfold leafC
    simp only
    rw [hw, hm, toldE_mag mu mv]
  | some f =>
    obtain ⟨t1, t2, n1, n2, hs⟩ := sclK_mag hs1 hs2 (ht f rfl) (by decide) (by decide)
    obtain ⟨u, v, mu, mv, hm⟩ := mulK_mag n1 n2 m1 m2 (by decide) (by decide)
    refine ⟨u, v, fun R er ok => ?_⟩
    unfold leafC
    simp only
    rw [hs, hw, hm, toldE_mag mu mv]
end Go.Vm
namespace Go.Vm
open Ieee
set_option linter.unusedVariables false
set_option linter.unusedSimpArgs false

theorem leafD_tot {s1 s2 d1 d2 : Nat} {n : Int} {times : Option Nat} (hs1 : Mag 11 s1) (hs2 : Mag 11 s2) (hd : Nb 0 11 d1 d2) (h0 : 0 ≤ n) (h1 : n ≤ 10) (ht : ∀ f, times = some f → Mag 8 f) :
    ∃ v1 v2, ∀ (R : Type) (er : Int → Option R) (ok : Nat → Nat → Option R), leafD divK sclK wpowK times n s1 s2 d1 d2 (toldE FiniteK er ok) = ok v1 v2 := by
  obtain ⟨w1, w2, nw, hw⟩ := wpowK_tot hd h0 h1
  cases times with
  | none =>
    obtain ⟨x, ix, bx⟩ := hs1
    obtain ⟨y, iy, by'⟩ := hs2
    obtain ⟨u, v, ⟨X, iX⟩, ⟨Y, iY⟩, hq⟩ := divK_tot (p := 0) (q := 0) ix iy (Rat.le_trans bx (p2_le (by decide))) (Rat.le_trans by' (p2_le (by decide))) nw
    refine ⟨u, v, fun R er ok => ?_⟩
    unfold leafD
    simp only
    rw [hw, hq, toldE_yes iX iY]
  | some f =>
    obtain ⟨t1, t2, ⟨x, ix, bx⟩, ⟨y, iy, by'⟩, hs⟩ := sclK_mag hs1 hs2 (ht f rfl) (by decide) (by decide)
    obtain ⟨u, v, ⟨X, iX⟩, ⟨Y, iY⟩, hq⟩ := divK_tot (p := 0) (q := 0) ix iy (Rat.le_trans bx (p2_le (by decide))) (Rat.le_trans by' (p2_le (by decide))) nw
    refine ⟨u, v, fun R er ok => ?_⟩
    unfold leafD
    simp only
    rw [hs, hw, hq, toldE_yes iX iY]

theorem leafB1_tot {s1 s2 d1 d2 p : Nat} {x y : Int} {P : Rat} (hs1 : Mag 11 s1) (hs2 : Mag 11 s2) (ha : Is d1 x) (hb : Is d2 y) (h : x ≠ 0 ∨ y ≠ 0) (hx : x.natAbs ≤ 2048) (hy : y.natAbs ≤ 2048) (ip : Is p P) (p1 : 1 / 4 ≤ P) (p2 : P ≤ 4) :
    ∃ v1 v2, ∀ (R : Type) (er : Int → Option R) (ok : Nat → Nat → Option R), leafB1 mulK sclK realK p s1 s2 d1 d2 (toldE FiniteK er ok) = ok v1 v2 := by
  have mp : Mag 2 p := ⟨P, ip, by rw [show (2 : Int) = ((2 : Nat) : Int) by rfl, p2_nat]; exact abs_le_iff.2 ⟨by have : ((2 ^ 2 : Nat) : Rat) = 4 := rfl; grind, by have : ((2 ^ 2 : Nat) : Rat) = 4 := rfl; grind⟩⟩
  obtain ⟨t1, t2, n1, n2, hs⟩ := sclK_mag hs1 hs2 mp (by decide) (by decide)
  obtain ⟨q, z, q1, q2, q3⟩ := sub_is ip is_oneI (lt_p2_1023 (x := P - ((1 : Int) : Rat)) (by rw [show ((1 : Int) : Rat) = 1 by norm_cast]; exact abs_le_iff.2 ⟨by grind, by grind⟩))
  have bq : Bv 4 q := ⟨z, q2, bd_rnd (A := 3) q3 (by rw [show ((1 : Int) : Rat) = 1 by norm_cast]; exact abs_le_iff.2 ⟨by grind, by grind⟩) (by grind)⟩
  obtain ⟨r, i, mr, mi, he⟩ := realK_tot ha hb h hx hy bq
  obtain ⟨u, v, mu, mv, hm⟩ := mulK_mag n1 n2 mr mi (by decide) (by decide)
  refine ⟨u, v, fun R er ok => ?_⟩
  unfold leafB1
  rw [hs, bindF_eq q1, he, hm, toldE_mag mu mv]
end Go.Vm
namespace Go.Vm
open Ieee
set_option linter.unusedVariables false
set_option linter.unusedSimpArgs false

theorem leafB2_tot {s1 s2 d1 d2 p : Nat} {x y : Int} {P : Rat} (hs1 : Mag 11 s1) (hs2 : Mag 11 s2) (ha : Is d1 x) (hb : Is d2 y) (h : x ≠ 0 ∨ y ≠ 0) (hx : x.natAbs ≤ 2048) (hy : y.natAbs ≤ 2048) (ip : Is p P) (p1 : 1 / 4 ≤ P) (p2 : P ≤ 4) :
    ∃ v1 v2, ∀ (R : Type) (er : Int → Option R) (ok : Nat → Nat → Option R), leafB2 mulK sclK realK p s1 s2 d1 d2 (toldE FiniteK er ok) = ok v1 v2 := by
  have bp : Bv 4 p := ⟨P, ip, abs_le_iff.2 ⟨by grind, by grind⟩⟩
  have e4 : (4 : Rat) = (2 : Rat) ^ (2 : Int) := by rw [show (2 : Int) = ((2 : Nat) : Int) by rfl, p2_nat]; rfl
  have mp : Mag 2 p := bp.mag (by rw [← e4]; exact Rat.le_refl)
  have i2 : Is 4611686018427387904 ((2 : Int) : Rat) := by
    have := ofInt_is (n := 2) (by decide)
    rw [show floatOfInt .f64 2 = 4611686018427387904 by decide] at this
    exact this
  obtain ⟨q, z, q1, q2, q3⟩ := sub_is ip is_oneI (lt_p2_1023 (x := P - ((1 : Int) : Rat)) (by rw [show ((1 : Int) : Rat) = 1 by norm_cast]; exact abs_le_iff.2 ⟨by grind, by grind⟩))
  have bq : Bv 4 q := ⟨z, q2, bd_rnd (A := 3) q3 (by rw [show ((1 : Int) : Rat) = 1 by norm_cast]; exact abs_le_iff.2 ⟨by grind, by grind⟩) (by grind)⟩
  obtain ⟨f, f1, f2⟩ := mag_mul mp (bq.mag (by rw [← e4]; exact Rat.le_refl)) (by decide) (by decide)
  obtain ⟨t1, t2, n1, n2, hs⟩ := sclK_mag hs1 hs2 f2 (by decide) (by decide)
  obtain ⟨o, u0, o1, o2, o3⟩ := sub_is ip i2 (lt_p2_1023 (x := P - ((2 : Int) : Rat)) (by rw [show ((2 : Int) : Rat) = 2 by norm_cast]; exact abs_le_iff.2 ⟨by grind, by grind⟩))
  have bo : Bv 4 o := ⟨u0, o2, bd_rnd (A := 3) o3 (by rw [show ((2 : Int) : Rat) = 2 by norm_cast]; exact abs_le_iff.2 ⟨by grind, by grind⟩) (by grind)⟩
  obtain ⟨r, i, mr, mi, he⟩ := realK_tot ha hb h hx hy bo
  obtain ⟨u, v, mu, mv, hm⟩ := mulK_mag n1 n2 mr mi (by decide) (by decide)
  refine ⟨u, v, fun R er ok => ?_⟩
  unfold leafB2
  rw [bindF_eq q1, bindF_eq f1, hs, bindF_eq o1, he, hm, toldE_mag mu mv]
end Go.Vm
namespace Go.Vm
open Ieee
set_option linter.unusedVariables false
set_option linter.unusedSimpArgs false

/-! ### Sources -/
theorem negK_mag {a b : Nat} {e : Int} (ha : Mag e a) (hb : Mag e b) : ∃ r i, Mag e r ∧ Mag e i ∧ ∀ (R : Type) (k : Nat → Nat → Option R), negK R a b k = k r i :=
  ⟨Op.negFloat .f64 a, Op.negFloat .f64 b, mag_neg ha, mag_neg hb, fun R k => by unfold negK; rw [forceN_eq, forceN_eq]⟩
theorem leafO0_tot {c1 c2 d1 d2 : Nat} {x y : Int} (h1 : Mag 12 c1) (h2 : Mag 12 c2) (ha : Is d1 x) (hb : Is d2 y) (h : x ≠ 0 ∨ y ≠ 0) (hx : x.natAbs ≤ 2048) (hy : y.natAbs ≤ 2048) :
    ∃ v1 v2, ∀ (R : Type) (er : Int → Option R) (ok : Nat → Nat → Option R), (powLogK R d1 d2 fun l1 l2 => mulK R c1 c2 l1 l2 (toldE FiniteK er ok)) = ok v1 v2 := by
  obtain ⟨l, t, bl, bt, hl⟩ := powLogK_val ha hb h hx hy
  obtain ⟨u, v, mu, mv, hm⟩ := mulK_mag h1 h2 (bl.mag (e := 10) (by rw [p2_10]; grind)) (bt.mag (e := 10) (by rw [p2_10]; grind)) (by decide) (by decide)
  exact ⟨u, v, fun R er ok => by rw [hl, hm, toldE_mag mu mv]⟩
theorem leafO2_tot {c1 c2 d1 d2 : Nat} (h1 : Mag 12 c1) (h2 : Mag 12 c2) (hd : Nb 0 11 d1 d2) :
    ∃ v1 v2, ∀ (R : Type) (er : Int → Option R) (ok : Nat → Nat → Option R), (negK R c1 c2 fun c1 c2 => wpowK R d1 d2 2 fun w1 w2 => divK R c1 c2 w1 w2 (toldE FiniteK er ok)) = ok v1 v2 := by
  obtain ⟨n1, n2, ⟨x, ix, bx⟩, ⟨y, iy, by'⟩, hn⟩ := negK_mag h1 h2
  obtain ⟨w1, w2, nw, hw⟩ := wpowK_tot hd (n := 2) (by decide) (by decide)
  obtain ⟨u, v, ⟨X, iX⟩, ⟨Y, iY⟩, hq⟩ := divK_tot (p := 0) (q := 0) ix iy (Rat.le_trans bx (p2_le (by decide))) (Rat.le_trans by' (p2_le (by decide))) nw
  exact ⟨u, v, fun R er ok => by rw [hn, hw, hq, toldE_yes iX iY]⟩
theorem leafO1_tot {c1 c2 d1 d2 : Nat} (h1 : Mag 12 c1) (h2 : Mag 12 c2) (hd : Nb 0 11 d1 d2) :
    ∃ v1 v2, ∀ (R : Type) (er : Int → Option R) (ok : Nat → Nat → Option R), divK R c1 c2 d1 d2 (toldE FiniteK er ok) = ok v1 v2 := by
  obtain ⟨x, ix, bx⟩ := h1
  obtain ⟨y, iy, by'⟩ := h2
  obtain ⟨A, hA, a1, a2⟩ := hd
  obtain ⟨u, v, ⟨X, iX⟩, ⟨Y, iY⟩, hq⟩ := divK_tot (p := 0) (q := 0) ix iy (Rat.le_trans bx (p2_le (by decide))) (Rat.le_trans by' (p2_le (by decide))) ⟨A, hA, Rat.le_trans (p2_le (by decide)) a1, Rat.le_trans a2 (p2_le (by decide))⟩
  exact ⟨u, v, fun R er ok => by rw [hq, toldE_yes iX iY]⟩
end Go.Vm
