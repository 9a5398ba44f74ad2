/- Lengths and units of ways by halves, finely rounded; no conditions. -/
import Derived.Test.YtnbpfafngidimaaGreatVmQ11
import Derived.Test.YtnbpfafngidimaaGreatVmKH
namespace Go.Vm
open Ieee
set_option linter.unusedVariables false
set_option linter.unusedSimpArgs false

/-! ### Lengths, finely -/
def tn : Rat := (2 : Rat) ^ (-1074 : Int)
theorem tn_pos : 0 < tn := p2_pos _
theorem tn_small : tn ≤ eps * (1 / 1000000) := by
  unfold tn eps
  have h := p2_le (show (-1074 : Int) ≤ -51 + -20 by decide)
  rw [p2_add, p20m] at h
  have := p2_pos (-51)
  grind
theorem q4 : (2 : Rat) ^ (-53 : Int) = eps / 4 := by
  unfold eps
  have h1 := p2_half (-51)
  have h2 := p2_half (-52)
  rw [show (-51 - 1 : Int) = -52 by decide] at h1
  rw [show (-52 - 1 : Int) = -53 by decide] at h2
  grind
theorem Rnd.fine {x z : Rat} (h : Rnd x z) : (z - x).abs ≤ x.abs * (eps / 4) + tn := by
  have t := tn_pos
  have n := abs_nonneg x
  have m := Rat.mul_nonneg n (show 0 ≤ eps / 4 by have := eps_pos; grind)
  rcases h.near with g | g
  · rw [q4] at g; grind
  · have := p2_le (show (-1075 : Int) ≤ -1074 by decide)
    unfold tn at *
    grind
theorem Rnd2.fine {x z : Rat} (h : Rnd2 x z) : (z - x).abs ≤ x.abs * (eps / 2) + tn := by
  have t := tn_pos
  have n := abs_nonneg x
  have m := Rat.mul_nonneg n (show 0 ≤ eps / 2 by have := eps_pos; grind)
  have e : (2 : Rat) ^ (-52 : Int) = eps / 2 := by
    unfold eps
    have h1 := p2_half (-51)
    rw [show (-51 - 1 : Int) = -52 by decide] at h1
    grind
  rcases h.near with g | g
  · rw [e] at g; grind
  · unfold tn at *; grind
theorem sq_abs (x : Rat) : (x * x).abs = x * x := Rat.abs_of_nonneg (sq_nonneg x)
theorem sq_root {b1 b2 : Nat} {X Y : Rat} (h1 : Is b1 X) (h2 : Is b2 Y) (bx : X.abs ≤ 101 / 100) (by' : Y.abs ≤ 101 / 100) (lo : 2 / 5 ≤ X.abs ∨ 2 / 5 ≤ Y.abs) :
    ∃ s l T, (∀ (R : Type) (k : Nat → Option R), squareK R b1 b2 k = k s) ∧ (∀ (R : Type) (k : Nat → Option R), sqrtK R s k = k l) ∧ Is l T ∧ 0 < T ∧ (T * T - (X * X + Y * Y)).abs ≤ 8 / 5 * eps * (X * X + Y * Y) ∧ 4 / 25 ≤ X * X + Y * Y ∧ X * X + Y * Y ≤ 21 / 10 := by
  have sX := sq_le bx
  have sY := sq_le by'
  have nX := sq_nonneg X
  have nY := sq_nonneg Y
  have low : 4 / 25 ≤ X * X + Y * Y := by
    rcases lo with h | h
    · have := sq_ge h (by grind); grind
    · have := sq_ge h (by grind); grind
  obtain ⟨p, P, e1, i1, r1⟩ := mul_is h1 h1 (lt_big (by rw [sq_abs]; grind))
  obtain ⟨q, Q, e2, i2, r2⟩ := mul_is h2 h2 (lt_big (by rw [sq_abs]; grind))
  have f1 := r1.fine
  have f2 := r2.fine
  rw [sq_abs] at f1 f2
  have ep := eps_pos
  have el := eps_le
  have ts := tn_small
  have tp := tn_pos
  generalize hA : X * X = A at *
  generalize hB : Y * Y = B at *
  have eA := Rat.mul_le_mul_of_nonneg_left el nX
  have eB := Rat.mul_le_mul_of_nonneg_left el nY
  have a1 := abs_le_iff.1 f1
  have a2 := abs_le_iff.1 f2
  have aPQ : (P + Q).abs = P + Q := Rat.abs_of_nonneg (by grind)
  obtain ⟨s, S, e3, i3, r3⟩ := add_is i1 i2 (lt_big (by rw [aPQ]; grind))
  have f3 := r3.fine
  rw [aPQ] at f3
  have ePQ := Rat.mul_le_mul_of_nonneg_left el (show 0 ≤ P + Q by grind)
  have a3 := abs_le_iff.1 f3
  have hS1 : 1 / 10 ≤ S := by grind
  have hS2 : S ≤ 3 := by grind
  obtain ⟨l, T, e4, i4, t0, t1⟩ := sqrt_is i3 (by grind) (by
    have h6 := p2_le (show (10 : Int) ≤ 1000 by decide)
    have h8 : (2 : Rat) ^ (10 : Int) = 1024 := by rw [show (10 : Int) = ((10 : Nat) : Int) by rfl, p2_nat]; rfl
    grind) (by have := p2_small (show (-1000 : Int) ≤ -53 by decide); grind)
  have t1' : (T * T - S).abs ≤ S * eps := t1
  have a4 := abs_le_iff.1 t1'
  have eP : eps * P ≤ eps * (A * (1001 / 1000) + tn) := Rat.mul_le_mul_of_nonneg_left (by grind) (Rat.le_of_lt ep)
  have eQ : eps * Q ≤ eps * (B * (1001 / 1000) + tn) := Rat.mul_le_mul_of_nonneg_left (by grind) (Rat.le_of_lt ep)
  have eS : eps * S ≤ eps * ((A + B) * (1003 / 1000) + 4 * tn) := Rat.mul_le_mul_of_nonneg_left (by grind) (Rat.le_of_lt ep)
  have eT := Rat.mul_le_mul_of_nonneg_right el (Rat.le_of_lt tp)
  have eAB := Rat.mul_le_mul_of_nonneg_left low (Rat.le_of_lt ep)
  refine ⟨s, l, T, fun R k => ?_, fun R k => ?_, i4, t0, abs_le_iff.2 ⟨by grind, by grind⟩, low, by grind⟩
  · unfold squareK
    rw [bindF_eq e1, bindF_eq e2, bindF_eq e3]
  · unfold sqrtK
    rw [bindF_eq e4]
end Go.Vm
namespace Go.Vm
open Ieee
set_option linter.unusedVariables false
set_option linter.unusedSimpArgs false

theorem scaled_is {a b : Nat} {x y : Rat} (ha : Is a x) (hb : Is b y) (bx : x.abs ≤ 100) (by' : y.abs ≤ 100) (lo : 7 / 20 ≤ x.abs ∨ 7 / 20 ≤ y.abs) :
    ∃ (n : Int) (b1 b2 : Nat) (X Y : Rat), -1 ≤ n ∧ n ≤ 7 ∧ Is b1 X ∧ Is b2 Y ∧ Rnd (x * (2 : Rat) ^ (-n)) X ∧ Rnd (y * (2 : Rat) ^ (-n)) Y ∧ (x * (2 : Rat) ^ (-n)).abs ≤ 1 ∧ (y * (2 : Rat) ^ (-n)).abs ≤ 1 ∧
      (1 / 2 ≤ (x * (2 : Rat) ^ (-n)).abs ∨ 1 / 2 ≤ (y * (2 : Rat) ^ (-n)).abs) ∧ (∀ (R : Type) (k : Nat → Nat → Int → Option R), scaledK R a b k = k b1 b2 n) ∧
      ∃ g G, Is g G ∧ G ≠ 0 ∧ ∀ (R : Type) (k : Nat → Option R), greatestK R a b k = k g := by
  obtain ⟨g, G, hg, gx, gy, hG, hgk⟩ := greatestK_is ha hb
  have nx := abs_nonneg x
  have ny := abs_nonneg y
  have hG1 : 7 / 20 ≤ G := by rcases lo with h | h <;> grind
  have hG2 : G ≤ 100 := by rcases hG with h | h <;> grind
  have hG0 : G ≠ 0 := by grind
  have hGa : G.abs = G := Rat.abs_of_nonneg (by grind)
  obtain ⟨w, n, n1, n2, n3, n4, hfr⟩ := frexpK_is hg hG0
  rw [hGa] at n1 n2
  have n7 : n ≤ 7 := by
    refine Int.not_lt.1 fun h => ?_
    have h1 := p2_le (show (7 : Int) ≤ n - 1 by omega)
    have e7 : (2 : Rat) ^ (7 : Int) = 128 := by rw [show (7 : Int) = ((7 : Nat) : Int) by rfl, p2_nat]; rfl
    grind
  have nm : -1 ≤ n := by
    refine Int.not_lt.1 fun h => ?_
    have h1 := p2_le (show n ≤ -2 by omega)
    rw [p2_m2] at h1
    grind
  have pn := p2_pos (-n)
  have hcan : (2 : Rat) ^ n * (2 : Rat) ^ (-n) = 1 := p2_cancel n
  have hhalf : (2 : Rat) ^ (n - 1) * (2 : Rat) ^ (-n) = 1 / 2 := by
    have := p2_half n
    have h3 : (2 : Rat) ^ n * (2 : Rat) ^ (-n) = 2 * ((2 : Rat) ^ (n - 1) * (2 : Rat) ^ (-n)) := by rw [this]; grind
    grind
  have up : ∀ {u : Rat}, u.abs ≤ G → (u * (2 : Rat) ^ (-n)).abs ≤ 1 := fun {u} h1 => by
    rw [abs_mul, p2_abs]
    have g1 := Rat.mul_le_mul_of_nonneg_right (show u.abs ≤ (2 : Rat) ^ n by grind) (Rat.le_of_lt pn)
    rw [hcan] at g1
    exact g1
  have ux := up gx
  have uy := up gy
  have hlow : 1 / 2 ≤ (x * (2 : Rat) ^ (-n)).abs ∨ 1 / 2 ≤ (y * (2 : Rat) ^ (-n)).abs := by
    have := Rat.mul_le_mul_of_nonneg_right n1 (Rat.le_of_lt pn)
    rw [hhalf] at this
    rcases hG with h | h
    · left; rw [abs_mul, p2_abs, ← h]; exact this
    · right; rw [abs_mul, p2_abs, ← h]; exact this
  obtain ⟨r1, X, i1, q1, s1⟩ := scaleK_is (n := -n) ha (by omega) (by omega) (lt_p2_1023 (by grind))
  obtain ⟨r2, Y, i2, q2, s2⟩ := scaleK_is (n := -n) hb (by omega) (by omega) (lt_p2_1023 (by grind))
  refine ⟨n, r1, r2, X, Y, nm, n7, i1, i2, q1, q2, ux, uy, hlow, fun R k => ?_, g, G, hg, hG0, hgk⟩
  unfold scaledK scaledB
  rw [hgk, hfr]
  rw [show (0 - n) = -n by omega, wrapI (by omega) (by omega), s1, s2]
/-- near by a part of itself -/
theorem sq_near {x X : Rat} (h : Rnd x X) (hx : x.abs ≤ 1) : (X * X - x * x).abs ≤ (51 / 100) * eps * (x * x) + 4 * tn ∧ X.abs ≤ 101 / 100 ∧ x.abs - 1 / 100 ≤ X.abs := by
  have f := h.fine
  have ep := eps_pos
  have el := eps_le
  have tp := tn_pos
  have ts := tn_small
  have n := abs_nonneg x
  have e1 := Rat.mul_le_mul_of_nonneg_left el n
  have d1 := abs_add_le (X - x) x
  rw [show X - x + x = X by grind] at d1
  have d2 := abs_add_le (x - X) X
  rw [show x - X + X = x by grind, abs_sub_comm x X] at d2
  refine ⟨?_, by grind, by grind⟩
  have e2 : X * X - x * x = (X - x) * (X - x) + 2 * (x * (X - x)) := by grind
  have e3 := abs_add_le ((X - x) * (X - x)) (2 * (x * (X - x)))
  rw [← e2, abs_mul (X - x), abs_mul 2, abs_mul x, Rat.abs_of_nonneg (show (0 : Rat) ≤ 2 by grind)] at e3
  have xx : x.abs * x.abs = x * x := by rw [← abs_mul, sq_abs]
  have dn := abs_nonneg (X - x)
  generalize (X - x).abs = d at *
  generalize x.abs = a at *
  have m1 : a * d ≤ a * (a * (eps / 4) + tn) := Rat.mul_le_mul_of_nonneg_left f n
  have m2 : a * tn ≤ tn := by have := Rat.mul_le_mul_of_nonneg_right hx (Rat.le_of_lt tp); grind
  have m3 : d * d ≤ (a * (eps / 4) + tn) * (a * (eps / 4) + tn) := mul_mono' f f dn (by grind)
  have m4 : a * a * (eps * eps) ≤ a * a * (eps * (1 / 1000)) := Rat.mul_le_mul_of_nonneg_left (Rat.mul_le_mul_of_nonneg_left el (Rat.le_of_lt ep)) (by rw [xx]; exact sq_nonneg x)
  have m5 : tn * tn ≤ tn * (1 / 1000) := Rat.mul_le_mul_of_nonneg_left (by grind) (Rat.le_of_lt tp)
  have m6 : eps * (a * tn) ≤ (1 / 1000) * tn := by
    have := mul_mono' el m2 (Rat.mul_nonneg n (Rat.le_of_lt tp)) (by grind)
    exact this
  have pe := Rat.mul_nonneg (show 0 ≤ a * a by rw [xx]; exact sq_nonneg x) (Rat.le_of_lt ep)
  rw [← xx]
  grind
end Go.Vm
namespace Go.Vm
open Ieee
set_option linter.unusedVariables false
set_option linter.unusedSimpArgs false

theorem lengthK_pre {a b : Nat} {x y : Rat} (ha : Is a x) (hb : Is b y) {g : Nat} {G : Rat} (hg : Is g G) (hG0 : G ≠ 0) (hgk : ∀ (R : Type) (k : Nat → Option R), greatestK R a b k = k g) (R : Type) (k : Nat → Option R) :
    lengthK R a b k = scaledK R a b fun x y e => squareK R x y fun s => sqrtK R s fun r => scaleK R r e k := by
  unfold lengthK lengthB
  rw [isInfK_no ha, forceB_eq]
  simp only
  rw [isInfK_no hb, forceB_eq]
  simp only
  rw [isNanK_no ha, forceB_eq]
  simp only
  rw [isNanK_no hb, forceB_eq]
  simp only
  rw [hgk, forceB_eq, eqF_is hg is_zero, show ((0 : Int) : Rat) = 0 from rfl, decide_eq_false hG0]
theorem scale_ex {l : Nat} {T : Rat} {n : Int} (h : Is l T) (n1 : -1 ≤ n) (n2 : n ≤ 7) (h1 : 1 / 10 ≤ T) (h2 : T ≤ 2) : ∃ r, Is r (T * (2 : Rat) ^ n) ∧ ∀ (R : Type) (k : Nat → Option R), scaleK R l n k = k r := by
  have e7 : (2 : Rat) ^ (7 : Int) = 128 := by rw [show (7 : Int) = ((7 : Nat) : Int) by rfl, p2_nat]; rfl
  have p7 := p2_le n2
  rw [e7] at p7
  have pp := p2_pos n
  have tb := Rat.mul_le_mul_of_nonneg_left p7 (show 0 ≤ T by grind)
  have t0 := Rat.mul_nonneg (show 0 ≤ T by grind) (Rat.le_of_lt pp)
  obtain ⟨r, z, i, q, s⟩ := scaleK_is (n := n) h (by omega) (by omega) (lt_p2_1023 (abs_le_iff.2 ⟨by grind, by grind⟩))
  obtain ⟨K, e, k1, k2, k3, rfl⟩ := is_rep h
  have ke : -1073 ≤ e := by
    refine Int.not_lt.1 fun hc => ?_
    have g1 := p2_le (show e ≤ -1074 by omega)
    have g2 : ((K : Rat)).abs ≤ ((2 ^ 53 : Nat) : Rat) := by rw [int_abs]; exact nat_cast_le (by omega)
    have g3 := (abs_le_self (K : Rat)).1
    have g4 := Rat.mul_le_mul_of_nonneg_right (show (K : Rat) ≤ ((2 ^ 53 : Nat) : Rat) by grind) (Rat.le_of_lt (p2_pos e))
    have g5 := Rat.mul_le_mul_of_nonneg_left g1 (show (0 : Rat) ≤ ((2 ^ 53 : Nat) : Rat) by exact_mod_cast Nat.zero_le _)
    have g6 : ((2 ^ 53 : Nat) : Rat) * (2 : Rat) ^ (-1074 : Int) ≤ 1 / 1000 := by
      rw [← p2_nat, ← p2_add]
      exact p2_small (by decide)
    grind
  have ez := q.rep K (e + n) (by omega) (by omega) (by rw [p2_add]; grind)
  rw [ez] at i
  exact ⟨r, i, s⟩
theorem sum_near {A B A0 B0 t c : Rat} (h : (t - (A + B)).abs ≤ 8 / 5 * eps * (A + B)) (h1 : (A - A0).abs ≤ c * eps * A0 + 4 * tn) (h2 : (B - B0).abs ≤ c * eps * B0 + 4 * tn) (a0 : 0 ≤ A0) (b0 : 0 ≤ B0) (lo : 1 / 10 ≤ A0 + B0) (hc : c ≤ 51 / 100) (hc0 : 0 ≤ c) :
    (t - (A0 + B0)).abs ≤ 11 / 5 * eps * (A0 + B0) := by
  have ep := eps_pos
  have el := eps_le
  have tp := tn_pos
  have ts := tn_small
  have f := abs_le_iff.1 h
  have f1 := abs_le_iff.1 h1
  have f2 := abs_le_iff.1 h2
  have pa := Rat.mul_nonneg (Rat.le_of_lt ep) a0
  have pb := Rat.mul_nonneg (Rat.le_of_lt ep) b0
  have c1 := Rat.mul_le_mul_of_nonneg_right hc pa
  have c2 := Rat.mul_le_mul_of_nonneg_right hc pb
  have s1 := Rat.mul_le_mul_of_nonneg_right el a0
  have s2 := Rat.mul_le_mul_of_nonneg_right el b0
  have e1 : eps * (A + B) ≤ eps * ((A0 + B0) * (1001 / 1000) + 8 * tn) := Rat.mul_le_mul_of_nonneg_left (by grind) (Rat.le_of_lt ep)
  have e2 := Rat.mul_le_mul_of_nonneg_right el (Rat.le_of_lt tp)
  have e3 := Rat.mul_le_mul_of_nonneg_left lo (Rat.le_of_lt ep)
  exact abs_le_iff.2 ⟨by grind, by grind⟩
theorem pos_of_sq {T N : Rat} (h0 : 0 < T) (h : N ≤ T * T) (hN : 1 / 100 ≤ N) : 1 / 10 ≤ T := by
  refine Rat.not_lt.1 fun hc => ?_
  have := mul_mono' (Rat.le_of_lt hc) (Rat.le_of_lt hc) (Rat.le_of_lt h0) (by grind)
  have := Rat.mul_lt_mul_of_pos_right hc h0
  grind
theorem le_of_sq {T N : Rat} (h0 : 0 < T) (h : T * T ≤ N) (hN : N ≤ 4) : T ≤ 2 := by
  refine Rat.not_lt.1 fun hc => ?_
  have := Rat.mul_lt_mul_of_pos_right hc h0
  grind
theorem length_fine {a b : Nat} {x y : Rat} (ha : Is a x) (hb : Is b y) (bx : x.abs ≤ 100) (by' : y.abs ≤ 100) (lo : 7 / 20 ≤ x.abs ∨ 7 / 20 ≤ y.abs) :
    ∃ l L, Is l L ∧ 0 < L ∧ (L * L - (x * x + y * y)).abs ≤ 11 / 5 * eps * (x * x + y * y) ∧ ∀ (R : Type) (k : Nat → Option R), lengthK R a b k = k l := by
  obtain ⟨n, b1, b2, X, Y, nm, n7, i1, i2, r1, r2, ux, uy, hlow, hs, g, G, hg, hG0, hgk⟩ := scaled_is ha hb bx by' lo
  obtain ⟨s1, s2, s3⟩ := sq_near r1 ux
  obtain ⟨s4, s5, s6⟩ := sq_near r2 uy
  obtain ⟨s, l, T, f1, f2, iT, T0, dT, N1, N2⟩ := sq_root i1 i2 s2 s5 (by rcases hlow with h | h <;> grind)
  have nX := sq_nonneg (x * (2 : Rat) ^ (-n))
  have nY := sq_nonneg (y * (2 : Rat) ^ (-n))
  have low : 1 / 10 ≤ x * (2 : Rat) ^ (-n) * (x * (2 : Rat) ^ (-n)) + y * (2 : Rat) ^ (-n) * (y * (2 : Rat) ^ (-n)) := by
    rcases hlow with h | h
    · have := sq_ge h (by grind); grind
    · have := sq_ge h (by grind); grind
  have near := sum_near dT s1 s4 nX nY low (by grind) (by grind)
  have ep := eps_eq
  have dT' := abs_le_iff.1 dT
  rw [ep] at dT'
  obtain ⟨r, iR, hR⟩ := scale_ex iT nm n7 (pos_of_sq T0 (N := 1 / 100) (by grind) (by grind)) (le_of_sq T0 (N := 4) (by grind) (by grind))
  have pp := p2_pos n
  have hcan := p2_cancel n
  refine ⟨r, _, iR, Rat.mul_pos T0 pp, ?_, fun R k => ?_⟩
  · have m := Rat.mul_le_mul_of_nonneg_right near (show 0 ≤ (2 : Rat) ^ n * (2 : Rat) ^ n by exact Rat.mul_nonneg (Rat.le_of_lt pp) (Rat.le_of_lt pp))
    have e0 : x * (2 : Rat) ^ (-n) * (x * (2 : Rat) ^ (-n)) * ((2 : Rat) ^ n * (2 : Rat) ^ n) = x * x := by
      have : x * (2 : Rat) ^ (-n) * (x * (2 : Rat) ^ (-n)) * ((2 : Rat) ^ n * (2 : Rat) ^ n) = x * x * ((2 : Rat) ^ n * (2 : Rat) ^ (-n)) * ((2 : Rat) ^ n * (2 : Rat) ^ (-n)) := by grind
      rw [this, hcan]; grind
    have e1 : y * (2 : Rat) ^ (-n) * (y * (2 : Rat) ^ (-n)) * ((2 : Rat) ^ n * (2 : Rat) ^ n) = y * y := by
      have : y * (2 : Rat) ^ (-n) * (y * (2 : Rat) ^ (-n)) * ((2 : Rat) ^ n * (2 : Rat) ^ n) = y * y * ((2 : Rat) ^ n * (2 : Rat) ^ (-n)) * ((2 : Rat) ^ n * (2 : Rat) ^ (-n)) := by grind
      rw [this, hcan]; grind
    have e2 : (T * T - (x * (2 : Rat) ^ (-n) * (x * (2 : Rat) ^ (-n)) + y * (2 : Rat) ^ (-n) * (y * (2 : Rat) ^ (-n)))).abs * ((2 : Rat) ^ n * (2 : Rat) ^ n) = (T * (2 : Rat) ^ n * (T * (2 : Rat) ^ n) - (x * x + y * y)).abs := by
      rw [← e0, ← e1, ← Rat.abs_of_nonneg (show 0 ≤ (2 : Rat) ^ n * (2 : Rat) ^ n by exact Rat.mul_nonneg (Rat.le_of_lt pp) (Rat.le_of_lt pp)), ← abs_mul, Rat.abs_of_nonneg (show 0 ≤ (2 : Rat) ^ n * (2 : Rat) ^ n by exact Rat.mul_nonneg (Rat.le_of_lt pp) (Rat.le_of_lt pp))]
      congr 1
      grind
    rw [e2] at m
    have e3 : 11 / 5 * eps * (x * (2 : Rat) ^ (-n) * (x * (2 : Rat) ^ (-n)) + y * (2 : Rat) ^ (-n) * (y * (2 : Rat) ^ (-n))) * ((2 : Rat) ^ n * (2 : Rat) ^ n) = 11 / 5 * eps * (x * x + y * y) := by
      rw [← e0, ← e1]; grind
    rw [e3] at m
    exact m
  · rw [lengthK_pre ha hb hg hG0 hgk, hs, f1, f2, hR]
end Go.Vm
namespace Go.Vm
open Ieee
set_option linter.unusedVariables false
set_option linter.unusedSimpArgs false

/-! ### Length and unit of a way by halves -/
def UK : KCC := unT (unitB (fCT FiniteK) greatestK scaledK squareK sqrtK)
theorem quo_near {X T : Rat} {b l : Nat} (hb : Is b X) (hl : Is l T) (h1 : 1 / 10 ≤ T) (hX : X.abs ≤ 1) : ∃ u U, fbF .quo b l = some u ∧ Is u U ∧ (U * T - X).abs ≤ X.abs * (eps / 2) + tn * T := by
  have Tn : T ≠ 0 := by grind
  have q1 : X / T * T = X := by rw [Rat.div_def, Rat.mul_assoc, Rat.inv_mul_cancel _ Tn, Rat.mul_one]
  have b1 := div_bound (Q := 10) (A := 1) (D := 1 / 10) q1 hX (by rw [Rat.abs_of_nonneg (by grind)]; exact h1) (by grind) (by grind) (by grind)
  obtain ⟨u, U, e, i, r⟩ := div_is hb hl Tn (by
    have h6 := p2_le (show (10 : Int) ≤ 1022 by decide)
    have h8 : (2 : Rat) ^ (10 : Int) = 1024 := by rw [show (10 : Int) = ((10 : Nat) : Int) by rfl, p2_nat]; rfl
    grind)
  refine ⟨u, U, e, i, ?_⟩
  have f := Rat.mul_le_mul_of_nonneg_right r.fine (show 0 ≤ T by grind)
  have e1 : (U - X / T).abs * T = (U * T - X).abs := by
    rw [show U * T - X = (U - X / T) * T by grind, abs_mul, Rat.abs_of_nonneg (show 0 ≤ T by grind)]
  have e2 : (X / T).abs * T = X.abs := by
    have : (X / T).abs * T.abs = X.abs := by rw [← abs_mul, q1]
    rw [Rat.abs_of_nonneg (show 0 ≤ T by grind)] at this
    exact this
  rw [e1] at f
  generalize (X / T).abs = a at *
  have e3 : (a * (eps / 2) + tn) * T = a * T * (eps / 2) + tn * T := by
    rw [Rat.add_mul, Rat.mul_assoc, Rat.mul_comm (eps / 2), ← Rat.mul_assoc]
  rw [e3, e2] at f
  exact f
theorem half_abs {p : Int} (h : p ≠ 0) : (1 / 2 : Rat) ≤ ((p : Rat) / 2).abs := by
  rw [show ((p : Rat) / 2) = (p : Rat) * (1 / 2) by grind, abs_mul, Rat.abs_of_nonneg (x := (1 / 2 : Rat)) (by grind)]
  rcases int_ok p with g | g
  · exfalso
    have : ((p : Int) : Rat) = ((0 : Int) : Rat) := g
    exact h (int_eq_iff.1 this)
  · grind
theorem half_le {p : Int} (h : p.natAbs ≤ 128) : ((p : Rat) / 2).abs ≤ 64 := by
  have := int_le (N := 128) (B := 128) h rfl
  have a := abs_le_iff.1 this
  exact abs_le_iff.2 ⟨by grind, by grind⟩
theorem p2_m1 : (2 : Rat) ^ (-1 : Int) = 1 / 2 := by
  have := p2_half 0
  rw [Rat.zpow_zero, show (0 - 1 : Int) = -1 by decide] at this
  grind
theorem scale_un {E t Z T P : Rat} : (Z * E + t * T) * P = E * (Z * P) + t * (T * P) := by grind
theorem len_unit {a b : Nat} {p q : Int} (ha : Is a ((p : Rat) / 2)) (hb : Is b ((q : Rat) / 2)) (hp : p.natAbs ≤ 128) (hq : q.natAbs ≤ 128) (h0 : p ≠ 0 ∨ q ≠ 0) :
    ∃ l L u1 u2 U1 U2, Is l L ∧ 0 < L ∧ (L * L - ((p : Rat) / 2 * ((p : Rat) / 2) + (q : Rat) / 2 * ((q : Rat) / 2))).abs ≤ 8 / 5 * eps * ((p : Rat) / 2 * ((p : Rat) / 2) + (q : Rat) / 2 * ((q : Rat) / 2)) ∧ Is u1 U1 ∧ Is u2 U2 ∧
      (U1 * L - (p : Rat) / 2).abs ≤ eps / 2 * ((p : Rat) / 2).abs + tn * L ∧ (U2 * L - (q : Rat) / 2).abs ≤ eps / 2 * ((q : Rat) / 2).abs + tn * L ∧
      (∀ (R : Type) (k : Nat → Option R), lengthK R a b k = k l) ∧ ∀ (R : Type) (k : Nat → Nat → Option R), UK R a b k = k u1 u2 := by
  have bx := half_le hp
  have bY := half_le hq
  obtain ⟨n, b1, b2, X, Y, nm, n7, i1, i2, r1, r2, ux, uy, hlow, hs, g, G, hg, hG0, hgk⟩ := scaled_is ha hb (by grind) (by grind) (by
    rcases h0 with h | h
    · left; have := half_abs h; grind
    · right; have := half_abs h; grind)
  have ex : X = (p : Rat) / 2 * (2 : Rat) ^ (-n) := r1.rep p (-1 + -n) (by omega) (by omega) (by rw [p2_add, p2_m1]; grind)
  have ey : Y = (q : Rat) / 2 * (2 : Rat) ^ (-n) := r2.rep q (-1 + -n) (by omega) (by omega) (by rw [p2_add, p2_m1]; grind)
  generalize (p : Rat) / 2 = x at *
  generalize (q : Rat) / 2 = y at *
  rw [← ex] at ux hlow
  rw [← ey] at uy hlow
  obtain ⟨s, l, T, f1, f2, iT, T0, dT, N1, N2⟩ := sq_root i1 i2 (by grind) (by grind) (by rcases hlow with h | h <;> grind)
  have dT' := abs_le_iff.1 dT
  rw [eps_eq] at dT'
  have T1 := pos_of_sq T0 (N := 1 / 100) (by grind) (by grind)
  have T2 := le_of_sq T0 (N := 4) (by grind) (by grind)
  obtain ⟨r, iR, hR⟩ := scale_ex iT nm n7 T1 T2
  obtain ⟨c1, U1, e1, j1, d1⟩ := quo_near i1 iT T1 ux
  obtain ⟨c2, U2, e2, j2, d2⟩ := quo_near i2 iT T1 uy
  have pp := p2_pos n
  have hcan := p2_cancel n
  have bk : ∀ {Z z : Rat}, Z = z * (2 : Rat) ^ (-n) → Z * (2 : Rat) ^ n = z := fun {Z z} h => by
    rw [h, Rat.mul_assoc, Rat.mul_comm ((2 : Rat) ^ (-n)), hcan, Rat.mul_one]
  have kx := bk ex
  have ky := bk ey
  have ab : ∀ {Z z : Rat}, Z * (2 : Rat) ^ n = z → Z.abs * (2 : Rat) ^ n = z.abs := fun {Z z} h => by
    rw [← h, abs_mul, p2_abs]
  have un : ∀ {U Z z : Rat}, Z * (2 : Rat) ^ n = z → (U * T - Z).abs ≤ Z.abs * (eps / 2) + tn * T → (U * (T * (2 : Rat) ^ n) - z).abs ≤ eps / 2 * z.abs + tn * (T * (2 : Rat) ^ n) := fun {U Z z} h hd => by
    have m := Rat.mul_le_mul_of_nonneg_right hd (Rat.le_of_lt pp)
    have e3 : (U * T - Z).abs * (2 : Rat) ^ n = (U * (T * (2 : Rat) ^ n) - z).abs := by
      rw [← p2_abs n, ← abs_mul, p2_abs, ← h]
      congr 1
      grind
    rw [e3] at m
    rw [scale_un, ab h] at m
    exact m
  refine ⟨r, _, c1, c2, U1, U2, iR, Rat.mul_pos T0 pp, ?_, j1, j2, un kx d1, un ky d2, fun R k => ?_, fun R k => ?_⟩
  · have m := Rat.mul_le_mul_of_nonneg_right dT (show 0 ≤ (2 : Rat) ^ n * (2 : Rat) ^ n by exact Rat.mul_nonneg (Rat.le_of_lt pp) (Rat.le_of_lt pp))
    have ea : (T * T - (X * X + Y * Y)).abs * ((2 : Rat) ^ n * (2 : Rat) ^ n) = (T * (2 : Rat) ^ n * (T * (2 : Rat) ^ n) - (x * x + y * y)).abs := by
      rw [← kx, ← ky, ← Rat.abs_of_nonneg (show 0 ≤ (2 : Rat) ^ n * (2 : Rat) ^ n by exact Rat.mul_nonneg (Rat.le_of_lt pp) (Rat.le_of_lt pp)), ← abs_mul]
      congr 1
      grind
    rw [ea] at m
    have eb : 8 / 5 * eps * (X * X + Y * Y) * ((2 : Rat) ^ n * (2 : Rat) ^ n) = 8 / 5 * eps * (x * x + y * y) := by rw [← kx, ← ky]; grind
    rw [eb] at m
    exact m
  · rw [lengthK_pre ha hb hg hG0 hgk, hs, f1, f2, hR]
  · unfold UK unT unitB fCT
    rw [FiniteK_yes ha hb]
    show greatestK R a b _ = _
    rw [hgk, forceB_eq, eqF_is hg is_zero, show ((0 : Int) : Rat) = 0 from rfl, decide_eq_false hG0]
    simp only
    rw [hs, f1, f2, bindF_eq e1, bindF_eq e2]
end Go.Vm
namespace Go.Vm
open Ieee
set_option linter.unusedVariables false
set_option linter.unusedSimpArgs false

/-! ### A way turned by a unit -/
theorem prod_near {U S w L P : Rat} (hU : (U * L - w).abs ≤ eps / 2 * w.abs + tn * L) (hP : Rnd (U * S) P) (hS : S.abs ≤ 33) (hL : 0 < L) : (P * L - w * S).abs ≤ 76 / 100 * eps * (w * S).abs + eps / 1000 * L := by
  have f := Rat.mul_le_mul_of_nonneg_right hP.fine (Rat.le_of_lt hL)
  have ep := eps_pos
  have el := eps_le
  have tp := tn_pos
  have ts := tn_small
  have aL : L.abs = L := Rat.abs_of_nonneg (Rat.le_of_lt hL)
  have e1 : (P - U * S).abs * L = (P * L - U * S * L).abs := by
    rw [show P * L - U * S * L = (P - U * S) * L by grind, abs_mul, aL]
  have e2 : (U * S).abs * L = (U * L).abs * S.abs := by
    rw [abs_mul, abs_mul, aL]; grind
  have t1 := abs_add_le (P * L - U * S * L) ((U * L - w) * S)
  rw [show P * L - U * S * L + (U * L - w) * S = P * L - w * S by grind, abs_mul (U * L - w)] at t1
  have t2 := abs_add_le (U * L - w) w
  rw [show U * L - w + w = U * L by grind] at t2
  have nS := abs_nonneg S
  have nw := abs_nonneg w
  have eW := abs_mul w S
  rw [e1] at f
  have f2 : ((U * S).abs * (eps / 4) + tn) * L = (U * S).abs * L * (eps / 4) + tn * L := by
    rw [Rat.add_mul, Rat.mul_assoc, Rat.mul_comm (eps / 4), ← Rat.mul_assoc]
  rw [f2, e2] at f
  rw [eW]
  generalize (P * L - w * S).abs = r at *
  generalize (P * L - U * S * L).abs = r1 at *
  generalize (U * L - w).abs = d at *
  generalize (U * L).abs = u at *
  generalize w.abs = b at *
  generalize S.abs = s at *
  have tL := Rat.mul_pos tp hL
  have m1 : d * s ≤ (eps / 2 * b + tn * L) * s := Rat.mul_le_mul_of_nonneg_right hU nS
  have m2 : u * s ≤ (b * (1001 / 1000) + tn * L) * s := by
    refine Rat.mul_le_mul_of_nonneg_right ?_ nS
    have := Rat.mul_le_mul_of_nonneg_right el nw
    grind
  have m3 := Rat.mul_le_mul_of_nonneg_right m2 (show 0 ≤ eps / 4 by grind)
  have m4 := Rat.mul_le_mul_of_nonneg_right hS (Rat.le_of_lt tL)
  have m5 := Rat.mul_le_mul_of_nonneg_right ts (Rat.le_of_lt hL)
  have m6 : s * (tn * L) * (eps / 4) ≤ 33 * (tn * L) * (1 / 1000) := mul_mono' m4 (by grind) (by grind) (by grind)
  have m7 := Rat.mul_nonneg (Rat.mul_nonneg nw nS) (Rat.le_of_lt ep)
  generalize hTL : tn * L = x at *
  have r2 : r ≤ (b * (1001 / 1000) + x) * s * (eps / 4) + x + (eps / 2 * b + x) * s := by grind
  have k1 : (b * (1001 / 1000) + x) * s * (eps / 4) = 1001 / 4000 * (b * s * eps) + s * x * (eps / 4) := by grind
  have k2 : (eps / 2 * b + x) * s = 1 / 2 * (b * s * eps) + s * x := by grind
  have k3 : 76 / 100 * eps * (b * s) = 76 / 100 * (b * s * eps) := by grind
  have k4 : eps * (1 / 1000000) * L = eps / 1000 * L * (1 / 1000) := by grind
  rw [k1, k2] at r2
  rw [k3]
  grind
theorem sum_turn {P1 P2 t1 t2 e1 e2 L z : Rat} (h1 : (P1 * L - t1).abs ≤ e1) (h2 : (P2 * L - t2).abs ≤ e2) (hz : Rnd (P1 + P2) z) (hL : 0 < L) : (z * L - (t1 + t2)).abs ≤ e1 + e2 + eps / 4 * (t1.abs + t2.abs + e1 + e2) + tn * L := by
  have f := Rat.mul_le_mul_of_nonneg_right hz.fine (Rat.le_of_lt hL)
  have ep := eps_pos
  have aL : L.abs = L := Rat.abs_of_nonneg (Rat.le_of_lt hL)
  have e3 : (z - (P1 + P2)).abs * L = (z * L - (P1 + P2) * L).abs := by
    rw [show z * L - (P1 + P2) * L = (z - (P1 + P2)) * L by grind, abs_mul, aL]
  have e4 : (P1 + P2).abs * L = (P1 * L + P2 * L).abs := by
    rw [show P1 * L + P2 * L = (P1 + P2) * L by grind, abs_mul, aL]
  have f2 : ((P1 + P2).abs * (eps / 4) + tn) * L = (P1 + P2).abs * L * (eps / 4) + tn * L := by
    rw [Rat.add_mul, Rat.mul_assoc, Rat.mul_comm (eps / 4), ← Rat.mul_assoc]
  rw [e3, f2, e4] at f
  have s1 := abs_add_le (P1 * L - t1) t1
  rw [show P1 * L - t1 + t1 = P1 * L by grind] at s1
  have s2 := abs_add_le (P2 * L - t2) t2
  rw [show P2 * L - t2 + t2 = P2 * L by grind] at s2
  have s3 := abs_add_le (P1 * L) (P2 * L)
  have s4 : (P1 * L + P2 * L).abs * (eps / 4) ≤ (t1.abs + t2.abs + e1 + e2) * (eps / 4) := Rat.mul_le_mul_of_nonneg_right (by grind) (by grind)
  have s5 := abs_add_le (z * L - (P1 + P2) * L) ((P1 * L - t1) + (P2 * L - t2))
  rw [show z * L - (P1 + P2) * L + (P1 * L - t1 + (P2 * L - t2)) = z * L - (t1 + t2) by grind] at s5
  have s6 := abs_add_le (P1 * L - t1) (P2 * L - t2)
  grind
/-- Cauchy -/
theorem cauchy {a b c d : Rat} : (a.abs * c.abs + b.abs * d.abs) * (a.abs * c.abs + b.abs * d.abs) ≤ (a * a + b * b) * (c * c + d * d) := by
  have e1 : a.abs * a.abs = a * a := by rw [← abs_mul, sq_abs]
  have e2 : b.abs * b.abs = b * b := by rw [← abs_mul, sq_abs]
  have e3 : c.abs * c.abs = c * c := by rw [← abs_mul, sq_abs]
  have e4 : d.abs * d.abs = d * d := by rw [← abs_mul, sq_abs]
  rw [← e1, ← e2, ← e3, ← e4]
  generalize a.abs = a at *
  generalize b.abs = b at *
  generalize c.abs = c at *
  generalize d.abs = d at *
  have := sq_nonneg (a * d - b * c)
  grind
theorem le_of_sq_le {x y : Rat} (hy : 0 ≤ y) (h : x * x ≤ y * y) : x ≤ y := by
  refine Rat.not_lt.1 fun hc => ?_
  have h1 := Rat.mul_lt_mul_of_pos_right hc (show 0 < x by grind)
  have h2 := Rat.mul_le_mul_of_nonneg_left (Rat.le_of_lt hc) hy
  grind
end Go.Vm
