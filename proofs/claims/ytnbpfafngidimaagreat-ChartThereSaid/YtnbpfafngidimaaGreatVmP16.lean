/- The square root of a complex number on words, its second part; no conditions. -/
import Derived.Test.YtnbpfafngidimaaGreatVmP15
namespace Go.Vm
open Ieee Cq
set_option linter.unusedVariables false
set_option linter.unusedSimpArgs false

theorem is_fun {w : Nat} {x y : Rat} (h : Is w x) (g : Is w y) : x = y := by
  obtain ⟨_, s, m, i, h1, rfl⟩ := h
  obtain ⟨_, t, n, j, h2, rfl⟩ := g
  rw [h1] at h2
  cases h2
  rfl

theorem or_xor63 {a : Nat} (ha : a < 2 ^ 63) : a ||| 2 ^ 63 = a ^^^ 2 ^ 63 := by
  apply Nat.eq_of_testBit_eq
  intro j
  rw [Nat.testBit_or, Nat.testBit_xor, Nat.testBit_two_pow]
  by_cases h : 63 = j
  · subst h
    rw [Nat.testBit_lt_two_pow ha]
    simp
  · simp [h]

theorem split63 {b : Nat} (hb : b < 2 ^ 64) (h : b.testBit 63 = true) : b = b % 2 ^ 63 ^^^ 2 ^ 63 := by
  apply Nat.eq_of_testBit_eq
  intro j
  rw [Nat.testBit_xor, Nat.testBit_mod_two_pow, Nat.testBit_two_pow]
  by_cases h' : 63 = j
  · subst h'; simp [h]
  · by_cases hj : j < 63
    · simp [hj, h']
    · have : b < 2 ^ j := Nat.lt_of_lt_of_le hb (Nat.pow_le_pow_right (by decide) (by omega))
      rw [Nat.testBit_lt_two_pow this]
      simp [hj, h']
theorem low63 {b : Nat} (hb : b < 2 ^ 64) (h : b.testBit 63 = false) : b % 2 ^ 63 = b := by
  apply Nat.eq_of_testBit_eq
  intro j
  rw [Nat.testBit_mod_two_pow]
  by_cases h' : j = 63
  · subst h'; simp [h]
  · by_cases hj : j < 63
    · simp [hj]
    · have : b < 2 ^ j := Nat.lt_of_lt_of_le hb (Nat.pow_le_pow_right (by decide) (by omega))
      rw [Nat.testBit_lt_two_pow this]
      simp

/-- a number's size with another one's sign -/
theorem copy_is {a b : Nat} {Z Y : Rat} (ia : Is a Z) (ib : Is b Y) : ∃ (w : Nat) (sn : Rat), (sn = 1 ∨ sn = -1) ∧ Is w (sn * Z.abs) ∧ sn * Y.abs = Y ∧ ∀ (R : Type) (k : Nat → Option R), copyK R a b k = k w := by
  have hy := ib.1
  have h1 := andU_eq (a := b) (b := 9223372036854775808) hy (by decide)
  rw [show ((9223372036854775808 : Nat) : Int) = 9223372036854775808 by rfl] at h1
  have h2 : b &&& 9223372036854775808 = (b.testBit 63).toNat * 2 ^ 63 := by
    rw [show (9223372036854775808 : Nat) = 2 ^ 63 by decide, and_two_pow']
  have h0 := andNotU_eq (a := a) (b := 9223372036854775808) ia.1 (by decide)
  rw [show ((9223372036854775808 : Nat) : Int) = 9223372036854775808 by rfl] at h0
  have hm : 2 ^ 64 - 1 - 9223372036854775808 = 2 ^ 63 - 1 := by decide
  rw [hm, Nat.and_two_pow_sub_one_eq_mod] at h0
  have hlt : a % 2 ^ 63 < 2 ^ 63 := Nat.mod_lt _ (by decide)
  have iA := abs_is ia
  have iB := abs_is ib
  rw [absW_eq] at iA iB
  have hk : ∀ (R : Type) (k : Nat → Option R), copyK R a b k = k (a % 2 ^ 63 ||| (b.testBit 63).toNat * 2 ^ 63) := fun R k => by
    unfold copyK
    rw [h0, h1, h2, orU_eq (by omega) (by cases b.testBit 63 <;> decide), Int.toNat_natCast]
  cases hb : b.testBit 63 with
  | false =>
    refine ⟨a % 2 ^ 63, 1, .inl rfl, by rw [Rat.one_mul]; exact iA, ?_, fun R k => by rw [hk, hb]; simp⟩
    rw [low63 hy hb] at iB
    rw [Rat.one_mul]
    exact is_fun iB ib
  | true =>
    refine ⟨a % 2 ^ 63 ^^^ 2 ^ 63, -1, .inr rfl, ?_, ?_, fun R k => by rw [hk, hb]; simp only [Bool.toNat_true, Nat.one_mul]; rw [or_xor63 hlt]⟩
    · rw [show (-1 : Rat) * Z.abs = -Z.abs by grind]; exact neg_is iA
    · have := neg_is iB
      have e : Op.negFloat .f64 (b % 2 ^ 63) = b % 2 ^ 63 ^^^ 2 ^ 63 := rfl
      rw [e, ← split63 hy hb] at this
      rw [show (-1 : Rat) * Y.abs = -Y.abs by grind]
      exact is_fun this ib

/-- both parts of the root on words, given its first part -/
theorem root_quo {b d : Nat} {X Y Z : Rat} {k : Int} (k1 : -600 ≤ k) (k2 : k ≤ 450) (ib : Is b Y) (id : Is d (2 * Z)) (hZ : 0 < Z) (hZk : (2 : Rat) ^ k ≤ 3 * Z)
    (up' : (Y * (2 : Rat) ^ (-2 * k)).abs ≤ 2) (lo : 1 / 2 ≤ X * (2 : Rat) ^ (-2 * k) ∨ 1 / 2 ≤ (Y * (2 : Rat) ^ (-2 * k)).abs)
    (key : ∀ y Q : Rat, y.abs = (Y * (2 : Rat) ^ (-2 * k)).abs → (Q - y * (2 : Rat) ^ (2 * k) / (2 * Z)).abs ≤ 10 * eps * (2 : Rat) ^ k →
        (Z * Z - Q * Q - X).abs ≤ 700 * eps * (2 : Rat) ^ (2 * k) ∧ (2 * Z * Q - y * (2 : Rat) ^ (2 * k)).abs ≤ 40 * eps * (2 : Rat) ^ (2 * k)) :
    ∃ w Q, floatBits .quo .f64 b d = some w ∧ Is w Q ∧ (Z * Z - Q * Q - X).abs ≤ 700 * eps * (2 : Rat) ^ (2 * k) ∧ (2 * Z * Q - Y).abs ≤ 40 * eps * (2 : Rat) ^ (2 * k) ∧ (2 : Rat) ^ (2 * k) * (2 : Rat) ^ (2 * k) ≤ 4 * (X * X + Y * Y) := by
  have hc := p2_cancel (2 * k)
  rw [show -(2 * k) = -2 * k by omega] at hc
  have hkk : (2 : Rat) ^ (2 * k) = (2 : Rat) ^ k * (2 : Rat) ^ k := by rw [← p2_add]; congr 1; omega
  have hY : Y = Y * (2 : Rat) ^ (-2 * k) * (2 : Rat) ^ (2 * k) := by rw [Rat.mul_assoc, Rat.mul_comm ((2 : Rat) ^ (-2 * k)), hc]; grind
  have hX : X = X * (2 : Rat) ^ (-2 * k) * (2 : Rat) ^ (2 * k) := by rw [Rat.mul_assoc, Rat.mul_comm ((2 : Rat) ^ (-2 * k)), hc]; grind
  have pk := p2_pos k
  have pc := p2_pos (2 * k)
  have hbig := p2_le (show k ≤ 450 by omega)
  have h450 := p2_le (show (450 : Int) ≤ 1020 by decide)
  have h1022 : (2 : Rat) ^ (1022 : Int) = 4 * (2 : Rat) ^ (1020 : Int) := by
    rw [show (1022 : Int) = 1020 + 2 by decide, p2_add]
    have : (2 : Rat) ^ (2 : Int) = 4 := by rw [show (2 : Int) = ((2 : Nat) : Int) by rfl, p2_nat]; rfl
    rw [this]; grind
  have h1020 := p2_pos 1020
  have hlow := p2_le (show (-1000 : Int) ≤ k by omega)
  have qa : (Y / (2 * Z)).abs ≤ 3 * (2 : Rat) ^ k := abs_div_le (by grind) (by
    rw [Rat.abs_of_nonneg (show 0 ≤ 2 * Z by grind), hY, abs_mul, Rat.abs_of_nonneg (Rat.le_of_lt pc), hkk]
    have g1 := Rat.mul_le_mul_of_nonneg_right up' (Rat.le_of_lt (Rat.mul_pos pk pk))
    have g2 := Rat.mul_le_mul_of_nonneg_left hZk (Rat.le_of_lt pk)
    grind)
  obtain ⟨w, Q, e1, i1, n1⟩ := div_is ib id (by grind) (by
    have := Rat.mul_le_mul_of_nonneg_left hbig (show (0 : Rat) ≤ 3 by decide)
    grind)
  have d1 := n1.le qa (by grind)
  obtain ⟨g1, g2⟩ := key (Y * (2 : Rat) ^ (-2 * k)) Q rfl (by
    rw [← hY]
    have := Rat.mul_nonneg (Rat.le_of_lt eps_pos) (Rat.le_of_lt pk)
    grind)
  rw [← hY] at g2
  refine ⟨w, Q, e1, i1, g1, g2, ?_⟩
  generalize X * (2 : Rat) ^ (-2 * k) = x at *
  generalize Y * (2 : Rat) ^ (-2 * k) = y at *
  have l2 : 1 / 4 ≤ x * x + y * y := by
    have xn := sq_nonneg x
    have yn := sq_nonneg y
    rcases lo with g | g
    · have := Cq.mul_le (show (0 : Rat) ≤ 1 / 2 by grind) g (show (0 : Rat) ≤ 1 / 2 by grind) g; grind
    · have := sq_ge g (by grind); grind
  have cc := Rat.mul_nonneg (Rat.le_of_lt pc) (Rat.le_of_lt pc)
  have l3 := Rat.mul_le_mul_of_nonneg_right l2 cc
  have e : (x * x + y * y) * ((2 : Rat) ^ (2 * k) * (2 : Rat) ^ (2 * k)) = X * X + Y * Y := by rw [hX, hY]; grind
  rw [e] at l3
  grind

theorem rootOf_mk {P d : Cq} {c : Rat} (hc : 0 ≤ c) (h1 : (P.x * P.x - P.y * P.y - d.x).abs ≤ 700 * eps * c) (h2 : (2 * P.x * P.y - d.y).abs ≤ 40 * eps * c) (h3 : c * c ≤ 4 * d.n) : RootOf P d := by
  unfold RootOf
  have he := eps_pos
  have hec := Rat.mul_nonneg (Rat.le_of_lt he) hc
  have g := n_le (a := sub (mul P P) d) (m := 700 * eps * c) (by simpa only [sub, mul] using h1) (by
    simp only [sub, mul]
    rw [show P.x * P.y + P.y * P.x - d.y = 2 * P.x * P.y - d.y by grind]
    grind)
  have h4 := Rat.mul_le_mul_of_nonneg_left h3 (Rat.mul_nonneg (Rat.le_of_lt he) (Rat.le_of_lt he))
  have h5 := Rat.mul_nonneg (Rat.mul_nonneg (Rat.le_of_lt he) (Rat.le_of_lt he)) d.n_nonneg
  generalize d.n = D at *
  generalize (sub (mul P P) d).n = E at *
  generalize eps = e at *
  have e1 : 700 * e * c * (700 * e * c) = 490000 * (e * e * (c * c)) := by grind
  rw [e1] at g
  grind
end Go.Vm
