/- Sums, products, comparisons of words are those of their numbers, rounded; no conditions. -/
import Derived.Test.YtnbpfafngidimaaGreatVmF0
namespace Go.Vm
open Ieee
set_option linter.unusedVariables false
set_option linter.unusedSimpArgs false

theorem sg_not (s : Bool) : sg (!s) = -sg s := by cases s <;> simp [sg]
theorem sg_xor (s t : Bool) : sg (s ^^ t) = sg s * sg t := by cases s <;> cases t <;> simp [sg] <;> grind
theorem dv_abs (s : Bool) (m : Nat) (i : Int) : (dv s m i).abs = (m : Rat) * (2 : Rat) ^ i := by
  unfold dv
  rw [sg_abs, Rat.abs_of_nonneg]
  exact Rat.mul_nonneg (by exact_mod_cast Nat.zero_le _) (Rat.le_of_lt (p2_pos i))

theorem signed_val (s : Bool) (m up : Nat) : ((signed s m up : Int) : Rat) = sg s * ((m : Rat) * (2 : Rat) ^ (up : Int)) := by
  unfold signed sg
  rw [p2_nat, Nat.shiftLeft_eq]
  cases s
  · simp only [Bool.false_eq_true, if_false]; push_cast; grind
  · simp only [if_true]; push_cast; grind

theorem int_dv (n : Int) (b : Bool) (i : Int) (hb : n ≠ 0 → b = decide (n < 0)) : dv b n.natAbs i = (n : Rat) * (2 : Rat) ^ i := by
  unfold dv sg
  by_cases h : n = 0
  · subst h; simp
  · rw [hb h]
    rcases (show n < 0 ∨ 0 ≤ n by omega) with h1 | h1
    · simp only [h1, decide_true, if_true]
      have : ((n.natAbs : Nat) : Rat) = -(n : Rat) := by
        have : ((n.natAbs : Nat) : Int) = -n := by omega
        exact_mod_cast congrArg (fun z : Int => (z : Rat)) this
      rw [this]; grind
    · have h2 : ¬ n < 0 := by omega
      simp only [h2, decide_false, Bool.false_eq_true, if_false]
      have : ((n.natAbs : Nat) : Rat) = (n : Rat) := by
        have : ((n.natAbs : Nat) : Int) = n := by omega
        exact_mod_cast congrArg (fun z : Int => (z : Rat)) this
      rw [this]; grind

theorem number_is {s : Bool} {m : Nat} {i : Int} (h : (dv s m i).abs < (2 : Rat) ^ (1023 : Int)) :
    ∃ z, Is (double.write (.number s m i)) z ∧ Rnd (dv s m i) z := nearest_is (by rw [dv_abs] at h; exact h)

theorem sum_val {s t : Bool} {m n : Nat} {i j : Int} : ∃ b k e, Datum.sum (.number s m i) (.number t n j) = some (.number b k e) ∧ dv b k e = dv s m i + dv t n j := by
  refine ⟨_, _, _, rfl, ?_⟩
  have hs : ∀ (s : Bool) (m : Nat) (i b : Int), b ≤ i → ((signed s m (i - b).toNat : Int) : Rat) * (2 : Rat) ^ b = dv s m i := fun s m i b hb => by
    rw [signed_val, show (((i - b).toNat : Nat) : Int) = i - b by omega]
    unfold dv
    rw [show (2 : Rat) ^ i = (2 : Rat) ^ (i - b) * (2 : Rat) ^ b by rw [← p2_add]; congr 1; omega]
    grind
  rw [int_dv]
  · push_cast
    rw [← hs s m i (min i j) (by omega), ← hs t n j (min i j) (by omega)]
    grind
  · intro h0
    rw [if_neg h0]

theorem add_is {a b : Nat} {x y : Rat} (ha : Is a x) (hb : Is b y) (h : (x + y).abs < (2 : Rat) ^ (1023 : Int)) :
    ∃ r z, floatBits .add .f64 a b = some r ∧ Is r z ∧ Rnd (x + y) z := by
  obtain ⟨_, s, m, i, h1, rfl⟩ := ha
  obtain ⟨_, t, n, j, h2, rfl⟩ := hb
  obtain ⟨c, k, e, h3, h4⟩ := @sum_val s t m n i j
  rw [← h4] at h ⊢
  obtain ⟨z, h5, h6⟩ := number_is h
  refine ⟨_, z, ?_, h5, h6⟩
  show double.add a b = _
  unfold Format.add
  rw [h1, h2, h3]
  rfl

theorem sub_is {a b : Nat} {x y : Rat} (ha : Is a x) (hb : Is b y) (h : (x - y).abs < (2 : Rat) ^ (1023 : Int)) :
    ∃ r z, floatBits .sub .f64 a b = some r ∧ Is r z ∧ Rnd (x - y) z := by
  obtain ⟨_, s, m, i, h1, rfl⟩ := ha
  obtain ⟨_, t, n, j, h2, rfl⟩ := hb
  obtain ⟨c, k, e, h3, h4⟩ := @sum_val s (!t) m n i j
  have h7 : dv (!t) n j = - dv t n j := by unfold dv; rw [sg_not]; grind
  rw [show dv s m i - dv t n j = dv s m i + dv (!t) n j by grind, ← h4] at h ⊢
  obtain ⟨z, h5, h6⟩ := number_is h
  refine ⟨_, z, ?_, h5, h6⟩
  show double.sub a b = _
  unfold Format.sub
  rw [h1, h2]
  show (Datum.sum (.number s m i) (.number (!t) n j)).map double.write = _
  rw [h3]
  rfl

theorem mul_is {a b : Nat} {x y : Rat} (ha : Is a x) (hb : Is b y) (h : (x * y).abs < (2 : Rat) ^ (1023 : Int)) :
    ∃ r z, floatBits .mul .f64 a b = some r ∧ Is r z ∧ Rnd (x * y) z := by
  obtain ⟨_, s, m, i, h1, rfl⟩ := ha
  obtain ⟨_, t, n, j, h2, rfl⟩ := hb
  have h4 : dv (s ^^ t) (m * n) (i + j) = dv s m i * dv t n j := by
    unfold dv; rw [sg_xor, p2_add]; push_cast; grind
  rw [← h4] at h ⊢
  obtain ⟨z, h5, h6⟩ := number_is h
  refine ⟨_, z, ?_, h5, h6⟩
  show double.mul a b = _
  unfold Format.mul
  rw [h1, h2]
  rfl

theorem neg_is {a : Nat} {x : Rat} (ha : Is a x) : Is (Op.negFloat .f64 a) (-x) := by
  obtain ⟨hw, s, m, i, h1, rfl⟩ := ha
  refine ⟨Nat.xor_lt_two_pow hw (by decide), !s, m, i, ?_, by unfold dv; rw [sg_not]; grind⟩
  have e1 : double.signWeight = 2 ^ 63 := by decide
  have hx : Op.negFloat .f64 a = a ^^^ 2 ^ 63 := rfl
  have hm : (a ^^^ 2 ^ 63) % 2 ^ 63 = a % 2 ^ 63 := by rw [Nat.xor_mod_two_pow]; simp
  have ht : ((a ^^^ 2 ^ 63) / 2 ^ 63 % 2 == 1) = !(a / 2 ^ 63 % 2 == 1) := by
    have h0 : ∀ x : Nat, (x / 2 ^ 63 % 2 == 1) = x.testBit 63 := fun x => by rw [Nat.testBit_eq_decide_div_mod_eq]; rfl
    rw [h0, h0, Nat.testBit_xor, Nat.testBit_two_pow_self]
    cases a.testBit 63 <;> rfl
  unfold Format.read at *
  rw [hx]
  simp only [e1] at h1 ⊢
  rw [hm, ht]
  split at h1
  · rename_i hc
    simp only [hc, if_true]
    injection h1 with g1 g2 g3
    rw [g1, g2, g3]
  · split at h1
    · rename_i hc1 hc
      simp only [hc, if_true, hc1, if_false]
      injection h1 with g1 g2 g3
      rw [g1, g2, g3]
    · split at h1 <;> cases h1

theorem order_is {a b : Nat} {x y : Rat} (ha : Is a x) (hb : Is b y) :
    double.order a b = some (if x < y then .lt else if x = y then .eq else .gt) := by
  obtain ⟨_, s, m, i, h1, rfl⟩ := ha
  obtain ⟨_, t, n, j, h2, rfl⟩ := hb
  unfold Format.order
  rw [h1, h2]
  show some (compare (signed s m (i - min i j).toNat) (signed t n (j - min i j).toNat)) = _
  have hs : ∀ (s : Bool) (m : Nat) (i b : Int), b ≤ i → ((signed s m (i - b).toNat : Int) : Rat) * (2 : Rat) ^ b = dv s m i := fun s m i b hb => by
    rw [signed_val, show (((i - b).toNat : Nat) : Int) = i - b by omega]
    unfold dv
    rw [show (2 : Rat) ^ i = (2 : Rat) ^ (i - b) * (2 : Rat) ^ b by rw [← p2_add]; congr 1; omega]
    grind
  have e1 := hs s m i (min i j) (by omega)
  have e2 := hs t n j (min i j) (by omega)
  generalize signed s m (i - min i j).toNat = p at *
  generalize signed t n (j - min i j).toNat = q at *
  rw [← e1, ← e2]
  have hp := p2_pos (min i j)
  generalize (2 : Rat) ^ (min i j) = u at *
  congr 1
  rcases Int.lt_trichotomy p q with h | h | h
  · have : ((p : Rat)) < (q : Rat) := by exact_mod_cast h
    have := Rat.mul_lt_mul_of_pos_right this hp
    rw [if_pos this]
    exact Int.compare_eq_lt.2 h
  · subst h
    rw [if_neg (by grind), if_pos rfl]
    exact Int.compare_eq_eq.2 rfl
  · have : ((q : Rat)) < (p : Rat) := by exact_mod_cast h
    have := Rat.mul_lt_mul_of_pos_right this hp
    rw [if_neg (by grind), if_neg (by grind)]
    exact Int.compare_eq_gt.2 h

theorem ofInt_is {n : Int} (h : n.natAbs < 2 ^ 53) : Is (floatOfInt .f64 n) n := by
  have h1 := int_dv n (decide (n < 0)) 0 fun _ => rfl
  have h2 : (n : Rat) * (2 : Rat) ^ (0 : Int) = n := by simp
  rw [h2] at h1
  have h3 : (dv (decide (n < 0)) n.natAbs 0).abs < (2 : Rat) ^ (1023 : Int) := by
    rw [dv_abs]
    have h4 : ((n.natAbs : Nat) : Rat) < ((2 ^ 53 : Nat) : Rat) := nat_cast_lt h
    have h5 : (2 : Rat) ^ (53 : Int) ≤ (2 : Rat) ^ (1023 : Int) := p2_le (by decide)
    have h6 : (2 : Rat) ^ (53 : Int) = ((2 ^ 53 : Nat) : Rat) := p2_nat 53
    have h7 : (2 : Rat) ^ (0 : Int) = 1 := by simp
    grind
  obtain ⟨z, h5, h6⟩ := number_is h3
  have : z = n := by
    rw [← h1]
    exact h6.rep n 0 h (by decide) (by rw [h1, h2])
  rw [this] at h5
  exact h5
end Go.Vm
