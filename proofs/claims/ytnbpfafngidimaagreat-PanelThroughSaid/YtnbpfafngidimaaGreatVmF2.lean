/- Quotients and roots of words are those of their numbers, rounded; no conditions. An abstract memory and how its values stand for the values of the machine; no conditions. -/
import Derived.Test.YtnbpfafngidimaaGreatVmFF
import Derived.Deep.MidRow
import Derived.Orders
import Derived.Below
import Derived.KernelRfl
import Derived.WalkLawsBesides
namespace Go.Vm
open Ieee
set_option linter.unusedVariables false
set_option linter.unusedSimpArgs false

/-! ### Quotients -/
structure Rnd2 (x z : Rat) : Prop where
  near : (z - x).abs ≤ x.abs * (2 : Rat) ^ (-52 : Int) ∨ (z - x).abs ≤ (2 : Rat) ^ (-1074 : Int)
  rep : ∀ (K : Int) (q : Int), K.natAbs < 2 ^ 53 → -1074 ≤ q → x = K * (2 : Rat) ^ q → z = x

theorem abs_zero : ((0 : Rat)).abs = 0 := by rw [Rat.abs_of_nonneg (by decide)]
theorem abs_add_le (x y : Rat) : (x + y).abs ≤ x.abs + y.abs := by
  rw [abs_le_iff]
  have h1 := (abs_le_iff (x := x) (y := x.abs)).1 Rat.le_refl
  have h2 := (abs_le_iff (x := y) (y := y.abs)).1 Rat.le_refl
  grind
theorem abs_neg (x : Rat) : (-x).abs = x.abs := by
  have := abs_mul (-1) x
  rw [show (-1 : Rat) * x = -x by grind] at this
  rw [this]
  have : ((-1 : Rat)).abs = 1 := by rw [Rat.abs_of_nonpos (by decide)]; rfl
  rw [this]; grind
theorem abs_sub_comm (x y : Rat) : (x - y).abs = (y - x).abs := by rw [← abs_neg (x - y)]; congr 1; grind

theorem p2_one : (2 : Rat) ^ (1 : Int) = 2 := by simp
theorem p2_succ (q : Int) : (2 : Rat) ^ (q + 1) = 2 * (2 : Rat) ^ q := by rw [p2_add, p2_one]; grind
theorem p2_half (q : Int) : (2 : Rat) ^ q = 2 * (2 : Rat) ^ (q - 1) := by rw [← p2_succ]; congr 1; omega

/-- A quotient with its sticky digit: the value that is rounded, and the true one. -/
theorem quotient_val {s t : Bool} {m n : Nat} {i j : Int} (hn : n ≠ 0) : ∃ b k e, Datum.quotient 54 (.number s m i) (.number t n j) = some (.number b k e) ∧
    (dv b k e - dv s m i / dv t n j).abs ≤ (dv s m i / dv t n j).abs * (2 : Rat) ^ (-54 : Int) ∧
    (∀ (K : Int) (q : Int), K.natAbs < 2 ^ 53 → dv s m i / dv t n j = K * (2 : Rat) ^ q → dv b k e = dv s m i / dv t n j) := by
  refine ⟨_, _, _, by unfold Datum.quotient; simp only [hn, if_false]; rfl, ?_⟩
  have hn0 : (0 : Rat) < (n : Rat) := by exact_mod_cast Nat.pos_of_ne_zero hn
  generalize hmore : 54 + n.log2 - m.log2 = more
  generalize hD : m <<< more = D
  have hDm : D = m * 2 ^ more := by rw [← hD, Nat.shiftLeft_eq]
  have hE0 := p2_pos (i - j - more)
  have hj0 := p2_pos j
  have hi0 := p2_pos i
  have hq : dv s m i / dv t n j = sg (s ^^ t) * (((D : Rat) / n) * (2 : Rat) ^ (i - j - more)) := by
    have e1 : (2 : Rat) ^ i = (2 : Rat) ^ (i - j - more) * (2 : Rat) ^ j * (2 : Rat) ^ (more : Int) := by
      rw [← p2_add, ← p2_add]; congr 1; omega
    have e2 : (D : Rat) = m * (2 : Rat) ^ (more : Int) := by rw [hDm, p2_nat]; push_cast; rfl
    have hu : dv t n j ≠ 0 := by
      unfold dv
      intro h
      rcases Rat.mul_eq_zero.1 h with h | h
      · cases t <;> simp [sg] at h <;> grind
      · rcases Rat.mul_eq_zero.1 h with h | h <;> grind
    have hd : (D : Rat) / n * n = D := Rat.div_mul_cancel (by grind)
    rw [Rat.div_def]
    have hx : dv s m i = sg (s ^^ t) * (((D : Rat) / n) * (2 : Rat) ^ (i - j - more)) * dv t n j := by
      unfold dv
      rw [sg_xor, e1]
      have hs2 : sg t * sg t = 1 := by cases t <;> simp [sg] <;> grind
      have : sg s * sg t * ((D : Rat) / n * (2 : Rat) ^ (i - j - more)) * (sg t * (n * (2 : Rat) ^ j)) = sg s * (sg t * sg t) * (((D : Rat) / n * n) * (2 : Rat) ^ (i - j - more) * (2 : Rat) ^ j) := by grind
      rw [this, hs2, hd, e2]
      grind
    rw [hx, Rat.mul_assoc, Rat.mul_inv_cancel _ hu]
    grind
  have hdm := Nat.div_add_mod D n
  have hlt := Nat.mod_lt D (Nat.pos_of_ne_zero hn)
  have hdmr : (n : Rat) * ((D / n : Nat) : Rat) + ((D % n : Nat) : Rat) = D := by exact_mod_cast congrArg (fun z : Nat => (z : Rat)) hdm
  have hval : ((D : Rat) / n) = ((D / n : Nat) : Rat) + ((D % n : Nat) : Rat) / n := by
    have h1 : ((D : Rat) / n) * n = D := Rat.div_mul_cancel (by grind)
    have h2 : (((D % n : Nat) : Rat) / n) * n = ((D % n : Nat) : Rat) := Rat.div_mul_cancel (by grind)
    have h3 : ((D : Rat) / n - (((D / n : Nat) : Rat) + ((D % n : Nat) : Rat) / n)) * n = 0 := by grind
    rcases Rat.mul_eq_zero.1 h3 with h | h <;> grind
  have hfl : m ≠ 0 → 2 ^ 53 ≤ D / n := fun hm => by
    rw [Nat.le_div_iff_mul_le (Nat.pos_of_ne_zero hn)]
    have h1 : 2 ^ m.log2 ≤ m := Nat.log2_self_le hm
    have h2 : n < 2 ^ (n.log2 + 1) := Nat.lt_log2_self
    have h3 : 2 ^ m.log2 * 2 ^ more ≤ D := by rw [hDm]; exact Nat.mul_le_mul_right _ h1
    rw [← Nat.pow_add] at h3
    have h4 : 2 ^ (54 + n.log2) ≤ 2 ^ (m.log2 + more) := Nat.pow_le_pow_right (by decide) (by omega)
    have h5 : 2 ^ 53 * n ≤ 2 ^ 53 * 2 ^ (n.log2 + 1) := Nat.mul_le_mul_left _ (by omega)
    rw [← Nat.pow_add, show 53 + (n.log2 + 1) = 54 + n.log2 by omega] at h5
    omega
  generalize hf : D / n = f at *
  generalize hr : D % n = r at *
  have hb : dv (s ^^ t) (2 * f + (r != 0).toNat) (i - j - more - 1) = sg (s ^^ t) * (((f : Rat) + (if r = 0 then 0 else 1 / 2)) * (2 : Rat) ^ (i - j - more)) := by
    unfold dv
    rw [p2_half (i - j - more)]
    by_cases h0 : r = 0
    · simp [h0]; grind
    · have : (r != 0) = true := by simp [h0]
      simp only [this, Bool.toNat_true, h0, if_false]
      push_cast
      grind
  have hr0 : (0 : Rat) ≤ (r : Rat) / n := by
    have h1 : (r : Rat) / n * n = r := Rat.div_mul_cancel (by grind)
    have h2 : (0 : Rat) ≤ (r : Rat) := by exact_mod_cast Nat.zero_le _
    refine Rat.not_lt.1 fun hlt' => ?_
    have := Rat.mul_lt_mul_of_pos_right hlt' hn0
    grind
  have hr1 : (r : Rat) / n < 1 := by
    have h1 : (r : Rat) / n * n = r := Rat.div_mul_cancel (by grind)
    have h2 : (r : Rat) < (n : Rat) := nat_cast_lt hlt
    refine Rat.not_le.1 fun hle' => ?_
    have := Rat.mul_le_mul_of_nonneg_right hle' (Rat.le_of_lt hn0)
    grind
  generalize hR : (r : Rat) / n = rho at *
  constructor
  · rw [hb, hq, hval]
    by_cases h0 : r = 0
    · have hrho : rho = 0 := by
        have : (r : Rat) = 0 := by simp [h0]
        rw [← hR, this, Rat.div_def]; simp
      simp only [h0, if_true, hrho]
      rw [Rat.sub_self, abs_zero]
      exact Rat.mul_nonneg (abs_nonneg _) (Rat.le_of_lt (p2_pos _))
    · have hm : m ≠ 0 := by
        rintro rfl
        have : D = 0 := by simp [hDm]
        rw [this] at hr
        simp at hr
        exact h0 hr.symm
      simp only [h0, if_false]
      have e1 : sg (s ^^ t) * (((f : Rat) + 1 / 2) * (2 : Rat) ^ (i - j - more)) - sg (s ^^ t) * ((f + rho) * (2 : Rat) ^ (i - j - more)) = sg (s ^^ t) * ((1 / 2 - rho) * (2 : Rat) ^ (i - j - more)) := by grind
      rw [e1, sg_abs, sg_abs, abs_mul, abs_mul]
      have e2 : (1 / 2 - rho).abs ≤ 1 / 2 := by rw [abs_le_iff]; constructor <;> grind
      have e3 : ((2 : Rat) ^ (53 : Int)) ≤ ((f : Rat) + rho).abs := by
        have h1 : ((2 ^ 53 : Nat) : Rat) ≤ (f : Rat) := nat_cast_le (hfl hm)
        have h2 : (2 : Rat) ^ (53 : Int) = ((2 ^ 53 : Nat) : Rat) := p2_nat 53
        have h3 := (abs_le_iff (x := (f : Rat) + rho) (y := ((f : Rat) + rho).abs)).1 Rat.le_refl
        rw [h2]
        grind
      have e4 : (2 : Rat) ^ (53 : Int) * (2 : Rat) ^ (-54 : Int) = 1 / 2 := by
        rw [← p2_add, show (53 + -54 : Int) = -1 by decide]
        have := p2_half 0
        rw [Rat.zpow_zero, show (0 - 1 : Int) = -1 by decide] at this
        grind
      have e5 := Rat.mul_le_mul_of_nonneg_right e3 (Rat.le_of_lt (p2_pos (-54)))
      rw [e4] at e5
      have e6 : ((2 : Rat) ^ (i - j - more)).abs = (2 : Rat) ^ (i - j - more) := Rat.abs_of_nonneg (Rat.le_of_lt hE0)
      rw [e6]
      have e7 := Rat.mul_le_mul_of_nonneg_right (Rat.le_trans e2 e5) (Rat.le_of_lt hE0)
      grind
  · intro K q hK he
    rw [hb, hq, hval]
    by_cases h0 : r = 0
    · have hrho : rho = 0 := by
        have : (r : Rat) = 0 := by simp [h0]
        rw [← hR, this, Rat.div_def]; simp
      simp only [h0, if_true, hrho]
    · exfalso
      have hm : m ≠ 0 := by
        rintro rfl
        have : D = 0 := by simp [hDm]
        rw [this] at hr
        simp at hr
        exact h0 hr.symm
      rw [hq, hval] at he
      have habs := congrArg Rat.abs he
      rw [sg_abs, abs_mul, abs_mul] at habs
      have e6 : ((2 : Rat) ^ (i - j - more)).abs = (2 : Rat) ^ (i - j - more) := Rat.abs_of_nonneg (Rat.le_of_lt hE0)
      have e7 : ((2 : Rat) ^ q).abs = (2 : Rat) ^ q := Rat.abs_of_nonneg (Rat.le_of_lt (p2_pos q))
      have hf0 : (0 : Rat) ≤ (f : Rat) := by exact_mod_cast Nat.zero_le _
      have e8 : ((f : Rat) + rho).abs = f + rho := Rat.abs_of_nonneg (by grind)
      have e9 : ((K : Rat)).abs = ((K.natAbs : Nat) : Rat) := by
        have := dv_abs (decide (K < 0)) K.natAbs 0
        rw [int_dv K (decide (K < 0)) 0 fun _ => rfl] at this
        simpa using this
      rw [e6, e7, e8, e9] at habs
      -- the unit divides
      have h1 : ((2 ^ 53 : Nat) : Rat) ≤ (f : Rat) := nat_cast_le (hfl hm)
      have h2 : ((K.natAbs : Nat) : Rat) < ((2 ^ 53 : Nat) : Rat) := nat_cast_lt hK
      have hlt2 : i - j - more < q := by
        refine p2_lt_of (Rat.not_le.1 fun hle => ?_)
        have g1 : ((K.natAbs : Nat) : Rat) * (2 : Rat) ^ q ≤ ((K.natAbs : Nat) : Rat) * (2 : Rat) ^ (i - j - more) := Rat.mul_le_mul_of_nonneg_left hle (by exact_mod_cast Nat.zero_le _)
        have g2 : ((K.natAbs : Nat) : Rat) * (2 : Rat) ^ (i - j - more) < ((f : Rat) + rho) * (2 : Rat) ^ (i - j - more) := Rat.mul_lt_mul_of_pos_right (by grind) hE0
        grind
      obtain ⟨c, hc⟩ := Int.eq_ofNat_of_zero_le (show 0 ≤ q - (i - j - more) by omega)
      have h3 : ((f : Rat) + rho) = ((K.natAbs * 2 ^ c : Nat) : Rat) := by
        have g3 : (2 : Rat) ^ q = (2 : Rat) ^ (c : Int) * (2 : Rat) ^ (i - j - more) := by rw [← p2_add]; congr 1; omega
        rw [g3, p2_nat] at habs
        have g4 : (((f : Rat) + rho) - ((K.natAbs * 2 ^ c : Nat) : Rat)) * (2 : Rat) ^ (i - j - more) = 0 := by push_cast at *; grind
        rcases Rat.mul_eq_zero.1 g4 with h | h <;> grind
      have h4 : rho = 0 := by
        have g5 : (f : Rat) ≤ ((K.natAbs * 2 ^ c : Nat) : Rat) := by grind
        have g6 : ((K.natAbs * 2 ^ c : Nat) : Rat) < ((f + 1 : Nat) : Rat) := by push_cast at *; grind
        have g7 : f ≤ K.natAbs * 2 ^ c := by exact_mod_cast g5
        have g8 : K.natAbs * 2 ^ c < f + 1 := nat_of_lt g6
        have g9 : K.natAbs * 2 ^ c = f := by omega
        rw [g9] at h3
        grind
      have h5 : (r : Rat) = 0 := by
        have := Rat.div_mul_cancel (a := (r : Rat)) (b := (n : Rat)) (by grind)
        rw [hR, h4] at this
        grind
      exact h0 (by exact_mod_cast h5)

theorem abs_le_self (x : Rat) : x ≤ x.abs ∧ -x.abs ≤ x := by
  have := (abs_le_iff (x := x) (y := x.abs)).1 Rat.le_refl
  grind

theorem tri {x y z : Rat} : (x - z).abs ≤ (x - y).abs + (y - z).abs := by
  have := abs_add_le (x - y) (y - z)
  rw [show x - y + (y - z) = x - z by grind] at this
  exact this

theorem div_is {a b : Nat} {x y : Rat} (ha : Is a x) (hb : Is b y) (hy : y ≠ 0) (h : (x / y).abs < (2 : Rat) ^ (1022 : Int)) :
    ∃ r z, fbF .quo a b = some r ∧ Is r z ∧ Rnd2 (x / y) z := by
  obtain ⟨_, s, m, i, h1, rfl⟩ := ha
  obtain ⟨_, t, n, j, h2, rfl⟩ := hb
  have hn : n ≠ 0 := by rintro rfl; exact hy (dv_zero _ _)
  obtain ⟨c, k, e, h3, h4, h5⟩ := @quotient_val s t m n i j hn
  generalize dv s m i / dv t n j = q at *
  generalize hd : dv c k e = v at *
  have hv : v.abs ≤ q.abs + q.abs * (2 : Rat) ^ (-54 : Int) := by
    have := abs_add_le (v - q) q
    rw [show v - q + q = v by grind] at this
    grind
  have p54 : (2 : Rat) ^ (-54 : Int) ≤ 1 := by
    have := p2_le (show (-54 : Int) ≤ 0 by decide)
    rwa [Rat.zpow_zero] at this
  have hq0 := abs_nonneg q
  have hlt : v.abs < (2 : Rat) ^ (1023 : Int) := by
    have g1 := Rat.mul_le_mul_of_nonneg_left p54 hq0
    have g2 := p2_half 1023
    rw [show (1023 - 1 : Int) = 1022 by decide] at g2
    grind
  rw [← hd] at hlt
  obtain ⟨z, g1, g2⟩ := number_is hlt
  rw [hd] at g2
  refine ⟨_, z, ?_, g1, ?_, ?_⟩
  · rw [fbF_eq]
    show double.div a b = _
    unfold Format.div
    rw [h1, h2]
    have : double.fractionBits + 2 = 54 := by decide
    rw [this, h3]
    rfl
  · have ht := @tri z v q
    have e53 : (2 : Rat) ^ (-53 : Int) = 2 * (2 : Rat) ^ (-54 : Int) := p2_half (-53)
    have e52 : (2 : Rat) ^ (-52 : Int) = 2 * (2 : Rat) ^ (-53 : Int) := p2_half (-52)
    have f1 : q.abs * (2 : Rat) ^ (-54 : Int) ≤ q.abs := by have := Rat.mul_le_mul_of_nonneg_left p54 hq0; grind
    have p0 := p2_pos (-54)
    have p1 := p2_pos (-53)
    rcases g2.near with h | h
    · left
      have f2 : v.abs * (2 : Rat) ^ (-53 : Int) ≤ (q.abs + q.abs * (2 : Rat) ^ (-54 : Int)) * (2 : Rat) ^ (-53 : Int) := Rat.mul_le_mul_of_nonneg_right hv (Rat.le_of_lt p1)
      have p53 : (2 : Rat) ^ (-53 : Int) ≤ 1 / 2 := by
        have := p2_le (show (-53 : Int) ≤ -1 by decide)
        have h0 := p2_half 0
        rw [Rat.zpow_zero, show (0 - 1 : Int) = -1 by decide] at h0
        grind
      have f3 := Rat.mul_le_mul_of_nonneg_left p53 (Rat.mul_nonneg hq0 (Rat.le_of_lt p0))
      grind
    · by_cases hc : q.abs * (2 : Rat) ^ (-54 : Int) ≤ (2 : Rat) ^ (-1075 : Int)
      · right
        have := p2_half (-1074)
        rw [show (-1074 - 1 : Int) = -1075 by decide] at this
        grind
      · left
        have f4 := Rat.mul_nonneg hq0 (Rat.le_of_lt p0)
        grind
  · intro K q' hK hq' he
    have hx := h5 K q' hK he
    rw [hx] at g2
    exact g2.rep K q' hK hq' he

/-! ### Roots -/
theorem rootFrom_spec (n : Nat) : ∀ (todo root : Nat), root * root ≤ n → n < (root + 2 ^ todo) * (root + 2 ^ todo) →
    Datum.rootFrom n todo root * Datum.rootFrom n todo root ≤ n ∧ n < (Datum.rootFrom n todo root + 1) * (Datum.rootFrom n todo root + 1)
  | 0, root, h1, h2 => by
    unfold Datum.rootFrom
    exact ⟨h1, by simpa using h2⟩
  | todo + 1, root, h1, h2 => by
    unfold Datum.rootFrom
    simp only [Nat.shiftLeft_eq, Nat.one_mul]
    split
    · rename_i h
      refine rootFrom_spec n todo _ h ?_
      have : root + 2 ^ todo + 2 ^ todo = root + 2 ^ (todo + 1) := by rw [Nat.pow_succ]; omega
      rw [this]; exact h2
    · rename_i h
      exact rootFrom_spec n todo _ h1 (by omega)

theorem root_val {m : Nat} {i : Int} (hm : m ≠ 0) : ∃ k e, Datum.root 54 (.number false m i) = some (.number false k e) ∧
    (dv false k e * dv false k e - dv false m i).abs ≤ dv false m i * (2 : Rat) ^ (-53 : Int) ∧ 0 < dv false k e := by
  refine ⟨_, _, by unfold Datum.root; simp only [hm, if_false, Bool.false_eq_true]; rfl, ?_⟩
  generalize hmore : 2 * 54 - m.log2 = more
  have hpar : (i - ((more + ((i - (more : Int)) % 2).toNat : Nat) : Int)) % 2 = 0 := by omega
  generalize hm2 : more + ((i - (more : Int)) % 2).toNat = mo at *
  have hmo : 108 - m.log2 ≤ mo := by omega
  generalize hn : m <<< mo = n
  have hnm : n = m * 2 ^ mo := by rw [← hn, Nat.shiftLeft_eq]
  have hL1 : 2 ^ m.log2 ≤ m := Nat.log2_self_le hm
  have hn108 : 2 ^ 54 * 2 ^ 54 ≤ n := by
    rw [hnm, ← Nat.pow_add]
    have h1 := Nat.mul_le_mul_right (2 ^ mo) hL1
    rw [← Nat.pow_add] at h1
    have h2 : 2 ^ (54 + 54) ≤ 2 ^ (m.log2 + mo) := Nat.pow_le_pow_right (by decide) (by omega)
    omega
  obtain ⟨r1, r2⟩ := rootFrom_spec n (n.log2 / 2 + 1) 0 (by omega) (by
    have h1 : n < 2 ^ (n.log2 + 1) := Nat.lt_log2_self
    have h2 : 2 ^ (n.log2 + 1) ≤ 2 ^ ((n.log2 / 2 + 1) + (n.log2 / 2 + 1)) := Nat.pow_le_pow_right (by decide) (by omega)
    rw [Nat.pow_add 2 (n.log2 / 2 + 1) (n.log2 / 2 + 1)] at h2
    simp only [Nat.zero_add]
    omega)
  generalize Datum.rootFrom n (n.log2 / 2 + 1) 0 = w at *
  have hw : 2 ^ 54 ≤ w := by
    refine Nat.not_lt.1 fun hlt => ?_
    have := Nat.mul_le_mul (show w + 1 ≤ 2 ^ 54 by omega) (show w + 1 ≤ 2 ^ 54 by omega)
    omega
  generalize hE : (i - (mo : Int)) / 2 = E at *
  have hiE : i = (mo : Int) + (E + E) := by omega
  have hu := p2_pos E
  have hx : dv false m i = (n : Rat) * ((2 : Rat) ^ E * (2 : Rat) ^ E) := by
    unfold dv sg
    rw [hiE, p2_add, p2_add, p2_nat, hnm]
    push_cast
    simp
    grind
  have hv : dv false (2 * w + (w * w != n).toNat) (E - 1) = ((w : Rat) + (if w * w = n then 0 else 1 / 2)) * (2 : Rat) ^ E := by
    unfold dv sg
    rw [p2_half E]
    by_cases h0 : w * w = n
    · have : (w * w != n) = false := by simp [h0]
      simp only [this, Bool.toNat_false, h0, if_true]
      push_cast
      simp
      grind
    · have : (w * w != n) = true := by simp [h0]
      simp only [this, Bool.toNat_true, h0, if_false]
      push_cast
      simp
      grind
  rw [hx, hv]
  have hw0 : (0 : Rat) < (w : Rat) := by have : 0 < w := by omega
                                         exact_mod_cast this
  generalize (2 : Rat) ^ E = u at *
  constructor
  · by_cases h0 : w * w = n
    · simp only [h0, if_true]
      have : ((n : Nat) : Rat) = (w : Rat) * w := by rw [← h0]; push_cast; rfl
      have e : (((w : Rat) + 0) * u * (((w : Rat) + 0) * u) - (n : Rat) * (u * u)) = 0 := by rw [this]; grind
      rw [e, abs_zero]
      have h1 : (0 : Rat) ≤ (n : Rat) := by exact_mod_cast Nat.zero_le _
      exact Rat.mul_nonneg (Rat.mul_nonneg h1 (Rat.mul_nonneg (Rat.le_of_lt hu) (Rat.le_of_lt hu))) (Rat.le_of_lt (p2_pos _))
    · simp only [h0, if_false]
      have e : (((w : Rat) + 1 / 2) * u * (((w : Rat) + 1 / 2) * u) - (n : Rat) * (u * u)) = ((w : Rat) * w + w + 1 / 4 - n) * (u * u) := by grind
      rw [e, abs_mul, Rat.abs_of_nonneg (Rat.mul_nonneg (Rat.le_of_lt hu) (Rat.le_of_lt hu))]
      have n1 : w * w + 1 ≤ n := by omega
      have n2 : n ≤ w * w + w + w := by
        have : (w + 1) * (w + 1) = w * w + w + w + 1 := by grind
        omega
      have q1 : (w : Rat) * w + 1 ≤ n := by exact_mod_cast n1
      have q2 : (n : Rat) ≤ (w : Rat) * w + w + w := by exact_mod_cast n2
      have q3 : ((w : Rat) * w + w + 1 / 4 - n).abs ≤ w := by rw [abs_le_iff]; constructor <;> grind
      have q4 : (w : Rat) ≤ n * (2 : Rat) ^ (-53 : Int) := by
        have f1 : ((2 ^ 53 : Nat) : Rat) ≤ (w : Rat) := nat_cast_le (by omega)
        have f2 : (2 : Rat) ^ (53 : Int) = ((2 ^ 53 : Nat) : Rat) := p2_nat 53
        have f3 : (2 : Rat) ^ (53 : Int) * (2 : Rat) ^ (-53 : Int) = 1 := by rw [← p2_add, show (53 + -53 : Int) = 0 by decide, Rat.zpow_zero]
        have f4 := Rat.mul_le_mul_of_nonneg_left f1 (Rat.le_of_lt hw0)
        rw [← f2] at f4
        have f5 := Rat.mul_le_mul_of_nonneg_right (Rat.le_trans f4 (show (w : Rat) * w ≤ n by grind)) (Rat.le_of_lt (p2_pos (-53)))
        have f6 : (w : Rat) * (2 : Rat) ^ (53 : Int) * (2 : Rat) ^ (-53 : Int) = w := by rw [Rat.mul_assoc, f3]; grind
        rwa [f6] at f5
      have := Rat.mul_le_mul_of_nonneg_right (Rat.le_trans q3 q4) (Rat.mul_nonneg (Rat.le_of_lt hu) (Rat.le_of_lt hu))
      grind
  · refine Rat.mul_pos ?_ hu
    split <;> grind

theorem sqrt_is {a : Nat} {x : Rat} (ha : Is a x) (hx : 0 < x) (hlt : x < (2 : Rat) ^ (1000 : Int)) (hgt : (2 : Rat) ^ (-1000 : Int) < x) :
    ∃ r z, double.sqrt a = some r ∧ Is r z ∧ 0 < z ∧ (z * z - x).abs ≤ x * (2 : Rat) ^ (-51 : Int) := by
  obtain ⟨_, s, m, i, h1, h2⟩ := ha
  have hm : m ≠ 0 := by rintro rfl; rw [dv_zero] at h2; grind
  have hs : s = false := by
    cases s
    · rfl
    · exfalso
      have h3 : (0 : Rat) ≤ (m : Rat) * (2 : Rat) ^ i := Rat.mul_nonneg (by exact_mod_cast Nat.zero_le _) (Rat.le_of_lt (p2_pos i))
      unfold dv sg at h2
      simp only [if_true] at h2
      grind
  subst hs
  obtain ⟨k, e, h3, h4, h5⟩ := @root_val m i hm
  rw [h2] at h4
  generalize hd : dv false k e = v at *
  have e53 : (2 : Rat) ^ (-53 : Int) ≤ 1 / 100 := by
    have h6 := p2_le (show (-53 : Int) ≤ -7 by decide)
    have h7 : (2 : Rat) ^ (-7 : Int) * (2 : Rat) ^ (7 : Int) = 1 := by rw [← p2_add, show (-7 + 7 : Int) = 0 by decide, Rat.zpow_zero]
    have h8 : (2 : Rat) ^ (7 : Int) = 128 := by rw [show (7 : Int) = ((7 : Nat) : Int) by rfl, p2_nat]; rfl
    rw [h8] at h7
    grind
  have e51 : (2 : Rat) ^ (-51 : Int) = 4 * (2 : Rat) ^ (-53 : Int) := by
    have h6 := p2_half (-51)
    have h7 := p2_half (-52)
    rw [show (-51 - 1 : Int) = -52 by decide] at h6
    rw [show (-52 - 1 : Int) = -53 by decide] at h7
    grind
  have p53 := p2_pos (-53)
  have hv2 := abs_le_iff.1 h4
  have hxe := Rat.mul_le_mul_of_nonneg_left e53 (Rat.le_of_lt hx)
  have hvlt : v < (2 : Rat) ^ (1023 : Int) := by
    refine Rat.not_le.1 fun hle => ?_
    have h6 : (2 : Rat) ^ (1023 : Int) * (2 : Rat) ^ (1023 : Int) ≤ v * v :=
      Rat.le_trans (Rat.mul_le_mul_of_nonneg_left hle (Rat.le_of_lt (p2_pos 1023))) (Rat.mul_le_mul_of_nonneg_right hle (Rat.le_of_lt h5))
    rw [← p2_add] at h6
    have h7 := p2_le (show (1001 : Int) ≤ 1023 + 1023 by decide)
    have h8 := p2_half 1001
    rw [show (1001 - 1 : Int) = 1000 by decide] at h8
    grind
  have hvgt : (2 : Rat) ^ (-1000 : Int) ≤ v := by
    refine Rat.not_lt.1 fun hl => ?_
    have h6 : v * v ≤ (2 : Rat) ^ (-1000 : Int) * (2 : Rat) ^ (-1000 : Int) :=
      Rat.le_trans (Rat.mul_le_mul_of_nonneg_left (Rat.le_of_lt hl) (Rat.le_of_lt h5)) (Rat.mul_le_mul_of_nonneg_right (Rat.le_of_lt hl) (Rat.le_of_lt (p2_pos (-1000))))
    rw [← p2_add] at h6
    have h7 := p2_le (show (-1000 + -1000 : Int) ≤ -1001 by decide)
    have h8 := p2_half (-1000)
    rw [show (-1000 - 1 : Int) = -1001 by decide] at h8
    grind
  have hvabs : v.abs = v := Rat.abs_of_nonneg (Rat.le_of_lt h5)
  obtain ⟨z, g1, g2⟩ := number_is (s := false) (m := k) (i := e) (by rw [hd, hvabs]; exact hvlt)
  rw [hd] at g2
  have hD : (z - v).abs ≤ v * (2 : Rat) ^ (-53 : Int) := by
    rcases g2.near with h | h
    · rwa [hvabs] at h
    · have h6 := Rat.mul_le_mul_of_nonneg_right hvgt (Rat.le_of_lt p53)
      rw [← p2_add] at h6
      have h7 := p2_le (show (-1075 : Int) ≤ -1000 + -53 by decide)
      grind
  refine ⟨_, z, ?_, g1, ?_, ?_⟩
  · show Format.sqrt double a = _
    unfold Format.sqrt
    rw [h1]
    have : double.fractionBits + 2 = 54 := by decide
    rw [this, h3]
    rfl
  · have h6 := abs_le_iff.1 hD
    have h7 := Rat.mul_le_mul_of_nonneg_left e53 (Rat.le_of_lt h5)
    grind
  · have h6 := abs_le_iff.1 hD
    generalize (2 : Rat) ^ (-53 : Int) = ep at *
    rw [e51]
    generalize hDD : z - v = D at *
    have hz : z = v + D := by grind
    have h7 := Rat.mul_le_mul_of_nonneg_left h6.1 (Rat.le_of_lt h5)
    have h8 := Rat.mul_le_mul_of_nonneg_left h6.2 (Rat.le_of_lt h5)
    have h9 := Rat.mul_nonneg (show 0 ≤ v * ep - D by grind) (show 0 ≤ v * ep + D by grind)
    have h10 := Rat.mul_le_mul_of_nonneg_left e53 (Rat.mul_nonneg (Rat.mul_nonneg (Rat.le_of_lt h5) (Rat.le_of_lt h5)) (Rat.le_of_lt p53))
    have h11 : 0 ≤ D * D := by
      rcases (Rat.le_total : 0 ≤ D ∨ D ≤ 0) with h | h
      · exact Rat.mul_nonneg h h
      · have := Rat.mul_nonneg (show 0 ≤ -D by grind) (show 0 ≤ -D by grind); grind
    have h12 : v * v ≤ x + x * ep := by grind
    have h13 := Rat.mul_le_mul_of_nonneg_right h12 (Rat.le_of_lt p53)
    have h14 := Rat.mul_le_mul_of_nonneg_left e53 (Rat.mul_nonneg (Rat.le_of_lt hx) (Rat.le_of_lt p53))
    rw [abs_le_iff, hz]
    constructor <;> grind
end Go.Vm
set_option linter.unusedSimpArgs false
namespace Go.Vm

/-! ### Abstract memory -/
/- 'cells cs sz': cells, and how many an element has, where the block was made by append (else 0). 'map kk es': keys of kind kk. -/
inductive AObj where
  | cells (cs : List Value) (sz : Nat)
  | map (kk : IntKind) (es : List (Int × Value))

abbrev Objs := List (Nat × AObj)

def look (k : Nat) : Objs → Option AObj
  | [] => none
  | (j, o) :: r => bif Nat.beq j k then some o else look k r

def drop (k : Nat) : Objs → Objs
  | [] => []
  | (j, o) :: r => bif Nat.beq j k then drop k r else (j, o) :: drop k r

structure AH where
  next : Nat
  objs : Objs

theorem look_mem {k : Nat} {o : AObj} : ∀ {S : Objs}, look k S = some o → (k, o) ∈ S
  | [], h => by simp [look] at h
  | (j, u) :: r, h => by
    unfold look at h
    cases hb : Nat.beq j k with
    | true => simp [hb] at h; have := Nat.eq_of_beq_eq_true hb; subst this; subst h; simp
    | false => simp [hb] at h; exact List.mem_cons_of_mem _ (look_mem h)

theorem mem_drop {k : Nat} {x : Nat × AObj} : ∀ {S : Objs}, x ∈ drop k S ↔ x ∈ S ∧ x.1 ≠ k
  | [] => by simp [drop]
  | (j, u) :: r => by
    unfold drop
    cases hb : Nat.beq j k with
    | true =>
      have := Nat.eq_of_beq_eq_true hb
      subst this
      simp only [cond_true, mem_drop (S := r), List.mem_cons]
      constructor
      · rintro ⟨h1, h2⟩; exact ⟨.inr h1, h2⟩
      · rintro ⟨rfl | h1, h2⟩
        · exact absurd rfl h2
        · exact ⟨h1, h2⟩
    | false =>
      have hne : j ≠ k := fun e => by subst e; simp at hb
      simp only [cond_false, List.mem_cons, mem_drop (S := r)]
      constructor
      · rintro (rfl | ⟨h1, h2⟩)
        · exact ⟨.inl rfl, hne⟩
        · exact ⟨.inr h1, h2⟩
      · rintro ⟨rfl | h1, h2⟩
        · exact .inl rfl
        · exact .inr ⟨h1, h2⟩

/-! ### Where the abstract blocks lie -/
/-- Block, first cell, and by how many elements every slice's capacity is greater than told. -/
structure Spot where
  b : Nat
  d : Nat
  x : Nat

abbrev Map := Nat → Option Spot

/- A word that is no number. Where a float's word is not known but that it is such a one, it is told as a float of the other kind, which the program has not. Of a complex number: 0 for such a part, else the word and one more. -/
def nanW (b : Nat) : Bool := (Ieee.double.read b).isNaN
def partW (p a : Nat) : Bool := match p with
  | 0 => nanW a
  | n + 1 => Nat.beq n a

mutual
inductive VRel (ρ : Map) : Value → Value → Prop
  | bool (b : Bool) : VRel ρ (.bool b) (.bool b)
  | int (k : IntKind) (n : Int) : VRel ρ (.int k n) (.int k n)
  | float (n : Nat) : VRel ρ (.float .f64 n) (.float .f64 n)
  | nan (n : Nat) {b : Nat} (h : nanW b = true) : VRel ρ (.float .f32 n) (.float .f64 b)
  | complex (a b : Nat) : VRel ρ (.complex .f64 a b) (.complex .f64 a b)
  | cnan {p q a b : Nat} (h : partW p a = true) (g : partW q b = true) : VRel ρ (.complex .f32 p q) (.complex .f64 a b)
  | string (s : ByteArray) : VRel ρ (.string s) (.string s)
  | nilPtr : VRel ρ (.pointer none) (.pointer none)
  | ptr {k o : Nat} {s : Spot} (h : ρ k = some s) : VRel ρ (.pointer (some ⟨k, o, none⟩)) (.pointer (some ⟨s.b, s.d + o, none⟩))
  | nilSlice (n c : Nat) : VRel ρ (.slice none n c) (.slice none n c)
  | slice {k o n c : Nat} {s : Spot} (h : ρ k = some s) : VRel ρ (.slice (some ⟨k, o, none⟩) n c) (.slice (some ⟨s.b, s.d + o, none⟩) n (c + s.x))
  | nilMap : VRel ρ (.map none) (.map none)
  | map {k : Nat} {s : Spot} (h : ρ k = some s) : VRel ρ (.map (some k)) (.map (some s.b))
  | nilFunc : VRel ρ .nilFunc .nilFunc
  | func (f : Fn) {as as' bs bs' : List Value} (ha : VRels ρ as as') (hb : VRels ρ bs bs') : VRel ρ (.func f ⟨as⟩ ⟨bs⟩) (.func f ⟨as'⟩ ⟨bs'⟩)
  | nilIface : VRel ρ .nilIface .nilIface
  | iface (t : TypeId) {v v' : Value} (h : VRel ρ v v') : VRel ρ (.iface t v) (.iface t v')
  | agg {as as' : List Value} (h : VRels ρ as as') : VRel ρ (.agg ⟨as⟩) (.agg ⟨as'⟩)
  | tuple {as as' : List Value} (h : VRels ρ as as') : VRel ρ (.tuple ⟨as⟩) (.tuple ⟨as'⟩)
inductive VRels (ρ : Map) : List Value → List Value → Prop
  | nil : VRels ρ [] []
  | cons {v v' : Value} {vs vs' : List Value} (h : VRel ρ v v') (hs : VRels ρ vs vs') : VRels ρ (v :: vs) (v' :: vs')
end

section
variable {ρ ρ' : Map}
mutual
theorem VRel.mono (hρ : ∀ k p, ρ k = some p → ρ' k = some p) : ∀ {v v' : Value}, VRel ρ v v' → VRel ρ' v v'
  | _, _, .bool b => .bool b
  | _, _, .int k n => .int k n
  | _, _, .float n => .float n
  | _, _, .nan n h => .nan n h
  | _, _, .complex a b => .complex a b
  | _, _, .cnan h g => .cnan h g
  | _, _, .string s => .string s
  | _, _, .nilPtr => .nilPtr
  | _, _, .ptr h => .ptr (hρ _ _ h)
  | _, _, .nilSlice n c => .nilSlice n c
  | _, _, .slice h => .slice (hρ _ _ h)
  | _, _, .nilMap => .nilMap
  | _, _, .map h => .map (hρ _ _ h)
  | _, _, .nilFunc => .nilFunc
  | _, _, .func f ha hb => .func f (VRels.mono hρ ha) (VRels.mono hρ hb)
  | _, _, .nilIface => .nilIface
  | _, _, .iface t h => .iface t (VRel.mono hρ h)
  | _, _, .agg h => .agg (VRels.mono hρ h)
  | _, _, .tuple h => .tuple (VRels.mono hρ h)
theorem VRels.mono (hρ : ∀ k p, ρ k = some p → ρ' k = some p) : ∀ {v v' : List Value}, VRels ρ v v' → VRels ρ' v v'
  | _, _, .nil => .nil
  | _, _, .cons h hs => .cons (VRel.mono hρ h) (VRels.mono hρ hs)
end
end

/- Every block that a value names has a number below n. -/
mutual
def inn (n : Nat) : Value → Bool
  | .pointer (some a) => Nat.blt a.block n
  | .slice (some a) _ _ => Nat.blt a.block n
  | .map (some k) => Nat.blt k n
  | .chan _ => false
  | .float .f32 _ => false
  | .complex .f32 _ _ => false
  | .func _ as bs => innA n as && innA n bs
  | .iface _ v => inn n v
  | .agg as => innA n as
  | .tuple as => innA n as
  | _ => true
def innA (n : Nat) : Array Value → Bool
  | ⟨l⟩ => inns n l
def inns (n : Nat) : List Value → Bool
  | [] => true
  | v :: r => inn n v && inns n r
end

section
variable {ρ ρ' : Map} {n : Nat}
mutual
theorem VRel.scope (hρ : ∀ k, k < n → ρ' k = ρ k) : ∀ {v v' : Value}, VRel ρ' v v' → inn n v = true → VRel ρ v v'
  | _, _, .bool b, _ => .bool b
  | _, _, .int k n, _ => .int k n
  | _, _, .float n, _ => .float n
  | _, _, .nan n h, _ => .nan n h
  | _, _, .complex a b, _ => .complex a b
  | _, _, .cnan h g, _ => .cnan h g
  | _, _, .string s, _ => .string s
  | _, _, .nilPtr, _ => .nilPtr
  | _, _, .ptr h, hs => .ptr (by rw [← hρ _ (by simpa [inn, Nat.blt_eq] using hs)]; exact h)
  | _, _, .nilSlice n c, _ => .nilSlice n c
  | _, _, .slice h, hs => .slice (by rw [← hρ _ (by simpa [inn, Nat.blt_eq] using hs)]; exact h)
  | _, _, .nilMap, _ => .nilMap
  | _, _, .map h, hs => .map (by rw [← hρ _ (by simpa [inn, Nat.blt_eq] using hs)]; exact h)
  | _, _, .nilFunc, _ => .nilFunc
  | _, _, .func f ha hb, hs => by
    simp only [inn, innA, Bool.and_eq_true] at hs
    exact .func f (VRels.scope hρ ha hs.1) (VRels.scope hρ hb hs.2)
  | _, _, .nilIface, _ => .nilIface
  | _, _, .iface t h, hs => .iface t (VRel.scope hρ h (by simpa [inn] using hs))
  | _, _, .agg h, hs => .agg (VRels.scope hρ h (by simpa [inn, innA] using hs))
  | _, _, .tuple h, hs => .tuple (VRels.scope hρ h (by simpa [inn, innA] using hs))
theorem VRels.scope (hρ : ∀ k, k < n → ρ' k = ρ k) : ∀ {v v' : List Value}, VRels ρ' v v' → inns n v = true → VRels ρ v v'
  | _, _, .nil, _ => .nil
  | _, _, .cons h hs, hx => by
    simp only [inns, Bool.and_eq_true] at hx
    exact .cons (VRel.scope hρ h hx.1) (VRels.scope hρ hs hx.2)
end
end

/-- No pointers at all. -/
def flat (v : Value) : Bool := inn 0 v

theorem VRel.flat_eq {ρ : Map} {v v' : Value} (h : VRel ρ v v') : flat v = true → v' = v := by
  unfold flat
  refine VRel.rec (motive_1 := fun v v' _ => inn 0 v = true → v' = v) (motive_2 := fun vs vs' _ => inns 0 vs = true → vs' = vs)
    ?_ ?_ ?_ ?_ ?_ ?_ ?_ ?_ ?_ ?_ ?_ ?_ ?_ ?_ ?_ ?_ ?_ ?_ ?_ ?_ ?_ h
  all_goals intros
  all_goals simp_all [inn, innA, inns]

theorem VRels.flat_eq {ρ : Map} : ∀ {v v' : List Value}, VRels ρ v v' → inns 0 v = true → v' = v
  | _, _, .nil, _ => rfl
  | _, _, .cons h hs, hx => by
    simp only [inns, Bool.and_eq_true] at hx
    rw [h.flat_eq hx.1, hs.flat_eq hx.2]

mutual
theorem VRel.ofFlat (ρ : Map) : ∀ {v : Value}, inn 0 v = true → VRel ρ v v
  | .bool b, _ => .bool b
  | .int k n, _ => .int k n
  | .float .f64 n, _ => .float n
  | .float .f32 n, h => by simp [inn] at h
  | .complex .f64 a b, _ => .complex a b
  | .complex .f32 a b, h => by simp [inn] at h
  | .string s, _ => .string s
  | .pointer none, _ => .nilPtr
  | .pointer (some a), h => by simp [inn] at h
  | .slice none n c, _ => .nilSlice n c
  | .slice (some a) _ _, h => by simp [inn] at h
  | .map none, _ => .nilMap
  | .map (some a), h => by simp [inn] at h
  | .chan _, h => by simp [inn] at h
  | .nilFunc, _ => .nilFunc
  | .func f ⟨as⟩ ⟨bs⟩, h => by
    simp only [inn, innA, Bool.and_eq_true] at h
    exact .func f (VRels.ofFlat ρ h.1) (VRels.ofFlat ρ h.2)
  | .nilIface, _ => .nilIface
  | .iface t v, h => .iface t (VRel.ofFlat ρ (by simpa [inn] using h))
  | .agg ⟨as⟩, h => .agg (VRels.ofFlat ρ (by simpa [inn, innA] using h))
  | .tuple ⟨as⟩, h => .tuple (VRels.ofFlat ρ (by simpa [inn, innA] using h))
theorem VRels.ofFlat (ρ : Map) : ∀ {v : List Value}, inns 0 v = true → VRels ρ v v
  | [], _ => .nil
  | v :: r, h => by
    simp only [inns, Bool.and_eq_true] at h
    exact .cons (VRel.ofFlat ρ h.1) (VRels.ofFlat ρ h.2)
end

end Go.Vm
