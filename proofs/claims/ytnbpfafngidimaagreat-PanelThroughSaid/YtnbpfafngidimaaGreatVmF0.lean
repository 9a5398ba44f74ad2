/- Rounding of a number to the nearest word, and how near it comes; no conditions. -/
import Derived.Laws.FloatArith
namespace Go.Vm
open Ieee
set_option linter.unusedVariables false
set_option linter.unusedSimpArgs false

/-! ### Powers of two as fractions -/
theorem p2_pos (q : Int) : (0 : Rat) < (2 : Rat) ^ q := Rat.zpow_pos (by decide)
theorem p2_add (p q : Int) : (2 : Rat) ^ (p + q) = (2 : Rat) ^ p * (2 : Rat) ^ q := Rat.zpow_add (by decide) p q
theorem p2_nat (n : Nat) : (2 : Rat) ^ (n : Int) = ((2 ^ n : Nat) : Rat) := by
  rw [Rat.zpow_natCast]; exact_mod_cast rfl
theorem one_le_p2 (n : Nat) : (1 : Rat) ≤ (2 : Rat) ^ (n : Int) := by
  rw [p2_nat]
  have : 1 ≤ 2 ^ n := Nat.one_le_two_pow
  exact_mod_cast this
theorem p2_le {p q : Int} (h : p ≤ q) : (2 : Rat) ^ p ≤ (2 : Rat) ^ q := by
  obtain ⟨n, hn⟩ := Int.eq_ofNat_of_zero_le (show 0 ≤ q - p by omega)
  rw [show q = p + n by omega, p2_add]
  have h1 := one_le_p2 n
  have h2 := Rat.mul_le_mul_of_nonneg_left h1 (Rat.le_of_lt (p2_pos p))
  grind
theorem p2_lt_of {p q : Int} (h : (2 : Rat) ^ p < (2 : Rat) ^ q) : p < q := by
  refine Int.not_le.1 fun hle => ?_
  have := p2_le hle
  grind

/-! ### What a word stands for -/
def sg (s : Bool) : Rat := if s then -1 else 1
def dv (s : Bool) (m : Nat) (i : Int) : Rat := sg s * ((m : Rat) * (2 : Rat) ^ i)

theorem dv_zero (s : Bool) (i : Int) : dv s 0 i = 0 := by unfold dv; simp

/-- The word is finite and stands for that number. -/
def Is (w : Nat) (x : Rat) : Prop := w < 2 ^ 64 ∧ ∃ s m i, double.read w = .number s m i ∧ dv s m i = x

theorem cut_spec (neg : Bool) (n drop : Nat) :
    2 * (Toward.even.cut neg n drop * 2 ^ drop) ≤ 2 * n + 2 ^ drop ∧ 2 * n ≤ 2 * (Toward.even.cut neg n drop * 2 ^ drop) + 2 ^ drop ∧
      (2 ^ drop ∣ n → Toward.even.cut neg n drop * 2 ^ drop = n) ∧ Toward.even.cut neg n drop ≤ n / 2 ^ drop + 1 := by
  by_cases hd : drop ≤ n.log2 + 2
  · have hg : 1 <<< min drop (n.log2 + 2) = 2 ^ drop := by rw [Nat.min_eq_left hd, Nat.shiftLeft_eq, Nat.one_mul]
    have hc : Toward.even.cut neg n drop = n / 2 ^ drop + (decide (2 ^ drop < 2 * (n % 2 ^ drop)) || (2 ^ drop == 2 * (n % 2 ^ drop) && n / 2 ^ drop % 2 == 1)).toNat := by
      unfold Toward.cut
      simp only [hg]
    rw [hc]
    have hdm := Nat.div_add_mod n (2 ^ drop)
    have hlt := Nat.mod_lt n (Nat.two_pow_pos drop)
    generalize hG : 2 ^ drop = G at *
    generalize hq : n / G = q at *
    generalize hr : n % G = r at *
    have hG0 : 0 < G := by omega
    have hmul : (q + 1) * G = q * G + G := by rw [Nat.add_mul, Nat.one_mul]
    have hcm : G * q = q * G := Nat.mul_comm ..
    cases hb : (decide (G < 2 * r) || (G == 2 * r && q % 2 == 1)) with
    | true =>
      simp only [Bool.toNat_true]
      have : G ≤ 2 * r := by
        simp only [Bool.or_eq_true, decide_eq_true_eq, Bool.and_eq_true, beq_iff_eq] at hb
        omega
      refine ⟨by omega, by omega, fun h => ?_, by omega⟩
      have : r = 0 := by rw [← hr]; exact Nat.mod_eq_zero_of_dvd h
      omega
    | false =>
      simp only [Bool.toNat_false, Nat.add_zero]
      have : 2 * r ≤ G := by
        simp only [Bool.or_eq_false_iff, decide_eq_false_iff_not] at hb
        omega
      refine ⟨by omega, by omega, fun h => ?_, by omega⟩
      have : r = 0 := by rw [← hr]; exact Nat.mod_eq_zero_of_dvd h
      omega
  · have hlt : n < 2 ^ (n.log2 + 1) := Nat.lt_log2_self
    have e : 2 ^ (n.log2 + 2) = 2 * 2 ^ (n.log2 + 1) := by rw [Nat.pow_succ]; omega
    have hle : 2 ^ (n.log2 + 2) ≤ 2 ^ drop := Nat.pow_le_pow_right (by decide) (by omega)
    have hg : 1 <<< min drop (n.log2 + 2) = 2 ^ (n.log2 + 2) := by rw [Nat.min_eq_right (by omega), Nat.shiftLeft_eq, Nat.one_mul]
    have hc : Toward.even.cut neg n drop = 0 := by
      unfold Toward.cut
      simp only [hg]
      have h1 : n / 2 ^ (n.log2 + 2) = 0 := Nat.div_eq_of_lt (by omega)
      have h2 : n % 2 ^ (n.log2 + 2) = n := Nat.mod_eq_of_lt (by omega)
      rw [h1, h2]
      have h3 : ¬ 2 ^ (n.log2 + 2) < 2 * n := by omega
      simp [h3]
    rw [hc, Nat.zero_mul]
    refine ⟨by omega, by omega, fun h => ?_, Nat.zero_le _⟩
    rcases Nat.eq_zero_or_pos n with h0 | h0
    · omega
    · have := Nat.le_of_dvd h0 h
      omega

theorem read_word {s : Bool} {r : Nat} (hr : r < 2047 * 2 ^ 52) :
    double.read (double.word s r) = if r < 2 ^ 52 then .number s r (-1074) else .number s (2 ^ 52 + r % 2 ^ 52) (-1074 + (r / 2 ^ 52 - 1 : Nat)) := by
  have e1 : double.signWeight = 2 ^ 63 := by decide
  have e2 : double.binade = 2 ^ 52 := by decide
  have e3 : double.infRung = 2047 * 2 ^ 52 := by decide
  have e4 : double.leastPlace = -1074 := by decide
  have hlt : r < 2 ^ 63 := by omega
  have h1 : double.word s r % 2 ^ 63 = r := by
    unfold Format.word
    cases s
    · simp only [Bool.false_eq_true, if_false]; exact Nat.mod_eq_of_lt hlt
    · simp only [if_true, e1]; omega
  have h2 : (double.word s r / 2 ^ 63 % 2 == 1) = s := by
    unfold Format.word
    cases s
    · simp only [Bool.false_eq_true, if_false]
      rw [Nat.div_eq_of_lt hlt]; rfl
    · simp only [if_true, e1]
      rw [show (2 ^ 63 + r) / 2 ^ 63 = 1 by omega]; rfl
  unfold Format.read
  simp only [e1, e2, e3, e4, h1, h2]
  split
  · rfl
  · first | rfl | rw [if_pos hr]

theorem word_lt {s : Bool} {r : Nat} (hr : r < 2 ^ 63) : double.word s r < 2 ^ 64 := by
  have e1 : double.signWeight = 2 ^ 63 := by decide
  unfold Format.word
  cases s
  · simp only [Bool.false_eq_true, if_false]; omega
  · simp only [if_true, e1]; omega

/-- The word of a rung that was laid by a place and a significand. -/
theorem is_rung {s : Bool} {t k : Nat} (hk : k ≤ 2 ^ 53) (h0 : t = 0 ∨ 2 ^ 52 ≤ k) (hr : t * 2 ^ 52 + k < 2047 * 2 ^ 52) :
    Is (double.word s (t * 2 ^ 52 + k)) (dv s k (-1074 + t)) := by
  refine ⟨word_lt (by omega), ?_⟩
  by_cases hsm : t * 2 ^ 52 + k < 2 ^ 52
  · refine ⟨s, t * 2 ^ 52 + k, -1074, ?_, ?_⟩
    · rw [read_word hr, if_pos hsm]
    · have : t = 0 := by omega
      subst this
      simp
  · by_cases hk3 : k = 2 ^ 53
    · refine ⟨s, 2 ^ 52, -1074 + (t + 1 : Nat), ?_, ?_⟩
      · rw [read_word hr, if_neg hsm]
        rw [show (t * 2 ^ 52 + k) % 2 ^ 52 = 0 by omega, show (t * 2 ^ 52 + k) / 2 ^ 52 - 1 = t + 1 by omega]
      · unfold dv
        rw [hk3, show (-1074 + ((t + 1 : Nat) : Int)) = (-1074 + (t : Int)) + 1 by omega, p2_add (-1074 + (t : Int)) 1]
        have : (2 : Rat) ^ (1 : Int) = 2 := by simp
        rw [this]
        have h53 : ((2 ^ 53 : Nat) : Rat) = 2 * ((2 ^ 52 : Nat) : Rat) := by exact_mod_cast (by decide : 2 ^ 53 = 2 * 2 ^ 52)
        rw [h53]
        grind
    · have hk52 : 2 ^ 52 ≤ k := by omega
      refine ⟨s, k, -1074 + t, ?_, rfl⟩
      rw [read_word hr, if_neg hsm]
      rw [show (t * 2 ^ 52 + k) % 2 ^ 52 = k - 2 ^ 52 by omega, show (t * 2 ^ 52 + k) / 2 ^ 52 - 1 = t by omega, show 2 ^ 52 + (k - 2 ^ 52) = k by omega]

/-- How near the rounded number is. -/
structure Rnd (x z : Rat) : Prop where
  near : (z - x).abs ≤ x.abs * (2 : Rat) ^ (-53 : Int) ∨ (z - x).abs ≤ (2 : Rat) ^ (-1075 : Int)
  rep : ∀ (K : Int) (q : Int), K.natAbs < 2 ^ 53 → -1074 ≤ q → x = K * (2 : Rat) ^ q → z = x

theorem abs_le_iff {x y : Rat} : x.abs ≤ y ↔ -y ≤ x ∧ x ≤ y := by
  rcases (Rat.le_total : 0 ≤ x ∨ x ≤ 0) with h | h
  · rw [Rat.abs_of_nonneg h]; grind
  · rw [Rat.abs_of_nonpos h]; grind

theorem abs_nonneg (x : Rat) : 0 ≤ x.abs := by
  rcases (Rat.le_total : 0 ≤ x ∨ x ≤ 0) with h | h
  · rw [Rat.abs_of_nonneg h]; exact h
  · rw [Rat.abs_of_nonpos h]; grind

theorem abs_mul (x y : Rat) : (x * y).abs = x.abs * y.abs := by
  rcases (Rat.le_total : 0 ≤ x ∨ x ≤ 0) with h | h <;> rcases (Rat.le_total : 0 ≤ y ∨ y ≤ 0) with g | g
  · rw [Rat.abs_of_nonneg h, Rat.abs_of_nonneg g, Rat.abs_of_nonneg (Rat.mul_nonneg h g)]
  · have : x * y ≤ 0 := by have := Rat.mul_nonneg h (show 0 ≤ -y by grind); grind
    rw [Rat.abs_of_nonneg h, Rat.abs_of_nonpos g, Rat.abs_of_nonpos this]; grind
  · have : x * y ≤ 0 := by have := Rat.mul_nonneg (show 0 ≤ -x by grind) g; grind
    rw [Rat.abs_of_nonpos h, Rat.abs_of_nonneg g, Rat.abs_of_nonpos this]; grind
  · have : 0 ≤ x * y := by have := Rat.mul_nonneg (show 0 ≤ -x by grind) (show 0 ≤ -y by grind); grind
    rw [Rat.abs_of_nonpos h, Rat.abs_of_nonpos g, Rat.abs_of_nonneg this]; grind

theorem sg_abs (s : Bool) (x : Rat) : (sg s * x).abs = x.abs := by
  cases s <;> simp [sg]
  rw [show (-1 : Rat) * x = -x by grind]
  simp

theorem nat_cast_le {a b : Nat} (h : a ≤ b) : (a : Rat) ≤ (b : Rat) := by exact_mod_cast h
theorem nat_cast_lt {a b : Nat} (h : a < b) : (a : Rat) < (b : Rat) := by exact_mod_cast h
theorem nat_of_lt {a b : Nat} (h : (a : Rat) < (b : Rat)) : a < b := by exact_mod_cast h

/-- ROUNDING: the word nearest to a number that is not too great. -/
theorem nearest_is {s : Bool} {m : Nat} {i : Int} (hlt : (m : Rat) * (2 : Rat) ^ i < (2 : Rat) ^ (1023 : Int)) :
    ∃ z, Is (double.nearest s m i) z ∧ Rnd (dv s m i) z := by
  by_cases hm : m = 0
  · subst hm
    refine ⟨0, ⟨?_, s, 0, -1074, ?_, ?_⟩, ⟨.inl ?_, fun K q _ _ _ => ?_⟩⟩
    · unfold Format.nearest
      rw [if_pos rfl]
      exact word_lt (by decide)
    · unfold Format.nearest
      rw [if_pos rfl, read_word (by decide), if_pos (by decide)]
    · exact dv_zero s _
    · simp [dv]
      rw [abs_le_iff]
      grind
    · simp [dv]
  · have hL1 : 2 ^ m.log2 ≤ m := Nat.log2_self_le hm
    have hL2 : m < 2 ^ (m.log2 + 1) := Nat.lt_log2_self
    have e1 : double.leastPlace = -1074 := by decide
    have e2 : double.binade = 2 ^ 52 := by decide
    have e3 : double.infRung = 2047 * 2 ^ 52 := by decide
    have e4 : (double.fractionBits : Int) = 52 := by decide
    generalize hLd : m.log2 = L at *
    have hp : (2 : Rat) ^ ((L : Int) + i) ≤ (m : Rat) * (2 : Rat) ^ i := by
      rw [p2_add, p2_nat]
      exact Rat.mul_le_mul_of_nonneg_right (nat_cast_le hL1) (Rat.le_of_lt (p2_pos i))
    have hLi : (L : Int) + i < 1023 := p2_lt_of (by grind)
    generalize hlast : max (i + (L : Int) - 52) (-1074) = last
    have hl1 : i + L - 52 ≤ last := by omega
    have hl2 : -1074 ≤ last := by omega
    have hl3 : last ≤ 970 := by omega
    have hl4 : last = -1074 ∨ last = i + L - 52 := by omega
    generalize hkept : Toward.even.cut s (m <<< (i - last).toNat) (last - i).toNat = kept
    obtain ⟨c1, c2, c3, c4⟩ := cut_spec s (m <<< (i - last).toNat) (last - i).toNat
    rw [hkept] at c1 c2 c3 c4
    have key : kept ≤ 2 ^ 53 ∧ (last = -1074 ∨ 2 ^ 52 ≤ kept) ∧
        ((kept : Rat) * (2 : Rat) ^ last - m * (2 : Rat) ^ i).abs ≤ (2 : Rat) ^ (last - 1) ∧
        (∀ (K : Nat) (q : Int), K < 2 ^ 53 → -1074 ≤ q → (m : Rat) * (2 : Rat) ^ i = K * (2 : Rat) ^ q → (kept : Rat) * (2 : Rat) ^ last = m * (2 : Rat) ^ i) := by
      by_cases hil : last ≤ i
      · obtain ⟨a, ha⟩ := Int.eq_ofNat_of_zero_le (show 0 ≤ i - last by omega)
        have h1 : (i - last).toNat = a := by omega
        have h2 : (last - i).toNat = 0 := by omega
        rw [h1, h2] at c3
        have hk : kept = m * 2 ^ a := by
          have := c3 (by simp)
          rw [Nat.shiftLeft_eq] at this
          simpa using this
        have hex : (kept : Rat) * (2 : Rat) ^ last = m * (2 : Rat) ^ i := by
          rw [hk, show i = (a : Int) + last by omega, p2_add, p2_nat]
          push_cast
          grind
        have ha52 : a + L ≤ 52 := by omega
        have hlt53 : m * 2 ^ a < 2 ^ (L + 1 + a) := by
          rw [Nat.pow_add]
          exact Nat.mul_lt_mul_of_pos_right hL2 (Nat.two_pow_pos a)
        have hle53 : 2 ^ (L + 1 + a) ≤ 2 ^ 53 := Nat.pow_le_pow_right (by decide) (by omega)
        refine ⟨by omega, ?_, ?_, fun K q _ _ _ => hex⟩
        · rcases hl4 with h | h
          · exact .inl h
          · refine .inr ?_
            rw [hk]
            have : 2 ^ 52 = 2 ^ L * 2 ^ a := by rw [← Nat.pow_add]; congr 1; omega
            rw [this]
            exact Nat.mul_le_mul_right _ hL1
        · rw [hex]
          have := p2_pos (last - 1)
          simp
          grind
      · obtain ⟨b, hb⟩ := Int.eq_ofNat_of_zero_le (show 0 ≤ last - i by omega)
        have h1 : (i - last).toNat = 0 := by omega
        have h2 : (last - i).toNat = b := by omega
        rw [h1, h2] at c1 c2 c3 c4
        rw [Nat.shiftLeft_zero] at c1 c2 c3 c4
        have hlastq : (2 : Rat) ^ last = ((2 ^ b : Nat) : Rat) * (2 : Rat) ^ i := by
          rw [show last = (b : Int) + i by omega, p2_add, p2_nat]
        have hkv : (kept : Rat) * (2 : Rat) ^ last = ((kept * 2 ^ b : Nat) : Rat) * (2 : Rat) ^ i := by
          rw [hlastq]; push_cast; grind
        refine ⟨?_, ?_, ?_, ?_⟩
        · have : m / 2 ^ b < 2 ^ 53 := by
            rw [Nat.div_lt_iff_lt_mul (Nat.two_pow_pos b), ← Nat.pow_add]
            exact Nat.lt_of_lt_of_le hL2 (Nat.pow_le_pow_right (by decide) (by omega))
          omega
        · rcases hl4 with h | h
          · exact .inl h
          · refine .inr ?_
            have hLb : L = 52 + b := by omega
            rw [hLb, Nat.pow_add] at hL1
            have h5 : 2 * (2 ^ 52 * 2 ^ b) ≤ 2 * (kept * 2 ^ b) + 2 ^ b := Nat.le_trans (Nat.mul_le_mul_left 2 hL1) c2
            have hpos := Nat.two_pow_pos b
            refine Nat.not_lt.1 fun hlt => ?_
            have h6 : (kept + 1) * 2 ^ b ≤ 2 ^ 52 * 2 ^ b := Nat.mul_le_mul_right _ hlt
            rw [Nat.add_mul, Nat.one_mul] at h6
            omega
        · rw [hkv, abs_le_iff]
          have e5 : (2 : Rat) ^ (last - 1) * 2 = ((2 ^ b : Nat) : Rat) * (2 : Rat) ^ i := by
            rw [← hlastq]
            have h21 : (2 : Rat) ^ (1 : Int) = 2 := by simp
            rw [show last = (last - 1) + 1 by omega, p2_add (last - 1) 1, h21]
            simp
          have g1 := Rat.mul_le_mul_of_nonneg_right (nat_cast_le c1) (Rat.le_of_lt (p2_pos i))
          have g2 := Rat.mul_le_mul_of_nonneg_right (nat_cast_le c2) (Rat.le_of_lt (p2_pos i))
          push_cast at g1 g2 e5 ⊢
          grind
        · intro K q hK hq he
          have hKpos : K ≠ 0 := by
            rintro rfl
            have := p2_pos ((L : Int) + i)
            simp at he
            grind
          have hlq : last ≤ q := by
            rcases hl4 with h | h
            · omega
            · have : (2 : Rat) ^ ((L : Int) + i) < (2 : Rat) ^ (53 + q) := by
                rw [p2_add 53 q]
                have : (2 : Rat) ^ (53 : Int) = ((2 ^ 53 : Nat) : Rat) := p2_nat 53
                rw [this]
                have h9 : (K : Rat) * (2 : Rat) ^ q < ((2 ^ 53 : Nat) : Rat) * (2 : Rat) ^ q := Rat.mul_lt_mul_of_pos_right (nat_cast_lt (by omega)) (p2_pos q)
                grind
              have := p2_lt_of this
              omega
          obtain ⟨c, hc⟩ := Int.eq_ofNat_of_zero_le (show 0 ≤ q - last by omega)
          have hmK : m = K * 2 ^ (b + c) := by
            have h10 : (m : Rat) * (2 : Rat) ^ i = ((K * 2 ^ (b + c) : Nat) : Rat) * (2 : Rat) ^ i := by
              rw [he, show q = ((b + c : Nat) : Int) + i by omega, p2_add, p2_nat]
              push_cast
              grind
            have h11 := p2_pos i
            have h12 : (m : Rat) = ((K * 2 ^ (b + c) : Nat) : Rat) := by
              have h13 : ((m : Rat) - ((K * 2 ^ (b + c) : Nat) : Rat)) * (2 : Rat) ^ i = 0 := by grind
              rcases Rat.mul_eq_zero.1 h13 with h | h <;> grind
            exact_mod_cast h12
          have := c3 ⟨K * 2 ^ c, by rw [hmK, Nat.pow_add]; grind⟩
          rw [hkv, this]
    obtain ⟨k1, k2, k3, k4⟩ := key
    have hn : double.nearest s m i = double.word s ((last - -1074).toNat * 2 ^ 52 + kept) := by
      unfold Format.nearest
      simp only [if_neg hm, e1, e2, e3, e4, hLd, hlast, hkept]
      rw [Nat.min_eq_left (by omega)]
    refine ⟨dv s kept last, ?_, ?_⟩
    · rw [hn]
      have := is_rung (s := s) (t := (last - -1074).toNat) (k := kept) k1 (by omega) (by omega)
      rwa [show (-1074 + ((last - -1074).toNat : Int)) = last by omega] at this
    · constructor
      · have hd : dv s kept last - dv s m i = sg s * ((kept : Rat) * (2 : Rat) ^ last - m * (2 : Rat) ^ i) := by unfold dv; grind
        rw [hd, sg_abs]
        have hx : (dv s m i).abs = (m : Rat) * (2 : Rat) ^ i := by
          unfold dv
          rw [sg_abs, Rat.abs_of_nonneg]
          have := p2_pos ((L : Int) + i)
          grind
        rw [hx]
        rcases hl4 with h | h
        · right
          rw [h] at k3 ⊢
          exact k3
        · left
          refine Rat.le_trans k3 ?_
          rw [h, show i + (L : Int) - 52 - 1 = ((L : Int) + i) + (-53) by omega, p2_add]
          exact Rat.mul_le_mul_of_nonneg_right hp (Rat.le_of_lt (p2_pos _))
      · intro K q hK hq he
        have h14 : (m : Rat) * (2 : Rat) ^ i = (K.natAbs : Rat) * (2 : Rat) ^ q := by
          have h15 : (dv s m i).abs = ((K : Rat) * (2 : Rat) ^ q).abs := by rw [he]
          have hx : (dv s m i).abs = (m : Rat) * (2 : Rat) ^ i := by
            unfold dv
            rw [sg_abs, Rat.abs_of_nonneg]
            have := p2_pos ((L : Int) + i)
            grind
          rw [hx] at h15
          rw [h15, abs_mul, Rat.abs_of_nonneg (Rat.le_of_lt (p2_pos q))]
          congr 1
          rcases Int.natAbs_eq K with h | h
          · rw [h]
            simp only [Int.natAbs_natCast]
            exact Rat.abs_of_nonneg (by exact_mod_cast Nat.zero_le _)
          · rw [h]
            simp only [Int.natAbs_neg, Int.natAbs_natCast]
            rw [Rat.abs_of_nonpos]
            · push_cast; grind
            · have : (0 : Rat) ≤ ((K.natAbs : Nat) : Rat) := by exact_mod_cast Nat.zero_le _
              push_cast
              grind
        have := k4 K.natAbs q hK hq h14
        unfold dv
        rw [this]
end Go.Vm
