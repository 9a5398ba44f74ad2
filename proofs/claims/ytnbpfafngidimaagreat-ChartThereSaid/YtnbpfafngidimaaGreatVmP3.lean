/- The fields of a word; no conditions. -/
import Derived.Test.YtnbpfafngidimaaGreatVmF2
import Derived.Test.YtnbpfafngidimaaGreatVmP1
import Derived.Test.YtnbpfafngidimaaGreatVmKM
namespace Go.Vm
open Ieee
set_option linter.unusedVariables false
set_option linter.unusedSimpArgs false

/-! ### Words by their fields -/
theorem read_bounds {w : Nat} {s : Bool} {m : Nat} {i : Int} (h : double.read w = .number s m i) : m < 2 ^ 53 ∧ -1074 ≤ i ∧ i ≤ 971 := by
  have e1 : double.signWeight = 2 ^ 63 := by decide
  have e2 : double.binade = 2 ^ 52 := by decide
  have e3 : double.infRung = 2047 * 2 ^ 52 := by decide
  have e4 : double.leastPlace = -1074 := by decide
  unfold Format.read at h
  simp only [e1, e2, e3, e4] at h
  split at h
  · injection h with h1 h2 h3
    omega
  · split at h
    · injection h with h1 h2 h3
      have := Nat.mod_lt (w % 2 ^ 63) (show 0 < 2 ^ 52 by decide)
      have h5 : w % 2 ^ 63 / 2 ^ 52 < 2047 := by omega
      omega
    · split at h <;> cases h

theorem is_rep {a : Nat} {x : Rat} (h : Is a x) : ∃ (K : Int) (q : Int), K.natAbs < 2 ^ 53 ∧ -1074 ≤ q ∧ q ≤ 971 ∧ x = K * (2 : Rat) ^ q := by
  obtain ⟨_, s, m, i, h1, rfl⟩ := h
  obtain ⟨b1, b2, b3⟩ := read_bounds h1
  refine ⟨if s then -(m : Int) else m, i, ?_, b2, b3, ?_⟩
  · split <;> omega
  · unfold dv sg
    cases s
    · simp only [Bool.false_eq_true, if_false]
      have : ((m : Int) : Rat) = (m : Rat) := by norm_cast
      rw [this]; grind
    · simp only [if_true]; push_cast; grind

/-- A normal word: its fields. -/
theorem normal_fields {y : Nat} {v : Rat} (h : Is y v) (hv : (2 : Rat) ^ (-1022 : Int) ≤ v.abs) :
    ∃ (s : Bool) (E f : Nat), y = (if s then 2 ^ 63 else 0) + E * 2 ^ 52 + f ∧ 1 ≤ E ∧ E ≤ 2046 ∧ f < 2 ^ 52 ∧ v = dv s (2 ^ 52 + f) ((E : Int) - 1075) := by
  obtain ⟨hw, s, m, i, h1, h2⟩ := h
  have e1 : double.signWeight = 2 ^ 63 := by decide
  have e2 : double.binade = 2 ^ 52 := by decide
  have e3 : double.infRung = 2047 * 2 ^ 52 := by decide
  have e4 : double.leastPlace = -1074 := by decide
  unfold Format.read at h1
  simp only [e1, e2, e3, e4] at h1
  split at h1
  · exfalso
    rename_i hlt
    injection h1 with g1 g2 g3
    subst g3
    rw [← h2, dv_abs] at hv
    have h5 : (m : Rat) < ((2 ^ 52 : Nat) : Rat) := nat_cast_lt (by omega)
    have h6 := Rat.mul_lt_mul_of_pos_right h5 (p2_pos (-1074))
    have h7 : (2 : Rat) ^ (52 : Int) = ((2 ^ 52 : Nat) : Rat) := p2_nat 52
    rw [← h7, ← p2_add, show (52 + -1074 : Int) = -1022 by decide] at h6
    grind
  · split at h1
    · rename_i hge hlt
      injection h1 with g1 g2 g3
      refine ⟨s, y % 2 ^ 63 / 2 ^ 52, y % 2 ^ 63 % 2 ^ 52, ?_, by omega, by omega, Nat.mod_lt _ (by decide), ?_⟩
      · have hs : (y / 2 ^ 63 % 2 == 1) = s := g1
        cases s
        · simp only [Bool.false_eq_true, if_false]
          have : ¬ (y / 2 ^ 63 % 2 = 1) := by simpa using hs
          omega
        · simp only [if_true]
          have : y / 2 ^ 63 % 2 = 1 := by simpa using hs
          omega
      · rw [← h2, ← g2, ← g3]
        congr 1
        omega
    · split at h1 <;> cases h1

theorem fields_is {s : Bool} {E f : Nat} (h1 : 1 ≤ E) (h2 : E ≤ 2046) (hf : f < 2 ^ 52) : Is ((if s then 2 ^ 63 else 0) + E * 2 ^ 52 + f) (dv s (2 ^ 52 + f) ((E : Int) - 1075)) := by
  have := is_rung (s := s) (t := E - 1) (k := 2 ^ 52 + f) (by omega) (.inr (by omega)) (by omega)
  have e1 : double.signWeight = 2 ^ 63 := by decide
  have e : double.word s ((E - 1) * 2 ^ 52 + (2 ^ 52 + f)) = (if s then 2 ^ 63 else 0) + E * 2 ^ 52 + f := by
    unfold Format.word
    rw [e1]
    have : (E - 1) * 2 ^ 52 + (2 ^ 52 + f) = E * 2 ^ 52 + f := by omega
    cases s
    · simp only [Bool.false_eq_true, if_false]; omega
    · simp only [if_true]; omega
  rw [e, show (-1074 + ((E - 1 : Nat) : Int)) = (E : Int) - 1075 by omega] at this
  exact this

/-! ### Whole numbers of 64 bits -/
theorem wrapI {n : Int} (h1 : -9223372036854775808 ≤ n) (h2 : n < 9223372036854775808) : IntKind.i64.wrap n = n := by
  unfold IntKind.wrap
  simp [IntKind.bits, IntKind.signed]
  split <;> omega
theorem wrapU {n : Int} (h1 : 0 ≤ n) (h2 : n < 18446744073709551616) : IntKind.u64.wrap n = n := by
  unfold IntKind.wrap
  simp only [IntKind.bits, IntKind.signed, Bool.false_and, Bool.false_eq_true, if_false]
  omega

theorem bv_nat (a : Nat) (h : a < 2 ^ 64) : (BitVec.ofInt 64 (a : Int)).toNat = a := by
  have : BitVec.ofInt 64 (a : Int) = BitVec.ofNat 64 a := by simp
  rw [this, BitVec.toNat_ofNat]
  exact Nat.mod_eq_of_lt h

theorem andU_eq {a b : Nat} (ha : a < 2 ^ 64) (hb : b < 2 ^ 64) : andU a b = ((a &&& b : Nat) : Int) := by
  unfold andU
  rw [BitVec.toNat_and, bv_nat a ha, bv_nat b hb]
  have : a &&& b ≤ a := Nat.and_le_left
  exact wrapU (by omega) (by omega)
theorem andI_eq {a b : Nat} (ha : a < 2 ^ 63) (hb : b < 2 ^ 64) : andI a b = ((a &&& b : Nat) : Int) := by
  unfold andI
  rw [BitVec.toNat_and, bv_nat a (by omega), bv_nat b hb]
  have : a &&& b ≤ a := Nat.and_le_left
  exact wrapI (by omega) (by omega)
theorem orU_eq {a b : Nat} (ha : a < 2 ^ 64) (hb : b < 2 ^ 64) : orU a b = ((a ||| b : Nat) : Int) := by
  unfold orU
  rw [BitVec.toNat_or, bv_nat a ha, bv_nat b hb]
  have : a ||| b < 2 ^ 64 := Nat.or_lt_two_pow ha hb
  exact wrapU (by omega) (by omega)
theorem andNotU_eq {a b : Nat} (ha : a < 2 ^ 64) (hb : b < 2 ^ 64) : andNotU a b = ((a &&& (2 ^ 64 - 1 - b) : Nat) : Int) := by
  unfold andNotU
  rw [BitVec.toNat_and, BitVec.toNat_not, bv_nat a ha, bv_nat b hb]
  have : a &&& (2 ^ 64 - 1 - b) ≤ a := Nat.and_le_left
  exact wrapU (by omega) (by omega)

theorem shrU_eq {y : Nat} : shrU y 52 = ((y / 2 ^ 52 : Nat) : Int) := by
  unfold shrU
  have : (2 : Int) ^ min (52 : Int).toNat IntKind.u64.bits = 4503599627370496 := by decide
  rw [this]
  have h : (2 : Nat) ^ 52 = 4503599627370496 := by decide
  rw [h, Int.fdiv_eq_ediv_of_nonneg _ (by decide)]
  omega
theorem shlU_eq {n : Nat} (h : n < 2 ^ 12) : shlU n 52 = ((n * 2 ^ 52 : Nat) : Int) := by
  unfold shlU
  have : (2 : Int) ^ min (52 : Int).toNat IntKind.u64.bits = 4503599627370496 := by decide
  rw [this]
  have h2 : (2 : Nat) ^ 52 = 4503599627370496 := by decide
  rw [h2]
  rw [wrapU (by omega) (by omega)]
  omega
end Go.Vm
