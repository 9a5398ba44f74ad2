/- Sums and products of whole words are exact below 2 to the 53; no conditions. The fields of a word; no conditions. Words that are finite, their greatest part, their powers of two; no conditions. What logarithms and angles of powers compute, joined; no conditions. Contracts that tell at once what is so, and go on if it is; no conditions. What exponentials, turns and powers compute, and the frame of an element's values, in Lean; no conditions. What ElementMoved and Moved compute, in Lean; no conditions. A part of the evaluator and of what is told of floats; no conditions. -/
import Derived.Test.YtnbpfafngidimaaGreatVmKC
import Derived.Test.YtnbpfafngidimaaGreatVmLP
namespace Go.Vm
open Ieee
set_option linter.unusedVariables false
set_option linter.unusedSimpArgs false

/-! ### Exact whole numbers -/
theorem bindF_eq {R : Type} {o : Option Nat} {n : Nat} {k : Nat → Option R} (h : o = some n) : bindF o k = k n := by subst h; simp [bindF, forceN_eq]

theorem lt_1023 {x : Rat} {n : Nat} (h : x.abs < (2 : Rat) ^ (n : Int)) (hn : n ≤ 1023) : x.abs < (2 : Rat) ^ (1023 : Int) := by
  have := p2_le (show (n : Int) ≤ 1023 by omega)
  grind

theorem int_abs_lt {n : Int} (h : n.natAbs < 2 ^ 53) : ((n : Rat)).abs < (2 : Rat) ^ (1023 : Int) := by
  have h1 : ((n : Rat)).abs = ((n.natAbs : Nat) : Rat) := by
    have := dv_abs (decide (n < 0)) n.natAbs 0
    rw [int_dv n (decide (n < 0)) 0 fun _ => rfl] at this
    simpa using this
  rw [h1]
  have h2 : ((n.natAbs : Nat) : Rat) < ((2 ^ 53 : Nat) : Rat) := nat_cast_lt h
  have h3 : (2 : Rat) ^ (53 : Int) = ((2 ^ 53 : Nat) : Rat) := p2_nat 53
  have h4 : (2 : Rat) ^ (53 : Int) ≤ (2 : Rat) ^ (1023 : Int) := p2_le (by decide)
  grind

theorem rnd_int {n : Int} {z : Rat} (h : n.natAbs < 2 ^ 53) (hr : Rnd (n : Rat) z) : z = n := hr.rep n 0 h (by decide) (by simp)

theorem add_int {a b : Nat} {x y : Int} (ha : Is a x) (hb : Is b y) (h : (x + y).natAbs < 2 ^ 53) : ∃ r, fbF .add a b = some r ∧ Is r ((x + y : Int) : Rat) := by
  have e : ((x + y : Int) : Rat) = (x : Rat) + y := by push_cast; rfl
  obtain ⟨r, z, h1, h2, h3⟩ := add_is ha hb (by rw [← e]; exact int_abs_lt h)
  rw [← e] at h3
  rw [rnd_int h h3] at h2
  exact ⟨r, h1, h2⟩
theorem sub_int {a b : Nat} {x y : Int} (ha : Is a x) (hb : Is b y) (h : (x - y).natAbs < 2 ^ 53) : ∃ r, fbF .sub a b = some r ∧ Is r ((x - y : Int) : Rat) := by
  have e : ((x - y : Int) : Rat) = (x : Rat) - y := by push_cast; rfl
  obtain ⟨r, z, h1, h2, h3⟩ := sub_is ha hb (by rw [← e]; exact int_abs_lt h)
  rw [← e] at h3
  rw [rnd_int h h3] at h2
  exact ⟨r, h1, h2⟩
theorem mul_int {a b : Nat} {x y : Int} (ha : Is a x) (hb : Is b y) (h : (x * y).natAbs < 2 ^ 53) : ∃ r, fbF .mul a b = some r ∧ Is r ((x * y : Int) : Rat) := by
  have e : ((x * y : Int) : Rat) = (x : Rat) * y := by push_cast; rfl
  obtain ⟨r, z, h1, h2, h3⟩ := mul_is ha hb (by rw [← e]; exact int_abs_lt h)
  rw [← e] at h3
  rw [rnd_int h h3] at h2
  exact ⟨r, h1, h2⟩

theorem is_zero : Is 0 ((0 : Int) : Rat) := ⟨by decide, false, 0, -1074, by decide, dv_zero _ _⟩

theorem eqF_is {a b : Nat} {x y : Rat} (ha : Is a x) (hb : Is b y) : eqF a b = decide (x = y) := by
  unfold eqF
  rw [order_is ha hb]
  by_cases h1 : x < y
  · have : ¬ x = y := by grind
    simp [h1, this]
  · by_cases h2 : x = y
    · subst h2
      simp [h1]
    · simp [h1, h2]
theorem neF_is {a b : Nat} {x y : Rat} (ha : Is a x) (hb : Is b y) : neF a b = !decide (x = y) := by
  rw [← eqF_is ha hb]; unfold neF eqF; rfl
theorem leF_is {a b : Nat} {x y : Rat} (ha : Is a x) (hb : Is b y) : leF a b = decide (x ≤ y) := by
  unfold leF
  rw [order_is ha hb]
  by_cases h1 : x < y
  · have : x ≤ y := by grind
    simp [h1, this]
  · by_cases h2 : x = y
    · subst h2
      simp [h1]
    · have : ¬ x ≤ y := by grind
      simp [h1, h2, this]

theorem int_eq_iff {x y : Int} : ((x : Rat) = (y : Rat)) ↔ x = y := by
  constructor
  · intro h; exact_mod_cast h
  · rintro rfl; rfl

/-- A complex number of whole parts. -/
def IsC (a b : Nat) (x y : Int) : Prop := Is a x ∧ Is b y

theorem addK_int {a b c d : Nat} {x y u v : Int} (h1 : IsC a b x y) (h2 : IsC c d u v) (b1 : (x + u).natAbs < 2 ^ 53) (b2 : (y + v).natAbs < 2 ^ 53) :
    ∃ p q, IsC p q (x + u) (y + v) ∧ ∀ (R : Type) (k : Nat → Nat → Option R), addK R a b c d k = k p q := by
  obtain ⟨p, e1, g1⟩ := add_int h1.1 h2.1 b1
  obtain ⟨q, e2, g2⟩ := add_int h1.2 h2.2 b2
  exact ⟨p, q, ⟨g1, g2⟩, fun R k => by unfold addK; rw [bindF_eq e1, bindF_eq e2]⟩
theorem subK_int {a b c d : Nat} {x y u v : Int} (h1 : IsC a b x y) (h2 : IsC c d u v) (b1 : (x - u).natAbs < 2 ^ 53) (b2 : (y - v).natAbs < 2 ^ 53) :
    ∃ p q, IsC p q (x - u) (y - v) ∧ ∀ (R : Type) (k : Nat → Nat → Option R), subK R a b c d k = k p q := by
  obtain ⟨p, e1, g1⟩ := sub_int h1.1 h2.1 b1
  obtain ⟨q, e2, g2⟩ := sub_int h1.2 h2.2 b2
  exact ⟨p, q, ⟨g1, g2⟩, fun R k => by unfold subK; rw [bindF_eq e1, bindF_eq e2]⟩

theorem natAbs_mul_le {x u : Int} {p q : Nat} (h1 : x.natAbs ≤ p) (h2 : u.natAbs ≤ q) : (x * u).natAbs ≤ p * q := by
  rw [Int.natAbs_mul]; exact Nat.mul_le_mul h1 h2

theorem mulK_int {a b c d : Nat} {x y u v : Int} {p q : Nat} (h1 : IsC a b x y) (h2 : IsC c d u v) (bx : x.natAbs ≤ p) (by' : y.natAbs ≤ p) (bu : u.natAbs ≤ q) (bv : v.natAbs ≤ q) (hb : 2 * (p * q) < 2 ^ 53) :
    ∃ s t, IsC s t (x * u - y * v) (x * v + y * u) ∧ (x * u - y * v).natAbs ≤ 2 * (p * q) ∧ (x * v + y * u).natAbs ≤ 2 * (p * q) ∧ ∀ (R : Type) (k : Nat → Nat → Option R), mulK R a b c d k = k s t := by
  have m1 := natAbs_mul_le bx bu
  have m2 := natAbs_mul_le by' bv
  have m3 := natAbs_mul_le bx bv
  have m4 := natAbs_mul_le by' bu
  have n1 : (x * u - y * v).natAbs ≤ 2 * (p * q) := by omega
  have n2 : (x * v + y * u).natAbs ≤ 2 * (p * q) := by omega
  obtain ⟨r1, e1, g1⟩ := mul_int h1.1 h2.1 (by omega)
  obtain ⟨r2, e2, g2⟩ := mul_int h1.2 h2.2 (by omega)
  obtain ⟨r3, e3, g3⟩ := sub_int g1 g2 (by omega)
  obtain ⟨r4, e4, g4⟩ := mul_int h1.1 h2.2 (by omega)
  obtain ⟨r5, e5, g5⟩ := mul_int h1.2 h2.1 (by omega)
  obtain ⟨r6, e6, g6⟩ := add_int g4 g5 (by omega)
  exact ⟨r3, r6, ⟨g3, g6⟩, n1, n2, fun R k => by unfold mulK; rw [bindF_eq e1, bindF_eq e2, bindF_eq e3, bindF_eq e4, bindF_eq e5, bindF_eq e6]⟩

theorem negK_int {a b : Nat} {x y : Int} (h : IsC a b x y) : ∃ p q, IsC p q (-x) (-y) ∧ ∀ (R : Type) (k : Nat → Nat → Option R), negK R a b k = k p q :=
  ⟨_, _, ⟨by have := neg_is h.1; push_cast; exact this, by have := neg_is h.2; push_cast; exact this⟩, fun R k => by unfold negK; rw [forceN_eq, forceN_eq]⟩

theorem noughtK_int {a b : Nat} {x y : Int} (h : IsC a b x y) {R : Type} (k : Bool → Option R) : noughtK R a b k = k (decide (x = 0 ∧ y = 0)) := by
  unfold noughtK
  rw [forceB_eq, eqF_is h.1 is_zero]
  by_cases h1 : x = 0
  · subst h1
    simp only [decide_true]
    rw [forceB_eq, eqF_is h.2 is_zero]
    by_cases h2 : y = 0
    · subst h2; simp
    · simp [h2]
  · have : ¬ ((x : Rat) = ((0 : Int) : Rat)) := fun e => h1 (int_eq_iff.1 e)
    simp [h1]

theorem likeK_int {a b : Nat} {x y : Int} (ha : Is a x) (hb : Is b y) {R : Type} (k : Bool → Option R) : likeK R a b k = k (decide (x = y)) := by
  unfold likeK
  rw [forceB_eq, eqF_is ha hb]
  by_cases h1 : x = y
  · subst h1; simp
  · simp only [int_eq_iff, h1, decide_false]
    rw [forceB_eq, neF_is ha ha]
    simp

def LikeK : KCCB := LikeB likeK
theorem LikeK_int {a b c d : Nat} {x y u v : Int} (h : IsC a b x y) (g : IsC c d u v) {R : Type} (k : Bool → Option R) : LikeK R a b c d k = k (decide (x = u ∧ y = v)) := by
  unfold LikeK LikeB
  rw [likeK_int h.1 g.1, forceB_eq]
  by_cases h1 : x = u
  · subst h1
    simp only [decide_true]
    rw [likeK_int h.2 g.2, forceB_eq]
    simp [forceB_eq]
  · simp [h1]

theorem absW_eq (a : Nat) : absW a = a % 2 ^ 63 := by
  unfold absW
  have h1 : ((BitVec.ofInt 64 a &&& ~~~(BitVec.ofInt 64 9223372036854775808)).toNat : Nat) = a % 2 ^ 63 := by
    have e1 : BitVec.ofInt 64 a = BitVec.ofNat 64 a := by simp
    have e2 : (~~~(BitVec.ofInt 64 9223372036854775808)) = BitVec.ofNat 64 (2 ^ 63 - 1) := by decide
    rw [e1, e2, BitVec.toNat_and, BitVec.toNat_ofNat, BitVec.toNat_ofNat]
    rw [show (2 ^ 63 - 1) % 2 ^ 64 = 2 ^ 63 - 1 by decide, Nat.and_two_pow_sub_one_eq_mod]
    omega
  rw [h1]
  have h2 : a % 2 ^ 63 < 2 ^ 63 := Nat.mod_lt _ (by decide)
  have h3 : IntKind.u64.wrap ((a % 2 ^ 63 : Nat) : Int) = ((a % 2 ^ 63 : Nat) : Int) := by
    unfold IntKind.wrap
    simp [IntKind.bits, IntKind.signed]
    omega
  rw [h3]
  rfl

theorem abs_is {a : Nat} {x : Rat} (h : Is a x) : Is (absW a) x.abs := by
  obtain ⟨hw, s, m, i, h1, rfl⟩ := h
  refine ⟨by rw [absW_eq]; omega, false, m, i, ?_, by rw [dv_abs]; unfold dv sg; simp⟩
  rw [absW_eq]
  have e1 : double.signWeight = 2 ^ 63 := by decide
  unfold Format.read at *
  simp only [e1] at h1 ⊢
  rw [Nat.mod_mod]
  have : (a % 2 ^ 63 / 2 ^ 63 % 2 == 1) = false := by
    rw [Nat.div_eq_of_lt (Nat.mod_lt _ (by decide))]; rfl
  rw [this]
  split at h1
  · rename_i hc
    simp only [hc, if_true]
    injection h1 with g1 g2 g3
    rw [g2, g3]
  · split at h1
    · rename_i hc1 hc
      simp only [hc, if_true, hc1, if_false]
      injection h1 with g1 g2 g3
      rw [g2, g3]
    · split at h1 <;> cases h1

theorem is_p40 : Is 4787326403894837248 ((2 ^ 40 : Int) : Rat) := by
  refine ⟨by decide, false, 2 ^ 52, -12, by decide, ?_⟩
  have h1 : ((2 ^ 52 : Nat) : Rat) = (2 : Rat) ^ ((52 : Nat) : Int) := (p2_nat 52).symm
  have h2 : ((2 ^ 40 : Int) : Rat) = (2 : Rat) ^ ((40 : Nat) : Int) := by
    rw [p2_nat]
    exact congrArg (fun z : Int => (z : Rat)) (by decide : (2 ^ 40 : Int) = ((2 ^ 40 : Nat) : Int))
  unfold dv sg
  rw [h1, h2, ← p2_add, if_neg (by decide), Rat.one_mul]
  rfl

theorem int_abs_le {n : Int} {N : Nat} (h : n.natAbs ≤ N) : ((n : Rat)).abs ≤ ((N : Int) : Rat) := by
  rw [abs_le_iff]
  constructor
  · have : (-(N : Int)) ≤ n := by omega
    have h2 : ((-(N : Int) : Int) : Rat) ≤ (n : Rat) := by exact_mod_cast this
    push_cast at h2 ⊢
    exact h2
  · have : n ≤ (N : Int) := by omega
    exact_mod_cast this

def withinK : KFFB := withinB absK
def WithinK : KCFB := WithinB withinK
def placeK : KCB := placeB WithinK
theorem withinK_int {a : Nat} {x : Int} (h : Is a x) (hb : x.natAbs ≤ 2 ^ 40) {R : Type} (k : Bool → Option R) : withinK R a 4787326403894837248 k = k true := by
  unfold withinK withinB absK
  show forceB (leF (absW a) 4787326403894837248) (fun t => k t) = k true
  rw [forceB_eq, leF_is (abs_is h) is_p40]
  have : ((x : Rat)).abs ≤ ((2 ^ 40 : Int) : Rat) := int_abs_le (N := 2 ^ 40) hb
  simp only [this, decide_true]
theorem placeK_int {a b : Nat} {x y : Int} (h : IsC a b x y) (h1 : x.natAbs ≤ 2 ^ 40) (h2 : y.natAbs ≤ 2 ^ 40) {R : Type} (k : Bool → Option R) : placeK R a b k = k true := by
  unfold placeK placeB WithinK WithinB
  rw [withinK_int h.1 h1, forceB_eq]
  simp only
  rw [withinK_int h.2 h2]
  simp only [forceB_eq]
end Go.Vm
namespace Go.Vm
open Ieee
set_option linter.unusedVariables false
set_option linter.unusedSimpArgs false

/-! ### Words by their fields -/
theorem read_bounds {w : Nat} {s : Bool} {m : Nat} {i : Int} (h : double.read w = .number s m i) : m < 2 ^ 53 ∧ -1074 ≤ i ∧ i ≤ 971 := by
  have e1 : double.signWeight = 2 ^ 63 := by decide
  have e2 : double.binade = 2 ^ 52 := by decide
  have e3 : double.infRung = 2047 * 2 ^ 52 := by decide
  have e4 : double.leastPlace = -1074 := by decide
  unfold Format.read at h
  simp only [e1, e2, e3, e4] at h
  split at h
  · injection h with h1 h2 h3
    omega
  · split at h
    · injection h with h1 h2 h3
      have := Nat.mod_lt (w % 2 ^ 63) (show 0 < 2 ^ 52 by decide)
      have h5 : w % 2 ^ 63 / 2 ^ 52 < 2047 := by omega
      omega
    · split at h <;> cases h

theorem is_rep {a : Nat} {x : Rat} (h : Is a x) : ∃ (K : Int) (q : Int), K.natAbs < 2 ^ 53 ∧ -1074 ≤ q ∧ q ≤ 971 ∧ x = K * (2 : Rat) ^ q := by
  obtain ⟨_, s, m, i, h1, rfl⟩ := h
  obtain ⟨b1, b2, b3⟩ := read_bounds h1
  refine ⟨if s then -(m : Int) else m, i, ?_, b2, b3, ?_⟩
  · split <;> omega
  · unfold dv sg
    cases s
    · simp only [Bool.false_eq_true, if_false]
      have : ((m : Int) : Rat) = (m : Rat) := by norm_cast
      rw [this]; grind
    · simp only [if_true]; push_cast; grind

/-- A normal word: its fields. -/
theorem normal_fields {y : Nat} {v : Rat} (h : Is y v) (hv : (2 : Rat) ^ (-1022 : Int) ≤ v.abs) :
    ∃ (s : Bool) (E f : Nat), y = (if s then 2 ^ 63 else 0) + E * 2 ^ 52 + f ∧ 1 ≤ E ∧ E ≤ 2046 ∧ f < 2 ^ 52 ∧ v = dv s (2 ^ 52 + f) ((E : Int) - 1075) := by
  obtain ⟨hw, s, m, i, h1, h2⟩ := h
  have e1 : double.signWeight = 2 ^ 63 := by decide
  have e2 : double.binade = 2 ^ 52 := by decide
  have e3 : double.infRung = 2047 * 2 ^ 52 := by decide
  have e4 : double.leastPlace = -1074 := by decide
  unfold Format.read at h1
  simp only [e1, e2, e3, e4] at h1
  split at h1
  · exfalso
    rename_i hlt
    injection h1 with g1 g2 g3
    subst g3
    rw [← h2, dv_abs] at hv
    have h5 : (m : Rat) < ((2 ^ 52 : Nat) : Rat) := nat_cast_lt (by omega)
    have h6 := Rat.mul_lt_mul_of_pos_right h5 (p2_pos (-1074))
    have h7 : (2 : Rat) ^ (52 : Int) = ((2 ^ 52 : Nat) : Rat) := p2_nat 52
    rw [← h7, ← p2_add, show (52 + -1074 : Int) = -1022 by decide] at h6
    grind
  · split at h1
    · rename_i hge hlt
      injection h1 with g1 g2 g3
      refine ⟨s, y % 2 ^ 63 / 2 ^ 52, y % 2 ^ 63 % 2 ^ 52, ?_, by omega, by omega, Nat.mod_lt _ (by decide), ?_⟩
      · have hs : (y / 2 ^ 63 % 2 == 1) = s := g1
        cases s
        · simp only [Bool.false_eq_true, if_false]
          have : ¬ (y / 2 ^ 63 % 2 = 1) := by simpa using hs
          omega
        · simp only [if_true]
          have : y / 2 ^ 63 % 2 = 1 := by simpa using hs
          omega
      · rw [← h2, ← g2, ← g3]
        congr 1
        omega
    · split at h1 <;> cases h1

theorem fields_is {s : Bool} {E f : Nat} (h1 : 1 ≤ E) (h2 : E ≤ 2046) (hf : f < 2 ^ 52) : Is ((if s then 2 ^ 63 else 0) + E * 2 ^ 52 + f) (dv s (2 ^ 52 + f) ((E : Int) - 1075)) := by
  have := is_rung (s := s) (t := E - 1) (k := 2 ^ 52 + f) (by omega) (.inr (by omega)) (by omega)
  have e1 : double.signWeight = 2 ^ 63 := by decide
  have e : double.word s ((E - 1) * 2 ^ 52 + (2 ^ 52 + f)) = (if s then 2 ^ 63 else 0) + E * 2 ^ 52 + f := by
    unfold Format.word
    rw [e1]
    have : (E - 1) * 2 ^ 52 + (2 ^ 52 + f) = E * 2 ^ 52 + f := by omega
    cases s
    · simp only [Bool.false_eq_true, if_false]; omega
    · simp only [if_true]; omega
  rw [e, show (-1074 + ((E - 1 : Nat) : Int)) = (E : Int) - 1075 by omega] at this
  exact this

/-! ### Whole numbers of 64 bits -/
theorem wrapI {n : Int} (h1 : -9223372036854775808 ≤ n) (h2 : n < 9223372036854775808) : IntKind.i64.wrap n = n := by
  unfold IntKind.wrap
  simp [IntKind.bits, IntKind.signed]
  split <;> omega
theorem wrapU {n : Int} (h1 : 0 ≤ n) (h2 : n < 18446744073709551616) : IntKind.u64.wrap n = n := by
  unfold IntKind.wrap
  simp only [IntKind.bits, IntKind.signed, Bool.false_and, Bool.false_eq_true, if_false]
  omega

theorem bv_nat (a : Nat) (h : a < 2 ^ 64) : (BitVec.ofInt 64 (a : Int)).toNat = a := by
  have : BitVec.ofInt 64 (a : Int) = BitVec.ofNat 64 a := by simp
  rw [this, BitVec.toNat_ofNat]
  exact Nat.mod_eq_of_lt h

theorem andU_eq {a b : Nat} (ha : a < 2 ^ 64) (hb : b < 2 ^ 64) : andU a b = ((a &&& b : Nat) : Int) := by
  unfold andU
  rw [BitVec.toNat_and, bv_nat a ha, bv_nat b hb]
  have : a &&& b ≤ a := Nat.and_le_left
  exact wrapU (by omega) (by omega)
theorem andI_eq {a b : Nat} (ha : a < 2 ^ 63) (hb : b < 2 ^ 64) : andI a b = ((a &&& b : Nat) : Int) := by
  unfold andI
  rw [BitVec.toNat_and, bv_nat a (by omega), bv_nat b hb]
  have : a &&& b ≤ a := Nat.and_le_left
  exact wrapI (by omega) (by omega)
theorem orU_eq {a b : Nat} (ha : a < 2 ^ 64) (hb : b < 2 ^ 64) : orU a b = ((a ||| b : Nat) : Int) := by
  unfold orU
  rw [BitVec.toNat_or, bv_nat a ha, bv_nat b hb]
  have : a ||| b < 2 ^ 64 := Nat.or_lt_two_pow ha hb
  exact wrapU (by omega) (by omega)
theorem andNotU_eq {a b : Nat} (ha : a < 2 ^ 64) (hb : b < 2 ^ 64) : andNotU a b = ((a &&& (2 ^ 64 - 1 - b) : Nat) : Int) := by
  unfold andNotU
  rw [BitVec.toNat_and, BitVec.toNat_not, bv_nat a ha, bv_nat b hb]
  have : a &&& (2 ^ 64 - 1 - b) ≤ a := Nat.and_le_left
  exact wrapU (by omega) (by omega)

theorem shrU_eq {y : Nat} : shrU y 52 = ((y / 2 ^ 52 : Nat) : Int) := by
  unfold shrU
  have : (2 : Int) ^ min (52 : Int).toNat IntKind.u64.bits = 4503599627370496 := by decide
  rw [this]
  have h : (2 : Nat) ^ 52 = 4503599627370496 := by decide
  rw [h, Int.fdiv_eq_ediv_of_nonneg _ (by decide)]
  omega
theorem shlU_eq {n : Nat} (h : n < 2 ^ 12) : shlU n 52 = ((n * 2 ^ 52 : Nat) : Int) := by
  unfold shlU
  have : (2 : Int) ^ min (52 : Int).toNat IntKind.u64.bits = 4503599627370496 := by decide
  rw [this]
  have h2 : (2 : Nat) ^ 52 = 4503599627370496 := by decide
  rw [h2]
  rw [wrapU (by omega) (by omega)]
  omega
end Go.Vm
namespace Go.Vm
open Ieee
set_option linter.unusedVariables false
set_option linter.unusedSimpArgs false

theorem gtF_is {a b : Nat} {x y : Rat} (ha : Is a x) (hb : Is b y) : gtF a b = decide (y < x) := by
  unfold gtF
  rw [order_is ha hb]
  by_cases h1 : x < y
  · have : ¬ y < x := by grind
    simp [h1, this]
  · by_cases h2 : x = y
    · subst h2; simp [h1]
    · have : y < x := by grind
      simp [h1, h2, this]
theorem ltF_is {a b : Nat} {x y : Rat} (ha : Is a x) (hb : Is b y) : ltF a b = decide (x < y) := by
  unfold ltF
  rw [order_is ha hb]
  by_cases h1 : x < y
  · simp [h1]
  · by_cases h2 : x = y
    · subst h2; simp [h1]
    · simp [h1, h2]
theorem geF_is {a b : Nat} {x y : Rat} (ha : Is a x) (hb : Is b y) : geF a b = decide (y ≤ x) := by
  unfold geF
  rw [order_is ha hb]
  by_cases h1 : x < y
  · have : ¬ y ≤ x := by grind
    simp [h1, this]
  · by_cases h2 : x = y
    · subst h2; simp [h1]
    · have : y ≤ x := by grind
      simp [h1, h2, this]

theorem int_abs (K : Int) : ((K : Rat)).abs = ((K.natAbs : Nat) : Rat) := by
  have := dv_abs (decide (K < 0)) K.natAbs 0
  rw [int_dv K (decide (K < 0)) 0 fun _ => rfl] at this
  simpa using this

theorem p2_abs (q : Int) : ((2 : Rat) ^ q).abs = (2 : Rat) ^ q := Rat.abs_of_nonneg (Rat.le_of_lt (p2_pos q))

theorem is_max : Is 9218868437227405311 (((2 ^ 53 - 1 : Nat) : Rat) * (2 : Rat) ^ (971 : Int)) := by
  refine ⟨by decide, false, 2 ^ 53 - 1, 971, by decide, ?_⟩
  unfold dv sg
  rw [if_neg (by decide), Rat.one_mul]

theorem abs_le_max {a : Nat} {x : Rat} (h : Is a x) : x.abs ≤ ((2 ^ 53 - 1 : Nat) : Rat) * (2 : Rat) ^ (971 : Int) := by
  obtain ⟨K, q, h1, h2, h3, rfl⟩ := is_rep h
  rw [abs_mul, int_abs, p2_abs]
  have f1 : ((K.natAbs : Nat) : Rat) ≤ ((2 ^ 53 - 1 : Nat) : Rat) := nat_cast_le (by omega)
  have f2 := Rat.mul_le_mul_of_nonneg_right f1 (Rat.le_of_lt (p2_pos q))
  have f3 := Rat.mul_le_mul_of_nonneg_left (p2_le h3) (show (0 : Rat) ≤ ((2 ^ 53 - 1 : Nat) : Rat) by exact_mod_cast Nat.zero_le _)
  exact Rat.le_trans f2 f3

def isInfK : KFB := isInfB absK
def finiteK : KFB := finiteB absK
def FiniteK : KCB := FiniteB finiteK
def normK : KFFI := normB absK
def frexpK : KFFI := frexpB fiReal isInfK isNanK normK
def ldexpK : KFIF := ldexpB fiReal copyK isInfK isNanK normK
def scaleK : KFIF := scaleB ldexpK
def greatestK : KCF := greatestB absK
def scaledK : KCCI := scaledB greatestK frexpK scaleK
def sqrtK : KFF := fun R a k => bindF (double.sqrt a) k
def lengthK : KCF := lengthB isInfK isNanK greatestK scaledK squareK sqrtK scaleK
def nearK : KCCFB := nearB subK lengthK
def divK : KCCC := divB absK

theorem isInfK_no {a : Nat} {x : Rat} (h : Is a x) {R : Type} (k : Bool → Option R) : isInfK R a k = k false := by
  show forceB (gtF (absW a) 9218868437227405311) (fun t => k t) = k false
  rw [forceB_eq, gtF_is (abs_is h) is_max]
  have := abs_le_max h
  have : ¬ (((2 ^ 53 - 1 : Nat) : Rat) * (2 : Rat) ^ (971 : Int) < x.abs) := by grind
  simp only [this, decide_false]
theorem isNanK_no {a : Nat} {x : Rat} (h : Is a x) {R : Type} (k : Bool → Option R) : isNanK R a k = k false := by
  unfold isNanK
  rw [forceB_eq, neF_is h h]
  simp
theorem finiteK_yes {a : Nat} {x : Rat} (h : Is a x) {R : Type} (k : Bool → Option R) : finiteK R a k = k true := by
  show forceB (leF (absW a) 9218868437227405311) (fun t => k t) = k true
  rw [forceB_eq, leF_is (abs_is h) is_max]
  simp only [abs_le_max h, decide_true]
theorem FiniteK_yes {a b : Nat} {x y : Rat} (h : Is a x) (g : Is b y) {R : Type} (k : Bool → Option R) : FiniteK R a b k = k true := by
  unfold FiniteK FiniteB
  rw [finiteK_yes h, forceB_eq]
  simp only
  rw [finiteK_yes g]
  simp only [forceB_eq]

theorem is_least : Is 4503599627370496 ((2 : Rat) ^ (-1022 : Int)) := by
  have := fields_is (s := false) (E := 1) (f := 0) (by decide) (by decide) (by decide)
  have e : dv false (2 ^ 52 + 0) (((1 : Nat) : Int) - 1075) = (2 : Rat) ^ (-1022 : Int) := by
    unfold dv sg
    rw [if_neg (by decide), Rat.one_mul, Nat.add_zero, ← p2_nat, ← p2_add]
    rfl
  rw [e] at this
  exact this
theorem is_p52 : Is 4841369599423283200 ((2 : Rat) ^ (52 : Int)) := by
  have := fields_is (s := false) (E := 1075) (f := 0) (by decide) (by decide) (by decide)
  have e : dv false (2 ^ 52 + 0) (((1075 : Nat) : Int) - 1075) = (2 : Rat) ^ (52 : Int) := by
    unfold dv sg
    rw [if_neg (by decide), Rat.one_mul, Nat.add_zero, ← p2_nat, ← p2_add]
    rfl
  rw [e] at this
  exact this
theorem is_m53 : Is 4368491638549381120 ((2 : Rat) ^ (-53 : Int)) := by
  have := fields_is (s := false) (E := 970) (f := 0) (by decide) (by decide) (by decide)
  have e : dv false (2 ^ 52 + 0) (((970 : Nat) : Int) - 1075) = (2 : Rat) ^ (-53 : Int) := by
    unfold dv sg
    rw [if_neg (by decide), Rat.one_mul, Nat.add_zero, ← p2_nat, ← p2_add]
    rfl
  rw [e] at this
  exact this
theorem is_one : Is 4607182418800017408 1 := by
  have := fields_is (s := false) (E := 1023) (f := 0) (by decide) (by decide) (by decide)
  have e : dv false (2 ^ 52 + 0) (((1023 : Nat) : Int) - 1075) = 1 := by
    unfold dv sg
    rw [if_neg (by decide), Rat.one_mul, Nat.add_zero, ← p2_nat, ← p2_add]
    exact Rat.zpow_zero 2
  rw [e] at this
  exact this

theorem p2_cancel (q : Int) : (2 : Rat) ^ q * (2 : Rat) ^ (-q) = 1 := by rw [← p2_add, show q + -q = 0 by omega, Rat.zpow_zero]

theorem normK_def {R : Type} (a : Nat) (k : Nat → Int → Option R) : normK R a k = forceB (ltF (absW a) 4503599627370496) fun t => match t with
  | true => bindF (fbF .mul a 4841369599423283200) fun y => k y (-52)
  | false => k a 0 := rfl

theorem normK_is {a : Nat} {x : Rat} (h : Is a x) (hx : x ≠ 0) : ∃ (y : Nat) (e : Int), (e = 0 ∨ e = -52) ∧ Is y (x * (2 : Rat) ^ (-e)) ∧ (2 : Rat) ^ (-1022 : Int) ≤ (x * (2 : Rat) ^ (-e)).abs ∧
    ∀ (R : Type) (k : Nat → Int → Option R), normK R a k = k y e := by
  by_cases hs : x.abs < (2 : Rat) ^ (-1022 : Int)
  · obtain ⟨K, q, k1, k2, k3, hK⟩ := is_rep h
    have hlt : (x * (2 : Rat) ^ (52 : Int)).abs < (2 : Rat) ^ (1023 : Int) := by
      rw [abs_mul, p2_abs]
      have := Rat.mul_lt_mul_of_pos_right hs (p2_pos 52)
      rw [← p2_add] at this
      have h2 := p2_le (show (-1022 + 52 : Int) ≤ 1023 by decide)
      grind
    obtain ⟨y, z, e1, e2, e3⟩ := mul_is h is_p52 hlt
    have hz : z = x * (2 : Rat) ^ (52 : Int) := e3.rep K (q + 52) k1 (by omega) (by rw [hK, p2_add]; grind)
    rw [hz] at e2
    refine ⟨y, -52, .inr rfl, by simpa using e2, ?_, fun R k => ?_⟩
    · -- at least one unit
      have hK0 : 1 ≤ K.natAbs := by
        rcases Nat.eq_zero_or_pos K.natAbs with h0 | h0
        · have : K = 0 := by omega
          subst this
          exact absurd (by rw [hK]; simp) hx
        · exact h0
      have f1 : ((1 : Nat) : Rat) ≤ ((K.natAbs : Nat) : Rat) := nat_cast_le hK0
      have f2 := Rat.mul_le_mul_of_nonneg_right f1 (Rat.le_of_lt (p2_pos q))
      rw [show (-(-52 : Int)) = 52 by decide, abs_mul, p2_abs, hK, abs_mul, int_abs, p2_abs]
      have f3 := Rat.mul_le_mul_of_nonneg_right f2 (Rat.le_of_lt (p2_pos 52))
      have f4 : ((1 : Nat) : Rat) * (2 : Rat) ^ q * (2 : Rat) ^ (52 : Int) = (2 : Rat) ^ (q + 52) := by rw [p2_add]; simp
      rw [f4] at f3
      exact Rat.le_trans (p2_le (by omega)) f3
    · rw [normK_def, forceB_eq, ltF_is (abs_is h) is_least]
      simp only [hs, decide_true]
      rw [bindF_eq e1]
  · refine ⟨a, 0, .inl rfl, by simpa using h, ?_, fun R k => ?_⟩
    · simp only [Int.neg_zero, Rat.zpow_zero, Rat.mul_one]
      grind
    · rw [normK_def, forceB_eq, ltF_is (abs_is h) is_least]
      simp only [hs, decide_false]

theorem expo_eq {s : Bool} {E f : Nat} (hE : E ≤ 2046) (hf : f < 2 ^ 52) : andU (shrU ((((if s then 2 ^ 63 else 0) + E * 2 ^ 52 + f : Nat)) : Int) 52) 2047 = (E : Int) := by
  have h1 : ((if s then 2 ^ 63 else 0) + E * 2 ^ 52 + f) / 2 ^ 52 = (if s then 2048 else 0) + E := by
    cases s
    · simp only [Bool.false_eq_true, if_false]; omega
    · simp only [if_true]; omega
  rw [shrU_eq, h1]
  have h2 := andU_eq (a := (if s then 2048 else 0) + E) (b := 2047) (by split <;> omega) (by decide)
  have h3 : ((if s then 2048 else 0) + E) &&& 2047 = E := by
    have := Nat.and_two_pow_sub_one_eq_mod ((if s then 2048 else 0) + E) 11
    rw [show 2 ^ 11 - 1 = 2047 by decide] at this
    rw [this]
    cases s
    · simp only [Bool.false_eq_true, if_false]; omega
    · simp only [if_true]; omega
  rw [h3] at h2
  exact h2

theorem dv_band {s : Bool} {E f : Nat} (hf : f < 2 ^ 52) : (2 : Rat) ^ ((E : Int) - 1023) ≤ (dv s (2 ^ 52 + f) ((E : Int) - 1075)).abs ∧ (dv s (2 ^ 52 + f) ((E : Int) - 1075)).abs < (2 : Rat) ^ ((E : Int) - 1022) := by
  rw [dv_abs]
  have h1 : ((2 ^ 52 : Nat) : Rat) ≤ ((2 ^ 52 + f : Nat) : Rat) := nat_cast_le (by omega)
  have h2 : ((2 ^ 52 + f : Nat) : Rat) < ((2 ^ 53 : Nat) : Rat) := nat_cast_lt (by omega)
  have e1 : (2 : Rat) ^ ((52 : Nat) : Int) = ((2 ^ 52 : Nat) : Rat) := p2_nat 52
  have e2 : (2 : Rat) ^ ((53 : Nat) : Int) = ((2 ^ 53 : Nat) : Rat) := p2_nat 53
  have g1 := Rat.mul_le_mul_of_nonneg_right h1 (Rat.le_of_lt (p2_pos ((E : Int) - 1075)))
  have g2 := Rat.mul_lt_mul_of_pos_right h2 (p2_pos ((E : Int) - 1075))
  rw [← e1, ← p2_add, show ((52 : Nat) : Int) + ((E : Int) - 1075) = (E : Int) - 1023 by omega] at g1
  rw [← e2, ← p2_add, show ((53 : Nat) : Int) + ((E : Int) - 1075) = (E : Int) - 1022 by omega] at g2
  exact ⟨g1, g2⟩

/-- The power of two just above. -/
theorem frexpK_is {a : Nat} {x : Rat} (h : Is a x) (hx : x ≠ 0) : ∃ (w : Nat) (n : Int), (2 : Rat) ^ (n - 1) ≤ x.abs ∧ x.abs < (2 : Rat) ^ n ∧ -1100 ≤ n ∧ n ≤ 1024 ∧
    ∀ (R : Type) (k : Nat → Int → Option R), frexpK R a k = k w n := by
  obtain ⟨y, e, he, hy, hn, hk⟩ := normK_is h hx
  obtain ⟨s, E, f, rfl, b1, b2, b3, hv⟩ := normal_fields hy hn
  obtain ⟨d1, d2⟩ := dv_band (s := s) (E := E) b3
  rw [← hv, abs_mul, p2_abs] at d1 d2
  refine ⟨(orU (andNotU ((((if s then 2 ^ 63 else 0) + E * 2 ^ 52 + f : Nat)) : Int) 9218868437227405312) 4602678819172646912).toNat, e + (E - 1022), ?_, ?_, by omega, by omega, fun R k => ?_⟩
  · have := Rat.mul_le_mul_of_nonneg_right d1 (Rat.le_of_lt (p2_pos e))
    rw [← p2_add, Rat.mul_assoc, Rat.mul_comm ((2 : Rat) ^ (-e)), p2_cancel, Rat.mul_one, show (E : Int) - 1023 + e = e + (E - 1022) - 1 by omega] at this
    exact this
  · have := Rat.mul_lt_mul_of_pos_right d2 (p2_pos e)
    rw [← p2_add, Rat.mul_assoc, Rat.mul_comm ((2 : Rat) ^ (-e)), p2_cancel, Rat.mul_one, show (E : Int) - 1022 + e = e + (E - 1022) by omega] at this
    exact this
  · unfold frexpK frexpB
    have h0 : ¬ (x = ((0 : Int) : Rat)) := by simpa using hx
    rw [forceB_eq, eqF_is h is_zero]
    simp only [h0, decide_false]
    rw [isInfK_no h, forceB_eq]
    simp only
    rw [isNanK_no h, forceB_eq]
    simp only
    rw [hk]
    unfold frexpTail expoOf
    rw [expo_eq b2 b3]
    simp only [fiReal_fair R]
    rw [wrapI (n := (E : Int)) (by omega) (by omega), wrapI (n := (E : Int) - 1023) (by omega) (by omega), wrapI (n := (E : Int) - 1023 + 1) (by omega) (by omega)]
    rw [show (E : Int) - 1023 + 1 = (E : Int) - 1022 by omega, wrapI (by omega) (by omega)]
end Go.Vm
namespace Go.Vm
set_option linter.unusedVariables false

/-! ### What logarithms and angles compute -/
def logK : KFF := logB fiReal isInfPK frexpK oddK
def signK : KFB := signB fiReal
def minusK : KFB := minusB signK
def signedK : KFFF := signedB minusK absK
def angleK : KFFF := angleB absK isInfPK coreK minusK signedK
def powLogK : KCC := powLogB lengthK logK angleK
end Go.Vm
namespace Go.Vm
set_option linter.unusedVariables false

/-! ### Told at once: what is so is told ahead of the way, and the way goes on if it is -/
abbrev KC1 := ∀ R : Type, Nat → Nat → Option R → Option R
abbrev KF1 := ∀ R : Type, Nat → Option R → Option R
abbrev KFFF1 := ∀ R : Type, Nat → Nat → Nat → Option R → Option R
abbrev KE1 := ∀ R : Type, Int → Nat → Nat → Nat → Nat → Nat → Option R → Option R
abbrev KIF := ∀ R : Type, Int → (Nat → Option R) → Option R
abbrev KSd := ∀ R : Type, Int → Nat → Nat → Nat → Nat → Nat → Nat → Nat → Nat → Option R → Option R
def sCB1 (g : KC1) : Sum := fun R args k => match args with
  | [.complex .f64 a b] => g R a b (k (.bool true))
  | _ => none
def sFB1 (g : KF1) : Sum := fun R args k => match args with
  | [.float .f64 a] => g R a (k (.bool true))
  | _ => none
def sFFFB1 (g : KFFF1) : Sum := fun R args k => match args with
  | [.float .f64 a, .float .f64 b, .float .f64 c] => g R a b c (k (.bool true))
  | _ => none
def sEI1 (g : KE1) : Sum := fun R args k => match args with
  | [.agg ⟨[.int .u8 kind, .complex .f64 a1 a2, .complex .f64 s1 s2, .float .f64 p]⟩] => g R kind a1 a2 s1 s2 p (k (.int .i64 0))
  | _ => none
/-- a circle that may be -/
def sFit1 (g : KFFF1) : Sum := fun R args k => match args with
  | [.agg ⟨[.complex .f64 a b, .float .f64 c]⟩] => g R a b c (k (.bool true))
  | _ => none
/-- a Stream is nowhere, all else is told to be inside -/
def sSide (g : KSd) : Sum := fun R args k => match args with
  | [.agg ⟨[.int .u8 kind, .complex .f64 a1 a2, .complex .f64 s1 s2, .float .f64 p]⟩, .agg ⟨[.complex .f64 c1 c2, .float .f64 r]⟩] =>
    g R kind a1 a2 s1 s2 p c1 c2 r (bif kind == 1 then k (.int .i64 0) else k (.int .i64 (-1)))
  | _ => none
def sIF (g : KIF) : Sum := fun R args k => match args with
  | [.int .i64 n] => g R n fun x => k (.float .f64 x)
  | _ => none
/-- the rest by 1000 -/
def sMod (g : KFF) : Sum := fun R args k => match args with
  | [.float .f64 x, .float .f64 m] => bif Nat.beq m 4652007308841189376 then g R x fun y => k (.float .f64 y) else none
  | _ => none

/-! ### Read from what is there: three elements -/
abbrev KCl := ∀ R : Type, List Value → Nat → Nat → Nat → Bool → Option R → Option R
def sClean (g : KCl) : HSum := fun R args H k => match args with
  | [.agg ⟨[.slice (some ⟨b, o, none⟩) n c]⟩, .agg ⟨[.complex .f64 c1 c2, .float .f64 r]⟩, .bool t] =>
    bif Nat.beq o 0 && Nat.beq n 3 then
      match look b H.objs with
      | some (.cells cs sz) => g R cs c1 c2 r t (k (.int .i64 0))
      | _ => none
    else none
  | _ => none
def gtab : List (Nat × HSum) → FuncId → Option HSum
  | [], _ => none
  | (n, s) :: r, f => bif Nat.beq n f then some s else gtab r f
def cxg (fi : Fi) (P : Program) (l es : List (Nat × Sum)) (gl : List (Nat × HSum)) : Cx := { cxf fi P l es with gs := gtab gl }
end Go.Vm
namespace Go.Vm
set_option linter.unusedVariables false

/-! ### Exponentials and turns -/
def risingR {R : Type} (r : Nat) : List Nat → Nat → (Nat → Option R) → Option R
  | [], t, k => k t
  | d :: ds, t, k => bindF (fbF .mul r t) fun a => bindF (fbF .quo a d) fun b => bindF (fbF .add 4607182418800017408 b) fun t => risingR r ds t k
def risingL : List Nat := [4623507967449235456, 4622945017495814144, 4622382067542392832, 4621819117588971520, 4621256167635550208, 4620693217682128896, 4619567317775286272, 4618441417868443648, 4617315517961601024, 4616189618054758400, 4613937818241073152, 4611686018427387904, 4607182418800017408]
def risingK : KFF := fun R r k => risingR r risingL 4607182418800017408 k
def sRising (g : KFF) : Sum := fun R args k => match args with
  | [.float .f64 r, .int .i64 j] => bif j == 1 then g R r fun x => k (.float .f64 x) else none
  | _ => none
def expB (fi : Fi) (wh ris : KFF) (scal : KFIF) : KFF := fun R x k => forceB (neF x x) fun t => match t with
  | true => k x
  | false => forceB (gtF x 4649454594685214392) fun t => match t with
    | true => k 9218868437227405312
    | false => forceB (ltF x 13873137573428325253) fun t => match t with
      | true => k 0
      | false => bindF (fbF .mul x 4609176140021203710) fun y => wh R y fun n => bindF (fbF .mul n 4604418534311723008) fun a => bindF (fbF .sub x a) fun b => bindF (fbF .mul n 4461442080421002358) fun c =>
          bindF (fbF .sub b c) fun r => ris R r fun t => (floatToIntVal .f64 n .i64).bind fun i => fi R i fun i => scal R t i k
abbrev KFFI2 := ∀ R : Type, Nat → (Nat → Int → Option R) → Option R
def lessK : KFFF := fun R x m k => bindF (fbF .mul m 4609753056924401664) fun a => bindF (fbF .sub x a) fun x => bindF (fbF .mul m 4454258360616747008) fun a => bindF (fbF .sub x a) fun x =>
  bindF (fbF .mul m 4297306550709518336) fun a => bindF (fbF .sub x a) k
def sLess (g : KFFF) : Sum := fun R args k => match args with
  | [.float .f64 x, .float .f64 m, .float .f64 t] => bif Nat.beq t 4607182418800017408 then g R x m fun x => k (.float .f64 x) else none
  | _ => none
def quarterB (fi : Fi) (fit : KFB) (wh : KFF) (ls : KFFF) : KFFI2 := fun R x k => fit R x fun t => forceB t fun t => match t with
  | false => none
  | true => bindF (fbF .mul x 4603909380684499075) fun y => wh R y fun m => forceB (eqF m 0) fun t => match t with
    | true => k x 0
    | false => ls R x m fun r => (floatToIntVal .f64 m .i64).bind fun n => fi R n fun n => k r (andI n 3)
def turnB (q : KFFI2) (st : KFF2) : KFF2 := fun R x k => q R x fun y n => st R y fun s c => forceB (n == 3) fun t => match t with
  | true => forceN (Op.negFloat .f64 s) fun s1 => forceN (Op.negFloat .f64 c) fun c1 => forceN (Op.negFloat .f64 s1) fun s2 => k c1 s2
  | false => forceB (n == 1) fun t => match t with
    | true => forceN (Op.negFloat .f64 s) fun s2 => k c s2
    | false => forceB (n == 2) fun t => match t with
      | true => forceN (Op.negFloat .f64 s) fun s1 => forceN (Op.negFloat .f64 c) fun c1 => k s1 c1
      | false => k s c
def cexpB (ex : KFF) (tn : KFF2) : KCC := fun R a b k => ex R a fun e => forceB (eqF b 0) fun t => match t with
  | true => k e b
  | false => tn R b fun s c => bindF (fbF .mul e c) fun x => bindF (fbF .mul e s) fun y => k x y
def realB (lg : KCC) (scl : KCFC) (ex : KCC) : KCFC := fun R a b p k => forceB (eqF p 0) fun t => match t with
  | true => k 4607182418800017408 0
  | false => lg R a b fun x y => scl R x y p fun u v => ex R u v k

/-! ### Whole powers -/
abbrev KW := ∀ R : Type, Nat → Nat → Int → (Nat → Nat → Option R) → Option R
def sKW (g : KW) : Sum := fun R args k => match args with
  | [.complex .f64 a b, .int .i64 n] => g R a b n fun x y => k (.complex .f64 x y)
  | _ => none
/-- the bits below the first: the steps of a power -/
def wsteps {R : Type} (mul : KCCC) (a b : Nat) : List Bool → Nat → Nat → (Nat → Nat → Option R) → Option R
  | [], x, y, k => k x y
  | t :: ts, x, y, k => mul R x y x y fun x y => match t with
    | true => mul R x y a b fun x y => wsteps mul a b ts x y k
    | false => wsteps mul a b ts x y k
def wbits : Nat → List Bool
  | 2 => [false] | 3 => [true] | 4 => [false, false] | 5 => [false, true] | 6 => [true, false] | 7 => [true, true] | 8 => [false, false, false] | 9 => [false, false, true] | 10 => [false, true, false] | _ => []

/-! ### What an element's value is, by its kind -/
abbrev KLeaf := ∀ R : Type, Nat → Nat → Nat → Nat → Nat → Nat → (Nat → Nat → Option R) → Option R
/-- the frame: er tells an error, pre is asked ahead of the way, leaf is reached with the way from the element -/
def valP (chk : KEI) (re no : KCB) (sub : KCCC) (kind : Int) (p : Nat) {R : Type} (pre : Option R → Option R) (a1 a2 s1 s2 z1 z2 : Nat) (er : Int → Option R) (at0 leaf : Nat → Nat → Option R) : Option R :=
  chk R kind a1 a2 s1 s2 p fun e => match decide (e = 0) with
    | false => er e
    | true => re R z1 z2 fun t => forceB t fun t => match t with
      | false => er 5
      | true => pre (sub R z1 z2 a1 a2 fun d1 d2 => no R d1 d2 fun t => forceB t fun t => match t with
        | true => at0 d1 d2
        | false => leaf d1 d2)
/-- of a source -/
def valO (chk : KEI) (re no : KCB) (sub : KCCC) (scl : KCFC) {R : Type} (a1 a2 s1 s2 p z1 z2 : Nat) (er : Int → Option R) (leaf : Nat → Nat → Nat → Nat → Option R) : Option R :=
  chk R 2 a1 a2 s1 s2 p fun e => match decide (e = 0) with
    | false => er e
    | true => re R z1 z2 fun t => forceB t fun t => match t with
      | false => er 5
      | true => scl R s1 s2 4594902181429758083 fun c1 c2 => sub R z1 z2 a1 a2 fun d1 d2 => no R d1 d2 fun t => forceB t fun t => match t with
        | true => er 6
        | false => leaf c1 c2 d1 d2
/-- whole, told at once -/
def sWhY (g : ∀ R : Type, Nat → Option R → Option R) : Sum := fun R args k => match args with
  | [.float .f64 p] => g R p (k (.bool true))
  | _ => none
/-- not whole, told at once -/
def sWhN (g : ∀ R : Type, Nat → Option R → Option R) : Sum := fun R args k => match args with
  | [.float .f64 p] => g R p (k (.bool false))
  | _ => none
def leafD (div : KCCC) (scl : KCFC) (W : KW) (times : Option Nat) (n : Int) {R : Type} (s1 s2 d1 d2 : Nat) (k : Nat → Nat → Option R) : Option R :=
  match times with
  | none => W R d1 d2 n fun w1 w2 => div R s1 s2 w1 w2 k
  | some f => scl R s1 s2 f fun s1 s2 => W R d1 d2 n fun w1 w2 => div R s1 s2 w1 w2 k
def leafC (mul : KCCC) (scl : KCFC) (W : KW) (times : Option Nat) (n : Int) {R : Type} (s1 s2 d1 d2 : Nat) (k : Nat → Nat → Option R) : Option R :=
  match times with
  | none => W R d1 d2 n fun w1 w2 => mul R s1 s2 w1 w2 k
  | some f => scl R s1 s2 f fun s1 s2 => W R d1 d2 n fun w1 w2 => mul R s1 s2 w1 w2 k
def leafB0 (mul : KCCC) (real : KCFC) {R : Type} (p s1 s2 d1 d2 : Nat) (k : Nat → Nat → Option R) : Option R := real R d1 d2 p fun w1 w2 => mul R s1 s2 w1 w2 k
def leafB1 (mul : KCCC) (scl real : KCFC) {R : Type} (p s1 s2 d1 d2 : Nat) (k : Nat → Nat → Option R) : Option R :=
  scl R s1 s2 p fun s1 s2 => bindF (fbF .sub p 4607182418800017408) fun q => real R d1 d2 q fun w1 w2 => mul R s1 s2 w1 w2 k
def leafB2 (mul : KCCC) (scl real : KCFC) {R : Type} (p s1 s2 d1 d2 : Nat) (k : Nat → Nat → Option R) : Option R :=
  bindF (fbF .sub p 4607182418800017408) fun q => bindF (fbF .mul p q) fun f => scl R s1 s2 f fun s1 s2 => bindF (fbF .sub p 4611686018427387904) fun q => real R d1 d2 q fun w1 w2 => mul R s1 s2 w1 w2 k
/-- a broken power at its own place -/
def midB {R : Type} (n p : Nat) (er : Int → Option R) : Option R := forceB (ltF p n) fun t => match t with | true => er 6 | false => er 0
end Go.Vm
namespace Go.Vm
set_option linter.unusedVariables false

/-! ### ElementMoved -/
abbrev KVal := ∀ R : Type, Int → Nat → Nat → Nat → Nat → Nat → Nat → Nat → (Nat → Nat → Int → Option R) → Option R
def sVal (g : KVal) : Sum := fun R args k => match args with
  | [.agg ⟨[.int .u8 kind, .complex .f64 a1 a2, .complex .f64 s1 s2, .float .f64 p]⟩, .complex .f64 z1 z2] => g R kind a1 a2 s1 s2 p z1 z2 fun x y e => k (.tuple ⟨[.complex .f64 x y, .int .i64 e]⟩)
  | _ => none
abbrev KMov := ∀ R : Type, Int → Nat → Nat → Nat → Nat → Nat → Nat → Nat → (Int → Option R) → (Nat → Nat → Option R) → Option R
def sMov (g : KMov) : Sum := fun R args k => match args with
  | [.agg ⟨[.int .u8 kind, .complex .f64 a1 a2, .complex .f64 s1 s2, .float .f64 p]⟩, .complex .f64 b1 b2] =>
    g R kind a1 a2 s1 s2 p b1 b2 (fun e => k (.tuple ⟨[el 0 0 0 0 0 0, .int .i64 e]⟩)) (fun u1 u2 => k (.tuple ⟨[el kind u1 u2 s1 s2 p, .int .i64 0]⟩))
  | _ => none
def movB (chk : KEI) (re : KCB) (add : KCCC) : KMov := fun R kind a1 a2 s1 s2 p b1 b2 er ok =>
  chk R kind a1 a2 s1 s2 p fun e => match decide (e = 0) with
    | false => er e
    | true => re R b1 b2 fun t => forceB t fun t => match t with
      | false => er 5
      | true => forceB (kind == 1) fun t => match t with
        | true => ok a1 a2
        | false => add R a1 a2 b1 b2 fun u1 u2 => chk R kind u1 u2 s1 s2 p fun e => match decide (e = 0) with
          | false => er e
          | true => ok u1 u2
def gz (x y : Int) : Value := .agg ⟨[.int .i16 x, .int .i16 y]⟩
def sSm (g : KGB) : Sum := fun R args k => match args with
  | [.agg ⟨[.int .i16 x, .int .i16 y]⟩] => g R x y fun t => forceB t fun t => k (.bool t)
  | _ => none
def bitsB : ∀ R : Type, Nat → (Int → Option R) → Option R := fun R a k => forceB (neF a a) fun t => match t with
  | true => k 9221120237041090560
  | false => fiReal R (a : Int) k
def sameB : KCCB := fun R a b c d k => bitsB R a fun x => bitsB R c fun y => forceB (x == y) fun t => match t with
  | false => k false
  | true => bitsB R b fun x => bitsB R d fun y => forceB (x == y) fun t => k t

def finM (mul : KCCC) {R : Type} (f : Int) (p1 p2 v1 v2 : Nat) (k : Bool → Option R) : Option R := forceB (f == 0) fun t => match t with
  | false => k false
  | true => forceB (eqF v1 p1) fun s => forceB (eqF v2 p2) fun t => k (s && t)
def tailM (of : KGC) (sub mul : KCCC) {R : Type} (kind x3 y3 : Int) (a1 a2 s1 s2 p : Nat) (f : Int) (p1 p2 : Nat) (k : Bool → Option R) : Option R :=
  of R x3 y3 fun z1 z2 => sub R z1 z2 a1 a2 fun d1 d2 => forceB (kind != 4) fun t => match t with
  | true => k true
  | false =>
    let go1 : Option R := mul R s1 s2 d1 d2 fun v1 v2 => forceB (eqF p 4611686018427387904) fun t => match t with
      | true => mul R v1 v2 d1 d2 fun v1 v2 => finM mul f p1 p2 v1 v2 k
      | false => finM mul f p1 p2 v1 v2 k
    forceB (neF p 4607182418800017408) fun t => match t with
    | true => forceB (neF p 4611686018427387904) fun t => match t with
      | true => k true
      | false => go1
    | false => go1
def lawMB (of : KGC) (sm : KGB) (chk : KEI) (mov : KMov) (add sub mul : KCCC) (pot spd slp : KVal) (same : KCCB) {R : Type} (kind x1 y1 x2 y2 x3 y3 x4 y4 : Int) (p : Nat) (k : Bool → Option R) : Option R :=
  of R x1 y1 fun a1 a2 => of R x2 y2 fun s1 s2 =>
  sm R x1 y1 fun t => forceB t fun t => match t with
  | false => k true
  | true => sm R x2 y2 fun t => forceB t fun t => match t with
    | false => k true
    | true => sm R x3 y3 fun t => forceB t fun t => match t with
      | false => k true
      | true => sm R x4 y4 fun t => forceB t fun t => match t with
        | false => k true
        | true => chk R kind a1 a2 s1 s2 p fun e => match decide (e = 0) with
          | false => k true
          | true => of R x4 y4 fun b1 b2 => mov R kind a1 a2 s1 s2 p b1 b2 (fun e => forceB (e != 0) fun t => match t with | true => k false | false => none) fun u1 u2 =>
            of R x3 y3 fun z1 z2 => of R x4 y4 fun b1 b2 => add R z1 z2 b1 b2 fun w1 w2 =>
            of R x3 y3 fun z1 z2 => pot R kind a1 a2 s1 s2 p z1 z2 fun p1 p2 f => pot R kind u1 u2 s1 s2 p w1 w2 fun q1 q2 g =>
            of R x3 y3 fun z1 z2 => spd R kind a1 a2 s1 s2 p z1 z2 fun c1 c2 h => spd R kind u1 u2 s1 s2 p w1 w2 fun v1 v2 i =>
            of R x3 y3 fun z1 z2 => slp R kind a1 a2 s1 s2 p z1 z2 fun l1 l2 j => slp R kind u1 u2 s1 s2 p w1 w2 fun t1 t2 l =>
            forceB (h != i) fun t => match t with
            | true => k false
            | false => forceB (j != l) fun t => match t with
              | true => k false
              | false => same R c1 c2 v1 v2 fun t => forceB t fun t => match t with
                | false => k false
                | true => same R l1 l2 t1 t2 fun t => forceB t fun t => match t with
                  | false => k false
                  | true => forceB (kind != 1) fun t => match t with
                    | false => tailM of sub mul kind x3 y3 a1 a2 s1 s2 p f p1 p2 k
                    | true => forceB (f != g) fun t => match t with
                      | true => k false
                      | false => same R p1 p2 q1 q2 fun t => forceB t fun t => match t with
                        | false => k false
                        | true => tailM of sub mul kind x3 y3 a1 a2 s1 s2 p f p1 p2 k
def sTrueE : Sum := fun R args k => match args with | [] => k (.bool true) | _ => none
end Go.Vm
namespace Go.Vm
set_option linter.unusedVariables false
set_option linter.unusedSimpArgs false

/-! ### Great lists: how they are read and written -/
abbrev GC := ∀ R : Type, List Value → Nat → (Nat → Nat → Option R) → Option R
abbrev GF := ∀ R : Type, List Value → Nat → (Nat → Option R) → Option R
abbrev GI := ∀ R : Type, List Value → Nat → (Int → Option R) → Option R
abbrev GII := ∀ R : Type, List Value → Nat → (Int → Int → Option R) → Option R
abbrev GEl := ∀ R : Type, List Value → Nat → (Int → Nat → Nat → Nat → Nat → Nat → Option R) → Option R
abbrev GV := ∀ R : Type, List Value → Nat → (Value → Option R) → Option R
def gC (g : GC) : Ld := fun R cs off k => g R cs off fun a b => k (.complex .f64 a b)
def gF (g : GF) : Ld := fun R cs off k => g R cs off fun a => k (.float .f64 a)
def gI (kk : IntKind) (g : GI) : Ld := fun R cs off k => g R cs off fun n => k (.int kk n)
def gII (kk : IntKind) (g : GII) : Ld := fun R cs off k => g R cs off fun m n => k (.agg ⟨[.int kk m, .int kk n]⟩)
def elV (kind : Int) (a1 a2 s1 s2 p : Nat) : Value := .agg ⟨[.int .u8 kind, .complex .f64 a1 a2, .complex .f64 s1 s2, .float .f64 p]⟩
def gEl (g : GEl) : Ld := fun R cs off k => g R cs off fun kind a1 a2 s1 s2 p => k (elV kind a1 a2 s1 s2 p)
/- the real ones -/
def rC : GC := fun R cs off k => match cs[off]? with | some (.complex .f64 a b) => k a b | _ => none
def rF : GF := fun R cs off k => match cs[off]? with | some (.float .f64 a) => k a | _ => none
def rI (kk : IntKind) : GI := fun R cs off k => match cs[off]? with | some (.int kk' n) => bif decide (kk' = kk) then k n else none | _ => none
def rII (kk : IntKind) : GII := fun R cs off k => match cs.drop off with | .int k1 m :: .int k2 n :: _ => bif decide (k1 = kk) && decide (k2 = kk) then k m n else none | _ => none
def rEl : GEl := fun R cs off k => match cs.drop off with | .int .u8 kind :: .complex .f64 a1 a2 :: .complex .f64 s1 s2 :: .float .f64 p :: _ => k kind a1 a2 s1 s2 p | _ => none
def OneCell (P : Program) (t : TypeId) : Prop := ∀ (R : Type) (cs : List Value) (off : Nat) (k : Value → Option R), loadE P t cs off k = (cs[off]?).bind k
def MoreCells (P : Program) (t : TypeId) (n : Nat) : Prop := ∀ (R : Type) (cs : List Value) (off : Nat) (k : Value → Option R), loadE P t cs off k = bif Nat.ble (off + n) cs.length && true then k (.agg ⟨(cs.drop off).take n⟩) else none
theorem ldC_ok {P : Program} {t : TypeId} (h : OneCell P t) : LdOk P t (gC rC) := fun R cs off k r hr => by
  unfold gC rC at hr
  split at hr
  · rename_i a b hc
    exact ⟨_, hr, fun R' k' => by rw [h, hc]; rfl⟩
  · cases hr
theorem ldF_ok {P : Program} {t : TypeId} (h : OneCell P t) : LdOk P t (gF rF) := fun R cs off k r hr => by
  unfold gF rF at hr
  split at hr
  · rename_i a hc
    exact ⟨_, hr, fun R' k' => by rw [h, hc]; rfl⟩
  · cases hr
theorem ldI_ok {P : Program} {t : TypeId} {kk : IntKind} (h : OneCell P t) : LdOk P t (gI kk (rI kk)) := fun R cs off k r hr => by
  unfold gI rI at hr
  split at hr
  · rename_i k1 n hc
    by_cases hk : k1 = kk
    · rw [decide_eq_true hk] at hr
      subst hk
      exact ⟨_, hr, fun R' k' => by rw [h, hc]; rfl⟩
    · rw [decide_eq_false hk] at hr; cases hr
  · cases hr
theorem more_len {cs l r : List Value} {off : Nat} (hc : cs.drop off = l ++ r) (hne : 0 < l.length) : Nat.ble (off + l.length) cs.length = true ∧ (cs.drop off).take l.length = l := by
  have h1 := congrArg List.length hc
  rw [List.length_drop, List.length_append] at h1
  refine ⟨ble_eq_of (by omega), ?_⟩
  rw [hc, List.take_left]
theorem ldII_ok {P : Program} {t : TypeId} {kk : IntKind} (h : MoreCells P t 2) : LdOk P t (gII kk (rII kk)) := fun R cs off k r hr => by
  unfold gII rII at hr
  split at hr
  · rename_i k1 m k2 n rest hc
    by_cases hk : k1 = kk ∧ k2 = kk
    · obtain ⟨e1, e2⟩ := hk
      subst e1 e2
      simp only [decide_true, Bool.and_self, cond_true] at hr
      obtain ⟨g1, g2⟩ := more_len (l := [.int _ m, .int _ n]) (r := rest) hc (by simp)
      refine ⟨_, hr, fun R' k' => ?_⟩
      simp only [List.length_cons, List.length_nil] at g1 g2
      rw [h, g1, g2]; rfl
    · cases hd : (decide (k1 = kk) && decide (k2 = kk)) with
      | true => simp only [Bool.and_eq_true, decide_eq_true_eq] at hd; exact absurd hd hk
      | false => rw [hd] at hr; cases hr
  · cases hr
theorem ldEl_ok {P : Program} {t : TypeId} (h : MoreCells P t 4) : LdOk P t (gEl rEl) := fun R cs off k r hr => by
  unfold gEl rEl at hr
  split at hr
  · rename_i kind a1 a2 s1 s2 p rest hc
    obtain ⟨g1, g2⟩ := more_len (l := [.int .u8 kind, .complex .f64 a1 a2, .complex .f64 s1 s2, .float .f64 p]) (r := rest) hc (by simp)
    refine ⟨_, hr, fun R' k' => ?_⟩
    simp only [List.length_cons, List.length_nil] at g1 g2
    rw [h, g1, g2]; rfl
  · cases hr
def rSt : St := fun R cs off vs k => bif Nat.ble (off + vs.length) cs.length then k (splice cs off vs) else none
theorem rSt_ok : StOk rSt := fun R cs off vs k r h => by
  unfold rSt at h
  cases hb : Nat.ble (off + vs.length) cs.length with
  | false => rw [hb] at h; cases h
  | true => rw [hb] at h; rw [Nat.ble_eq] at hb; exact ⟨hb, h⟩
def rAp (P : Program) : Ap := fun R t cs n c cx off m k =>
  match P.underlying t with
  | some (.slice e) =>
    match P.info? e with
    | some i =>
      match i.zero with
      | some z =>
        bif Nat.blt 0 i.size && Nat.beq z.cells.size i.size && Nat.beq c n && Nat.blt 0 m && Nat.ble ((n + m) * i.bytes) 140737488355328 && Nat.ble (n + m) 1099511627776 && Nat.beq cs.length (n * i.size) && Nat.beq ((cx.drop off).take (m * i.size)).length (m * i.size) && allOne ((cx.drop off).take (m * i.size)) then
          k (cs ++ (cx.drop off).take (m * i.size))
        else none
      | none => none
    | none => none
  | _ => none
theorem rAp_ok (P : Program) : ApOk P (rAp P) := fun R t cs n c cx off m k r h => by
  unfold rAp at h
  split at h
  case h_2 => cases h
  rename_i e hu
  split at h
  case h_2 => cases h
  rename_i i hi
  split at h
  case h_2 => cases h
  rename_i z hz
  cases hb : (Nat.blt 0 i.size && Nat.beq z.cells.size i.size && Nat.beq c n && Nat.blt 0 m && Nat.ble ((n + m) * i.bytes) 140737488355328 && Nat.ble (n + m) 1099511627776 && Nat.beq cs.length (n * i.size) && Nat.beq ((cx.drop off).take (m * i.size)).length (m * i.size) && allOne ((cx.drop off).take (m * i.size))) with
  | false => rw [hb] at h; cases h
  | true =>
    rw [hb] at h
    simp only [Bool.and_eq_true] at hb
    obtain ⟨⟨⟨⟨⟨⟨⟨⟨b1, b2⟩, b3⟩, b4⟩, b5⟩, b6⟩, b7⟩, b8⟩, b9⟩ := hb
    rw [Nat.blt_eq] at b1 b4
    rw [Nat.ble_eq] at b5 b6
    exact ⟨e, i, z, hu, hi, hz, b1, Nat.eq_of_beq_eq_true b2, Nat.eq_of_beq_eq_true b3, b4, b5, b6, Nat.eq_of_beq_eq_true b7, Nat.eq_of_beq_eq_true b8, b9, h⟩
def ltab : List (Nat × Ld) → TypeId → Option Ld
  | [], _ => none
  | (n, s) :: r, f => bif Nat.beq n f then some s else ltab r f
def mtab : List (Nat × MSum) → FuncId → Option MSum
  | [], _ => none
  | (n, s) :: r, f => bif Nat.beq n f then some s else mtab r f
inductive LdsOk (P : Program) : List (Nat × Ld) → Prop
  | nil : LdsOk P []
  | cons {t : Nat} {g : Ld} {r : List (Nat × Ld)} (h : LdOk P t g) (hs : LdsOk P r) : LdsOk P ((t, g) :: r)
theorem lds_ok {P : Program} {t : Nat} {g : Ld} : ∀ {l : List (Nat × Ld)}, LdsOk P l → ltab l t = some g → LdOk P t g
  | _, .nil, h => by cases h
  | (u, s) :: r, .cons h hs, hg => by
    unfold ltab at hg
    cases hb : Nat.beq u t with
    | true =>
      rw [hb] at hg
      cases hg
      have := Nat.eq_of_beq_eq_true hb
      subst this
      exact h
    | false => rw [hb] at hg; exact lds_ok hs hg
/-- below lim the lists are great -/
def mmOf (lim : Nat → Bool) (ld : List (Nat × Ld)) (st : St) (ap : Ap) : Mm := ⟨lim, ltab ld, st, ap⟩
theorem mmOf_ok {P : Program} {lim : Nat → Bool} {ld : List (Nat × Ld)} (h : LdsOk P ld) : (mmOf lim ld rSt (rAp P)).Ok P := ⟨fun t g hg => lds_ok h hg, rSt_ok, rAp_ok P⟩
inductive GsOk (P : Program) : List (Nat × HSum) → Prop
  | nil : GsOk P []
  | cons {f : Nat} {g : HSum} {r : List (Nat × HSum)} (h : HSumOk P f g) (hf : Has P f) (hs : GsOk P r) : GsOk P ((f, g) :: r)
theorem gs_ok {P : Program} {f : Nat} {g : HSum} : ∀ {l : List (Nat × HSum)}, GsOk P l → gtab l f = some g → HSumOk P f g ∧ Has P f
  | _, .nil, h => by cases h
  | (u, s) :: r, .cons h hf hs, hg => by
    unfold gtab at hg
    cases hb : Nat.beq u f with
    | true =>
      rw [hb] at hg
      cases hg
      have := Nat.eq_of_beq_eq_true hb
      subst this
      exact ⟨h, hf⟩
    | false => rw [hb] at hg; exact gs_ok hs hg
inductive MsOk (P : Program) : List (Nat × MSum) → Prop
  | nil : MsOk P []
  | cons {f : Nat} {g : MSum} {r : List (Nat × MSum)} (h : MSumOk P f g) (hf : Has P f) (hs : MsOk P r) : MsOk P ((f, g) :: r)
theorem ms_ok {P : Program} {f : Nat} {g : MSum} : ∀ {l : List (Nat × MSum)}, MsOk P l → mtab l f = some g → MSumOk P f g ∧ Has P f
  | _, .nil, h => by cases h
  | (u, s) :: r, .cons h hf hs, hg => by
    unfold mtab at hg
    cases hb : Nat.beq u f with
    | true =>
      rw [hb] at hg
      cases hg
      have := Nat.eq_of_beq_eq_true hb
      subst this
      exact ⟨h, hf⟩
    | false => rw [hb] at hg; exact ms_ok hs hg
/-- the context of functions that go over great lists -/
def cxM (fi : Fi) (P : Program) (meths : TypeId → String → Option FuncId) (l es : List (Nat × Sum)) (gl : List (Nat × HSum)) (ml : List (Nat × MSum)) (M : Mm) : Cx :=
  { P := P, sums := tab l, exts := tab es, meths := meths, wild := fun _ => false, fi := fi, nn := false, nan1 := fun _ => false, defs := fun _ => false, hs := fun _ _ _ => none, gs := gtab gl, mg := mtab ml, mm := some M }
theorem cxM_ok {P : Program} {meths : TypeId → String → Option FuncId} (hm : ∀ t s f, meths t s = some f → ∀ v w, (method (P.types.size + Made.depth) t v s).run P w = .ok (f, v) w) {l es : List (Nat × Sum)} (hl : AllOk P l) (he : ∀ f g, tab es f = some g → ExtOk P f g)
    {gl : List (Nat × HSum)} (hg : GsOk P gl) {ml : List (Nat × MSum)} (hml : MsOk P ml) {M : Mm} (hM : M.Ok P) : (cxM fiReal P meths l es gl ml M).Ok where
  fair := fiReal_fair
  sums := fun f g hg => tab_ok hl f g hg
  exts := he
  meths := hm
  hs := fun f args H v h => by cases h
  nan1 := fun f hf => by cases hf
  gs := fun f g h => gs_ok hg h
  ms := fun f args H p h => by cases h
  mg := fun f g h => ms_ok hml h
  mm := fun M' h => by cases h; exact hM
/-- a loop's code, and what is left of a code behind -/
def seqN : Nat → Code → Code
  | 0, c => c
  | n + 1, c => seqN n (seqB c)
end Go.Vm
