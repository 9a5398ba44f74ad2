/- Sums and products of whole words are exact below 2 to the 53; no conditions. -/
import Derived.Test.YtnbpfafngidimaaGreatVmKG
namespace Go.Vm
open Ieee
set_option linter.unusedVariables false
set_option linter.unusedSimpArgs false

/-! ### Exact whole numbers -/
theorem bindF_eq {R : Type} {o : Option Nat} {n : Nat} {k : Nat → Option R} (h : o = some n) : bindF o k = k n := by subst h; simp [bindF, forceN_eq]

theorem lt_1023 {x : Rat} {n : Nat} (h : x.abs < (2 : Rat) ^ (n : Int)) (hn : n ≤ 1023) : x.abs < (2 : Rat) ^ (1023 : Int) := by
  have := p2_le (show (n : Int) ≤ 1023 by omega)
  grind

theorem int_abs_lt {n : Int} (h : n.natAbs < 2 ^ 53) : ((n : Rat)).abs < (2 : Rat) ^ (1023 : Int) := by
  have h1 : ((n : Rat)).abs = ((n.natAbs : Nat) : Rat) := by
    have := dv_abs (decide (n < 0)) n.natAbs 0
    rw [int_dv n (decide (n < 0)) 0 fun _ => rfl] at this
    simpa using this
  rw [h1]
  have h2 : ((n.natAbs : Nat) : Rat) < ((2 ^ 53 : Nat) : Rat) := nat_cast_lt h
  have h3 : (2 : Rat) ^ (53 : Int) = ((2 ^ 53 : Nat) : Rat) := p2_nat 53
  have h4 : (2 : Rat) ^ (53 : Int) ≤ (2 : Rat) ^ (1023 : Int) := p2_le (by decide)
  grind

theorem rnd_int {n : Int} {z : Rat} (h : n.natAbs < 2 ^ 53) (hr : Rnd (n : Rat) z) : z = n := hr.rep n 0 h (by decide) (by simp)

theorem add_int {a b : Nat} {x y : Int} (ha : Is a x) (hb : Is b y) (h : (x + y).natAbs < 2 ^ 53) : ∃ r, floatBits .add .f64 a b = some r ∧ Is r ((x + y : Int) : Rat) := by
  have e : ((x + y : Int) : Rat) = (x : Rat) + y := by push_cast; rfl
  obtain ⟨r, z, h1, h2, h3⟩ := add_is ha hb (by rw [← e]; exact int_abs_lt h)
  rw [← e] at h3
  rw [rnd_int h h3] at h2
  exact ⟨r, h1, h2⟩
theorem sub_int {a b : Nat} {x y : Int} (ha : Is a x) (hb : Is b y) (h : (x - y).natAbs < 2 ^ 53) : ∃ r, floatBits .sub .f64 a b = some r ∧ Is r ((x - y : Int) : Rat) := by
  have e : ((x - y : Int) : Rat) = (x : Rat) - y := by push_cast; rfl
  obtain ⟨r, z, h1, h2, h3⟩ := sub_is ha hb (by rw [← e]; exact int_abs_lt h)
  rw [← e] at h3
  rw [rnd_int h h3] at h2
  exact ⟨r, h1, h2⟩
theorem mul_int {a b : Nat} {x y : Int} (ha : Is a x) (hb : Is b y) (h : (x * y).natAbs < 2 ^ 53) : ∃ r, floatBits .mul .f64 a b = some r ∧ Is r ((x * y : Int) : Rat) := by
  have e : ((x * y : Int) : Rat) = (x : Rat) * y := by push_cast; rfl
  obtain ⟨r, z, h1, h2, h3⟩ := mul_is ha hb (by rw [← e]; exact int_abs_lt h)
  rw [← e] at h3
  rw [rnd_int h h3] at h2
  exact ⟨r, h1, h2⟩

theorem is_zero : Is 0 ((0 : Int) : Rat) := ⟨by decide, false, 0, -1074, by decide, dv_zero _ _⟩

theorem eqF_is {a b : Nat} {x y : Rat} (ha : Is a x) (hb : Is b y) : eqF a b = decide (x = y) := by
  unfold eqF
  rw [order_is ha hb]
  by_cases h1 : x < y
  · have : ¬ x = y := by grind
    simp [h1, this]
  · by_cases h2 : x = y
    · subst h2
      simp [h1]
    · simp [h1, h2]
theorem neF_is {a b : Nat} {x y : Rat} (ha : Is a x) (hb : Is b y) : neF a b = !decide (x = y) := by
  rw [← eqF_is ha hb]; unfold neF eqF; rfl
theorem leF_is {a b : Nat} {x y : Rat} (ha : Is a x) (hb : Is b y) : leF a b = decide (x ≤ y) := by
  unfold leF
  rw [order_is ha hb]
  by_cases h1 : x < y
  · have : x ≤ y := by grind
    simp [h1, this]
  · by_cases h2 : x = y
    · subst h2
      simp [h1]
    · have : ¬ x ≤ y := by grind
      simp [h1, h2, this]

theorem int_eq_iff {x y : Int} : ((x : Rat) = (y : Rat)) ↔ x = y := by
  constructor
  · intro h; exact_mod_cast h
  · rintro rfl; rfl

/-- A complex number of whole parts. -/
def IsC (a b : Nat) (x y : Int) : Prop := Is a x ∧ Is b y

theorem addK_int {a b c d : Nat} {x y u v : Int} (h1 : IsC a b x y) (h2 : IsC c d u v) (b1 : (x + u).natAbs < 2 ^ 53) (b2 : (y + v).natAbs < 2 ^ 53) :
    ∃ p q, IsC p q (x + u) (y + v) ∧ ∀ (R : Type) (k : Nat → Nat → Option R), addK R a b c d k = k p q := by
  obtain ⟨p, e1, g1⟩ := add_int h1.1 h2.1 b1
  obtain ⟨q, e2, g2⟩ := add_int h1.2 h2.2 b2
  exact ⟨p, q, ⟨g1, g2⟩, fun R k => by unfold addK; rw [bindF_eq e1, bindF_eq e2]⟩
theorem subK_int {a b c d : Nat} {x y u v : Int} (h1 : IsC a b x y) (h2 : IsC c d u v) (b1 : (x - u).natAbs < 2 ^ 53) (b2 : (y - v).natAbs < 2 ^ 53) :
    ∃ p q, IsC p q (x - u) (y - v) ∧ ∀ (R : Type) (k : Nat → Nat → Option R), subK R a b c d k = k p q := by
  obtain ⟨p, e1, g1⟩ := sub_int h1.1 h2.1 b1
  obtain ⟨q, e2, g2⟩ := sub_int h1.2 h2.2 b2
  exact ⟨p, q, ⟨g1, g2⟩, fun R k => by unfold subK; rw [bindF_eq e1, bindF_eq e2]⟩

theorem natAbs_mul_le {x u : Int} {p q : Nat} (h1 : x.natAbs ≤ p) (h2 : u.natAbs ≤ q) : (x * u).natAbs ≤ p * q := by
  rw [Int.natAbs_mul]; exact Nat.mul_le_mul h1 h2

theorem mulK_int {a b c d : Nat} {x y u v : Int} {p q : Nat} (h1 : IsC a b x y) (h2 : IsC c d u v) (bx : x.natAbs ≤ p) (by' : y.natAbs ≤ p) (bu : u.natAbs ≤ q) (bv : v.natAbs ≤ q) (hb : 2 * (p * q) < 2 ^ 53) :
    ∃ s t, IsC s t (x * u - y * v) (x * v + y * u) ∧ (x * u - y * v).natAbs ≤ 2 * (p * q) ∧ (x * v + y * u).natAbs ≤ 2 * (p * q) ∧ ∀ (R : Type) (k : Nat → Nat → Option R), mulK R a b c d k = k s t := by
  have m1 := natAbs_mul_le bx bu
  have m2 := natAbs_mul_le by' bv
  have m3 := natAbs_mul_le bx bv
  have m4 := natAbs_mul_le by' bu
  have n1 : (x * u - y * v).natAbs ≤ 2 * (p * q) := by omega
  have n2 : (x * v + y * u).natAbs ≤ 2 * (p * q) := by omega
  obtain ⟨r1, e1, g1⟩ := mul_int h1.1 h2.1 (by omega)
  obtain ⟨r2, e2, g2⟩ := mul_int h1.2 h2.2 (by omega)
  obtain ⟨r3, e3, g3⟩ := sub_int g1 g2 (by omega)
  obtain ⟨r4, e4, g4⟩ := mul_int h1.1 h2.2 (by omega)
  obtain ⟨r5, e5, g5⟩ := mul_int h1.2 h2.1 (by omega)
  obtain ⟨r6, e6, g6⟩ := add_int g4 g5 (by omega)
  exact ⟨r3, r6, ⟨g3, g6⟩, n1, n2, fun R k => by unfold mulK; rw [bindF_eq e1, bindF_eq e2, bindF_eq e3, bindF_eq e4, bindF_eq e5, bindF_eq e6]⟩

theorem negK_int {a b : Nat} {x y : Int} (h : IsC a b x y) : ∃ p q, IsC p q (-x) (-y) ∧ ∀ (R : Type) (k : Nat → Nat → Option R), negK R a b k = k p q :=
  ⟨_, _, ⟨by have := neg_is h.1; push_cast; exact this, by have := neg_is h.2; push_cast; exact this⟩, fun R k => by unfold negK; rw [forceN_eq, forceN_eq]⟩

theorem noughtK_int {a b : Nat} {x y : Int} (h : IsC a b x y) {R : Type} (k : Bool → Option R) : noughtK R a b k = k (decide (x = 0 ∧ y = 0)) := by
  unfold noughtK
  rw [forceB_eq, eqF_is h.1 is_zero]
  by_cases h1 : x = 0
  · subst h1
    simp only [decide_true]
    rw [forceB_eq, eqF_is h.2 is_zero]
    by_cases h2 : y = 0
    · subst h2; simp
    · simp [h2]
  · have : ¬ ((x : Rat) = ((0 : Int) : Rat)) := fun e => h1 (int_eq_iff.1 e)
    simp [h1]

theorem likeK_int {a b : Nat} {x y : Int} (ha : Is a x) (hb : Is b y) {R : Type} (k : Bool → Option R) : likeK R a b k = k (decide (x = y)) := by
  unfold likeK
  rw [forceB_eq, eqF_is ha hb]
  by_cases h1 : x = y
  · subst h1; simp
  · simp only [int_eq_iff, h1, decide_false]
    rw [forceB_eq, neF_is ha ha]
    simp

def LikeK : KCCB := LikeB likeK
theorem LikeK_int {a b c d : Nat} {x y u v : Int} (h : IsC a b x y) (g : IsC c d u v) {R : Type} (k : Bool → Option R) : LikeK R a b c d k = k (decide (x = u ∧ y = v)) := by
  unfold LikeK LikeB
  rw [likeK_int h.1 g.1, forceB_eq]
  by_cases h1 : x = u
  · subst h1
    simp only [decide_true]
    rw [likeK_int h.2 g.2, forceB_eq]
    simp [forceB_eq]
  · simp [h1]

theorem absW_eq (a : Nat) : absW a = a % 2 ^ 63 := by
  unfold absW
  have h1 : ((BitVec.ofInt 64 a &&& ~~~(BitVec.ofInt 64 9223372036854775808)).toNat : Nat) = a % 2 ^ 63 := by
    have e1 : BitVec.ofInt 64 a = BitVec.ofNat 64 a := by simp
    have e2 : (~~~(BitVec.ofInt 64 9223372036854775808)) = BitVec.ofNat 64 (2 ^ 63 - 1) := by decide
    rw [e1, e2, BitVec.toNat_and, BitVec.toNat_ofNat, BitVec.toNat_ofNat]
    rw [show (2 ^ 63 - 1) % 2 ^ 64 = 2 ^ 63 - 1 by decide, Nat.and_two_pow_sub_one_eq_mod]
    omega
  rw [h1]
  have h2 : a % 2 ^ 63 < 2 ^ 63 := Nat.mod_lt _ (by decide)
  have h3 : IntKind.u64.wrap ((a % 2 ^ 63 : Nat) : Int) = ((a % 2 ^ 63 : Nat) : Int) := by
    unfold IntKind.wrap
    simp [IntKind.bits, IntKind.signed]
    omega
  rw [h3]
  rfl

theorem abs_is {a : Nat} {x : Rat} (h : Is a x) : Is (absW a) x.abs := by
  obtain ⟨hw, s, m, i, h1, rfl⟩ := h
  refine ⟨by rw [absW_eq]; omega, false, m, i, ?_, by rw [dv_abs]; unfold dv sg; simp⟩
  rw [absW_eq]
  have e1 : double.signWeight = 2 ^ 63 := by decide
  unfold Format.read at *
  simp only [e1] at h1 ⊢
  rw [Nat.mod_mod]
  have : (a % 2 ^ 63 / 2 ^ 63 % 2 == 1) = false := by
    rw [Nat.div_eq_of_lt (Nat.mod_lt _ (by decide))]; rfl
  rw [this]
  split at h1
  · rename_i hc
    simp only [hc, if_true]
    injection h1 with g1 g2 g3
    rw [g2, g3]
  · split at h1
    · rename_i hc1 hc
      simp only [hc, if_true, hc1, if_false]
      injection h1 with g1 g2 g3
      rw [g2, g3]
    · split at h1 <;> cases h1

theorem is_p40 : Is 4787326403894837248 ((2 ^ 40 : Int) : Rat) := by
  refine ⟨by decide, false, 2 ^ 52, -12, by decide, ?_⟩
  have h1 : ((2 ^ 52 : Nat) : Rat) = (2 : Rat) ^ ((52 : Nat) : Int) := (p2_nat 52).symm
  have h2 : ((2 ^ 40 : Int) : Rat) = (2 : Rat) ^ ((40 : Nat) : Int) := by
    rw [p2_nat]
    exact congrArg (fun z : Int => (z : Rat)) (by decide : (2 ^ 40 : Int) = ((2 ^ 40 : Nat) : Int))
  unfold dv sg
  rw [h1, h2, ← p2_add, if_neg (by decide), Rat.one_mul]
  rfl

theorem int_abs_le {n : Int} {N : Nat} (h : n.natAbs ≤ N) : ((n : Rat)).abs ≤ ((N : Int) : Rat) := by
  rw [abs_le_iff]
  constructor
  · have : (-(N : Int)) ≤ n := by omega
    have h2 : ((-(N : Int) : Int) : Rat) ≤ (n : Rat) := by exact_mod_cast this
    push_cast at h2 ⊢
    exact h2
  · have : n ≤ (N : Int) := by omega
    exact_mod_cast this

def withinK : KFFB := withinB absK
def WithinK : KCFB := WithinB withinK
def placeK : KCB := placeB WithinK
theorem withinK_int {a : Nat} {x : Int} (h : Is a x) (hb : x.natAbs ≤ 2 ^ 40) {R : Type} (k : Bool → Option R) : withinK R a 4787326403894837248 k = k true := by
  unfold withinK withinB absK
  show forceB (leF (absW a) 4787326403894837248) (fun t => k t) = k true
  rw [forceB_eq, leF_is (abs_is h) is_p40]
  have : ((x : Rat)).abs ≤ ((2 ^ 40 : Int) : Rat) := int_abs_le (N := 2 ^ 40) hb
  simp only [this, decide_true]
theorem placeK_int {a b : Nat} {x y : Int} (h : IsC a b x y) (h1 : x.natAbs ≤ 2 ^ 40) (h2 : y.natAbs ≤ 2 ^ 40) {R : Type} (k : Bool → Option R) : placeK R a b k = k true := by
  unfold placeK placeB WithinK WithinB
  rw [withinK_int h.1 h1, forceB_eq]
  simp only
  rw [withinK_int h.2 h2]
  simp only [forceB_eq]
end Go.Vm
