/- Sums and products of whole words are exact below 2 to the 53; no conditions. What ChartGroup computes is true for each three maps; no conditions. Quotients and roots of words are those of their numbers, rounded; no conditions. -/
import Derived.Test.YtnbpfafngidimaaGreatVmKF
import Derived.Test.YtnbpfafngidimaaGreatVmF0
namespace Go.Vm
open Ieee
set_option linter.unusedVariables false
set_option linter.unusedSimpArgs false

/-! ### Exact whole numbers -/
theorem bindF_eq {R : Type} {o : Option Nat} {n : Nat} {k : Nat → Option R} (h : o = some n) : bindF o k = k n := by subst h; simp [bindF, forceN_eq]

theorem lt_1023 {x : Rat} {n : Nat} (h : x.abs < (2 : Rat) ^ (n : Int)) (hn : n ≤ 1023) : x.abs < (2 : Rat) ^ (1023 : Int) := by
  have := p2_le (show (n : Int) ≤ 1023 by omega)
  grind

theorem int_abs_lt {n : Int} (h : n.natAbs < 2 ^ 53) : ((n : Rat)).abs < (2 : Rat) ^ (1023 : Int) := by
  have h1 : ((n : Rat)).abs = ((n.natAbs : Nat) : Rat) := by
    have := dv_abs (decide (n < 0)) n.natAbs 0
    rw [int_dv n (decide (n < 0)) 0 fun _ => rfl] at this
    simpa using this
  rw [h1]
  have h2 : ((n.natAbs : Nat) : Rat) < ((2 ^ 53 : Nat) : Rat) := nat_cast_lt h
  have h3 : (2 : Rat) ^ (53 : Int) = ((2 ^ 53 : Nat) : Rat) := p2_nat 53
  have h4 : (2 : Rat) ^ (53 : Int) ≤ (2 : Rat) ^ (1023 : Int) := p2_le (by decide)
  grind

theorem rnd_int {n : Int} {z : Rat} (h : n.natAbs < 2 ^ 53) (hr : Rnd (n : Rat) z) : z = n := hr.rep n 0 h (by decide) (by simp)

theorem add_int {a b : Nat} {x y : Int} (ha : Is a x) (hb : Is b y) (h : (x + y).natAbs < 2 ^ 53) : ∃ r, fbF .add a b = some r ∧ Is r ((x + y : Int) : Rat) := by
  have e : ((x + y : Int) : Rat) = (x : Rat) + y := by push_cast; rfl
  obtain ⟨r, z, h1, h2, h3⟩ := add_is ha hb (by rw [← e]; exact int_abs_lt h)
  rw [← e] at h3
  rw [rnd_int h h3] at h2
  exact ⟨r, h1, h2⟩
theorem sub_int {a b : Nat} {x y : Int} (ha : Is a x) (hb : Is b y) (h : (x - y).natAbs < 2 ^ 53) : ∃ r, fbF .sub a b = some r ∧ Is r ((x - y : Int) : Rat) := by
  have e : ((x - y : Int) : Rat) = (x : Rat) - y := by push_cast; rfl
  obtain ⟨r, z, h1, h2, h3⟩ := sub_is ha hb (by rw [← e]; exact int_abs_lt h)
  rw [← e] at h3
  rw [rnd_int h h3] at h2
  exact ⟨r, h1, h2⟩
theorem mul_int {a b : Nat} {x y : Int} (ha : Is a x) (hb : Is b y) (h : (x * y).natAbs < 2 ^ 53) : ∃ r, fbF .mul a b = some r ∧ Is r ((x * y : Int) : Rat) := by
  have e : ((x * y : Int) : Rat) = (x : Rat) * y := by push_cast; rfl
  obtain ⟨r, z, h1, h2, h3⟩ := mul_is ha hb (by rw [← e]; exact int_abs_lt h)
  rw [← e] at h3
  rw [rnd_int h h3] at h2
  exact ⟨r, h1, h2⟩

theorem is_zero : Is 0 ((0 : Int) : Rat) := ⟨by decide, false, 0, -1074, by decide, dv_zero _ _⟩

theorem eqF_is {a b : Nat} {x y : Rat} (ha : Is a x) (hb : Is b y) : eqF a b = decide (x = y) := by
  unfold eqF
  rw [order_is ha hb]
  by_cases h1 : x < y
  · have : ¬ x = y := by grind
    simp [h1, this]
  · by_cases h2 : x = y
    · subst h2
      simp [h1]
    · simp [h1, h2]
theorem neF_is {a b : Nat} {x y : Rat} (ha : Is a x) (hb : Is b y) : neF a b = !decide (x = y) := by
  rw [← eqF_is ha hb]; unfold neF eqF; rfl
theorem leF_is {a b : Nat} {x y : Rat} (ha : Is a x) (hb : Is b y) : leF a b = decide (x ≤ y) := by
  unfold leF
  rw [order_is ha hb]
  by_cases h1 : x < y
  · have : x ≤ y := by grind
    simp [h1, this]
  · by_cases h2 : x = y
    · subst h2
      simp [h1]
    · have : ¬ x ≤ y := by grind
      simp [h1, h2, this]

theorem int_eq_iff {x y : Int} : ((x : Rat) = (y : Rat)) ↔ x = y := by
  constructor
  · intro h; exact_mod_cast h
  · rintro rfl; rfl

/-- A complex number of whole parts. -/
def IsC (a b : Nat) (x y : Int) : Prop := Is a x ∧ Is b y

theorem addK_int {a b c d : Nat} {x y u v : Int} (h1 : IsC a b x y) (h2 : IsC c d u v) (b1 : (x + u).natAbs < 2 ^ 53) (b2 : (y + v).natAbs < 2 ^ 53) :
    ∃ p q, IsC p q (x + u) (y + v) ∧ ∀ (R : Type) (k : Nat → Nat → Option R), addK R a b c d k = k p q := by
  obtain ⟨p, e1, g1⟩ := add_int h1.1 h2.1 b1
  obtain ⟨q, e2, g2⟩ := add_int h1.2 h2.2 b2
  exact ⟨p, q, ⟨g1, g2⟩, fun R k => by unfold addK; rw [bindF_eq e1, bindF_eq e2]⟩
theorem subK_int {a b c d : Nat} {x y u v : Int} (h1 : IsC a b x y) (h2 : IsC c d u v) (b1 : (x - u).natAbs < 2 ^ 53) (b2 : (y - v).natAbs < 2 ^ 53) :
    ∃ p q, IsC p q (x - u) (y - v) ∧ ∀ (R : Type) (k : Nat → Nat → Option R), subK R a b c d k = k p q := by
  obtain ⟨p, e1, g1⟩ := sub_int h1.1 h2.1 b1
  obtain ⟨q, e2, g2⟩ := sub_int h1.2 h2.2 b2
  exact ⟨p, q, ⟨g1, g2⟩, fun R k => by unfold subK; rw [bindF_eq e1, bindF_eq e2]⟩

theorem natAbs_mul_le {x u : Int} {p q : Nat} (h1 : x.natAbs ≤ p) (h2 : u.natAbs ≤ q) : (x * u).natAbs ≤ p * q := by
  rw [Int.natAbs_mul]; exact Nat.mul_le_mul h1 h2

theorem mulK_int {a b c d : Nat} {x y u v : Int} {p q : Nat} (h1 : IsC a b x y) (h2 : IsC c d u v) (bx : x.natAbs ≤ p) (by' : y.natAbs ≤ p) (bu : u.natAbs ≤ q) (bv : v.natAbs ≤ q) (hb : 2 * (p * q) < 2 ^ 53) :
    ∃ s t, IsC s t (x * u - y * v) (x * v + y * u) ∧ (x * u - y * v).natAbs ≤ 2 * (p * q) ∧ (x * v + y * u).natAbs ≤ 2 * (p * q) ∧ ∀ (R : Type) (k : Nat → Nat → Option R), mulK R a b c d k = k s t := by
  have m1 := natAbs_mul_le bx bu
  have m2 := natAbs_mul_le by' bv
  have m3 := natAbs_mul_le bx bv
  have m4 := natAbs_mul_le by' bu
  have n1 : (x * u - y * v).natAbs ≤ 2 * (p * q) := by omega
  have n2 : (x * v + y * u).natAbs ≤ 2 * (p * q) := by omega
  obtain ⟨r1, e1, g1⟩ := mul_int h1.1 h2.1 (by omega)
  obtain ⟨r2, e2, g2⟩ := mul_int h1.2 h2.2 (by omega)
  obtain ⟨r3, e3, g3⟩ := sub_int g1 g2 (by omega)
  obtain ⟨r4, e4, g4⟩ := mul_int h1.1 h2.2 (by omega)
  obtain ⟨r5, e5, g5⟩ := mul_int h1.2 h2.1 (by omega)
  obtain ⟨r6, e6, g6⟩ := add_int g4 g5 (by omega)
  exact ⟨r3, r6, ⟨g3, g6⟩, n1, n2, fun R k => by unfold mulK; rw [bindF_eq e1, bindF_eq e2, bindF_eq e3, bindF_eq e4, bindF_eq e5, bindF_eq e6]⟩

theorem negK_int {a b : Nat} {x y : Int} (h : IsC a b x y) : ∃ p q, IsC p q (-x) (-y) ∧ ∀ (R : Type) (k : Nat → Nat → Option R), negK R a b k = k p q :=
  ⟨_, _, ⟨by have := neg_is h.1; push_cast; exact this, by have := neg_is h.2; push_cast; exact this⟩, fun R k => by unfold negK; rw [forceN_eq, forceN_eq]⟩

theorem noughtK_int {a b : Nat} {x y : Int} (h : IsC a b x y) {R : Type} (k : Bool → Option R) : noughtK R a b k = k (decide (x = 0 ∧ y = 0)) := by
  unfold noughtK
  rw [forceB_eq, eqF_is h.1 is_zero]
  by_cases h1 : x = 0
  · subst h1
    simp only [decide_true]
    rw [forceB_eq, eqF_is h.2 is_zero]
    by_cases h2 : y = 0
    · subst h2; simp
    · simp [h2]
  · have : ¬ ((x : Rat) = ((0 : Int) : Rat)) := fun e => h1 (int_eq_iff.1 e)
    simp [h1]

theorem likeK_int {a b : Nat} {x y : Int} (ha : Is a x) (hb : Is b y) {R : Type} (k : Bool → Option R) : likeK R a b k = k (decide (x = y)) := by
  unfold likeK
  rw [forceB_eq, eqF_is ha hb]
  by_cases h1 : x = y
  · subst h1; simp
  · simp only [int_eq_iff, h1, decide_false]
    rw [forceB_eq, neF_is ha ha]
    simp

def LikeK : KCCB := LikeB likeK
theorem LikeK_int {a b c d : Nat} {x y u v : Int} (h : IsC a b x y) (g : IsC c d u v) {R : Type} (k : Bool → Option R) : LikeK R a b c d k = k (decide (x = u ∧ y = v)) := by
  unfold LikeK LikeB
  rw [likeK_int h.1 g.1, forceB_eq]
  by_cases h1 : x = u
  · subst h1
    simp only [decide_true]
    rw [likeK_int h.2 g.2, forceB_eq]
    simp [forceB_eq]
  · simp [h1]

theorem absW_eq (a : Nat) : absW a = a % 2 ^ 63 := by
  unfold absW
  have h1 : ((BitVec.ofInt 64 a &&& ~~~(BitVec.ofInt 64 9223372036854775808)).toNat : Nat) = a % 2 ^ 63 := by
    have e1 : BitVec.ofInt 64 a = BitVec.ofNat 64 a := by simp
    have e2 : (~~~(BitVec.ofInt 64 9223372036854775808)) = BitVec.ofNat 64 (2 ^ 63 - 1) := by decide
    rw [e1, e2, BitVec.toNat_and, BitVec.toNat_ofNat, BitVec.toNat_ofNat]
    rw [show (2 ^ 63 - 1) % 2 ^ 64 = 2 ^ 63 - 1 by decide, Nat.and_two_pow_sub_one_eq_mod]
    omega
  rw [h1]
  have h2 : a % 2 ^ 63 < 2 ^ 63 := Nat.mod_lt _ (by decide)
  have h3 : IntKind.u64.wrap ((a % 2 ^ 63 : Nat) : Int) = ((a % 2 ^ 63 : Nat) : Int) := by
    unfold IntKind.wrap
    simp [IntKind.bits, IntKind.signed]
    omega
  rw [h3]
  rfl

theorem abs_is {a : Nat} {x : Rat} (h : Is a x) : Is (absW a) x.abs := by
  obtain ⟨hw, s, m, i, h1, rfl⟩ := h
  refine ⟨by rw [absW_eq]; omega, false, m, i, ?_, by rw [dv_abs]; unfold dv sg; simp⟩
  rw [absW_eq]
  have e1 : double.signWeight = 2 ^ 63 := by decide
  unfold Format.read at *
  simp only [e1] at h1 ⊢
  rw [Nat.mod_mod]
  have : (a % 2 ^ 63 / 2 ^ 63 % 2 == 1) = false := by
    rw [Nat.div_eq_of_lt (Nat.mod_lt _ (by decide))]; rfl
  rw [this]
  split at h1
  · rename_i hc
    simp only [hc, if_true]
    injection h1 with g1 g2 g3
    rw [g2, g3]
  · split at h1
    · rename_i hc1 hc
      simp only [hc, if_true, hc1, if_false]
      injection h1 with g1 g2 g3
      rw [g2, g3]
    · split at h1 <;> cases h1

theorem is_p40 : Is 4787326403894837248 ((2 ^ 40 : Int) : Rat) := by
  refine ⟨by decide, false, 2 ^ 52, -12, by decide, ?_⟩
  have h1 : ((2 ^ 52 : Nat) : Rat) = (2 : Rat) ^ ((52 : Nat) : Int) := (p2_nat 52).symm
  have h2 : ((2 ^ 40 : Int) : Rat) = (2 : Rat) ^ ((40 : Nat) : Int) := by
    rw [p2_nat]
    exact congrArg (fun z : Int => (z : Rat)) (by decide : (2 ^ 40 : Int) = ((2 ^ 40 : Nat) : Int))
  unfold dv sg
  rw [h1, h2, ← p2_add, if_neg (by decide), Rat.one_mul]
  rfl

theorem int_abs_le {n : Int} {N : Nat} (h : n.natAbs ≤ N) : ((n : Rat)).abs ≤ ((N : Int) : Rat) := by
  rw [abs_le_iff]
  constructor
  · have : (-(N : Int)) ≤ n := by omega
    have h2 : ((-(N : Int) : Int) : Rat) ≤ (n : Rat) := by exact_mod_cast this
    push_cast at h2 ⊢
    exact h2
  · have : n ≤ (N : Int) := by omega
    exact_mod_cast this

def withinK : KFFB := withinB absK
def WithinK : KCFB := WithinB withinK
def placeK : KCB := placeB WithinK
theorem withinK_int {a : Nat} {x : Int} (h : Is a x) (hb : x.natAbs ≤ 2 ^ 40) {R : Type} (k : Bool → Option R) : withinK R a 4787326403894837248 k = k true := by
  unfold withinK withinB absK
  show forceB (leF (absW a) 4787326403894837248) (fun t => k t) = k true
  rw [forceB_eq, leF_is (abs_is h) is_p40]
  have : ((x : Rat)).abs ≤ ((2 ^ 40 : Int) : Rat) := int_abs_le (N := 2 ^ 40) hb
  simp only [this, decide_true]
theorem placeK_int {a b : Nat} {x y : Int} (h : IsC a b x y) (h1 : x.natAbs ≤ 2 ^ 40) (h2 : y.natAbs ≤ 2 ^ 40) {R : Type} (k : Bool → Option R) : placeK R a b k = k true := by
  unfold placeK placeB WithinK WithinB
  rw [withinK_int h.1 h1, forceB_eq]
  simp only
  rw [withinK_int h.2 h2]
  simp only [forceB_eq]
end Go.Vm
namespace Go.Vm
open Ieee
set_option linter.unusedVariables false
set_option linter.unusedSimpArgs false

/-! ### Moebius maps of whole parts -/
structure GM where
  a1 : Int
  a2 : Int
  b1 : Int
  b2 : Int
  c1 : Int
  c2 : Int
  d1 : Int
  d2 : Int

structure IsM (m : Mp) (M : GM) : Prop where
  a : IsC m.a1 m.a2 M.a1 M.a2
  b : IsC m.b1 m.b2 M.b1 M.b2
  c : IsC m.c1 m.c2 M.c1 M.c2
  d : IsC m.d1 m.d2 M.d1 M.d2
  p : m.p = 0

structure GM.Le (M : GM) (n : Nat) : Prop where
  a1 : M.a1.natAbs ≤ n
  a2 : M.a2.natAbs ≤ n
  b1 : M.b1.natAbs ≤ n
  b2 : M.b2.natAbs ≤ n
  c1 : M.c1.natAbs ≤ n
  c2 : M.c2.natAbs ≤ n
  d1 : M.d1.natAbs ≤ n
  d2 : M.d2.natAbs ≤ n

def GM.x (M : GM) : Int := M.a1 * M.d1 - M.a2 * M.d2 - (M.b1 * M.c1 - M.b2 * M.c2)
def GM.y (M : GM) : Int := M.a1 * M.d2 + M.a2 * M.d1 - (M.b1 * M.c2 + M.b2 * M.c1)
def GM.No (M : GM) : Prop := M.x = 0 ∧ M.y = 0
instance (M : GM) : Decidable M.No := by unfold GM.No; infer_instance

def detK : KMC := detB mulK subK
def chkK : KMI := chk1B placeK noughtK withinK detK
def bothK : KC4 := bothB mulK addK
def toldK : KMM := toldB chkK
def thenK : KMMM := thenB chkK bothK toldK
def turnedK : KMM := turnedB chkK negK toldK
def alikeK : KMMB := alikeB LikeK

theorem detK_int {m : Mp} {M : GM} {n : Nat} (h : IsM m M) (hl : M.Le n) (hn : 4 * (n * n) < 2 ^ 53) :
    ∃ p q, IsC p q M.x M.y ∧ ∀ (R : Type) (k : Nat → Nat → Option R), detK R m k = k p q := by
  obtain ⟨s, t, g1, g2, g3, g4⟩ := mulK_int h.a h.d hl.a1 hl.a2 hl.d1 hl.d2 (by omega)
  obtain ⟨s', t', g1', g2', g3', g4'⟩ := mulK_int h.b h.c hl.b1 hl.b2 hl.c1 hl.c2 (by omega)
  obtain ⟨p, q, f1, f2⟩ := subK_int g1 g1' (by omega) (by omega)
  exact ⟨p, q, f1, fun R k => by unfold detK detB; rw [g4, g4', f2]⟩

theorem chkK_int {m : Mp} {M : GM} {n : Nat} (h : IsM m M) (hl : M.Le n) (hn : 4 * (n * n) < 2 ^ 53) (hn' : n ≤ 2 ^ 40) {R : Type} (k : Int → Option R) :
    chkK R m k = k (if M.No then 180 else 0) := by
  have hp : ∀ {x : Int}, x.natAbs ≤ n → x.natAbs ≤ 2 ^ 40 := fun h => Nat.le_trans h hn'
  have hz : IsC 0 0 0 0 := ⟨is_zero, is_zero⟩
  have hw : ∀ (k : Bool → Option R), withinK R 0 4787326403894837248 k = k true := fun k => withinK_int is_zero (by decide) k
  have he : eqF 0 0 = true := by rw [eqF_is is_zero is_zero]; simp
  obtain ⟨p, q, f1, f2⟩ := detK_int h hl hn
  unfold chkK chk1B chkHead
  rw [placeK_int h.a (hp hl.a1) (hp hl.a2)]
  simp only [forceB_eq]
  rw [placeK_int h.b (hp hl.b1) (hp hl.b2)]
  simp only
  rw [placeK_int h.c (hp hl.c1) (hp hl.c2)]
  simp only
  rw [placeK_int h.d (hp hl.d1) (hp hl.d2)]
  simp only
  rw [h.p, hw]
  simp only [he, f2, noughtK_int f1]
  rw [noughtK_int h.a]
  have h0 : M.No ↔ (M.x = 0 ∧ M.y = 0) := Iff.rfl
  by_cases h1 : M.a1 = 0 ∧ M.a2 = 0
  · by_cases hn : M.x = 0 ∧ M.y = 0 <;> simp [h0, h1, hn]
  · simp only [h1, decide_false]
    rw [noughtK_int h.c]
    by_cases h2 : M.c1 = 0 ∧ M.c2 = 0
    · simp only [h2, and_self, decide_true]
      rw [noughtK_int h.d]
      by_cases hn : M.x = 0 ∧ M.y = 0 <;> simp [h0, hn]
    · by_cases hn : M.x = 0 ∧ M.y = 0 <;> simp [h0, h2, hn]

def GM.cat (M N : GM) : GM where
  a1 := N.a1 * M.a1 - N.a2 * M.a2 + (N.b1 * M.c1 - N.b2 * M.c2)
  a2 := N.a1 * M.a2 + N.a2 * M.a1 + (N.b1 * M.c2 + N.b2 * M.c1)
  b1 := N.a1 * M.b1 - N.a2 * M.b2 + (N.b1 * M.d1 - N.b2 * M.d2)
  b2 := N.a1 * M.b2 + N.a2 * M.b1 + (N.b1 * M.d2 + N.b2 * M.d1)
  c1 := N.c1 * M.a1 - N.c2 * M.a2 + (N.d1 * M.c1 - N.d2 * M.c2)
  c2 := N.c1 * M.a2 + N.c2 * M.a1 + (N.d1 * M.c2 + N.d2 * M.c1)
  d1 := N.c1 * M.b1 - N.c2 * M.b2 + (N.d1 * M.d1 - N.d2 * M.d2)
  d2 := N.c1 * M.b2 + N.c2 * M.b1 + (N.d1 * M.d2 + N.d2 * M.d1)

theorem bothK_int {a b c d a' b' c' d' : Nat} {x y u v x' y' u' v' : Int} {p q : Nat} (h1 : IsC a b x y) (h2 : IsC c d u v) (h3 : IsC a' b' x' y') (h4 : IsC c' d' u' v')
    (b1 : x.natAbs ≤ p) (b2 : y.natAbs ≤ p) (b3 : u.natAbs ≤ q) (b4 : v.natAbs ≤ q) (b5 : x'.natAbs ≤ p) (b6 : y'.natAbs ≤ p) (b7 : u'.natAbs ≤ q) (b8 : v'.natAbs ≤ q) (hb : 4 * (p * q) < 2 ^ 53) :
    ∃ s t, IsC s t (x * u - y * v + (x' * u' - y' * v')) (x * v + y * u + (x' * v' + y' * u')) ∧ (x * u - y * v + (x' * u' - y' * v')).natAbs ≤ 4 * (p * q) ∧ (x * v + y * u + (x' * v' + y' * u')).natAbs ≤ 4 * (p * q) ∧
      ∀ (R : Type) (k : Nat → Nat → Option R), bothK R a b c d a' b' c' d' k = k s t := by
  obtain ⟨s, t, g1, g2, g3, g4⟩ := mulK_int h1 h2 b1 b2 b3 b4 (by omega)
  obtain ⟨s', t', g1', g2', g3', g4'⟩ := mulK_int h3 h4 b5 b6 b7 b8 (by omega)
  obtain ⟨e, f, f1, f2⟩ := addK_int g1 g1' (by omega) (by omega)
  exact ⟨e, f, f1, by omega, by omega, fun R k => by unfold bothK bothB; rw [g4, g4', f2]⟩

theorem norm_zero {a b : Int} (h : a * a + b * b = 0) : a = 0 ∧ b = 0 := by
  have h1 : 0 ≤ a * a := by
    rcases Int.le_total 0 a with h | h
    · exact Int.mul_nonneg h h
    · have := Int.mul_nonneg (show 0 ≤ -a by omega) (show 0 ≤ -a by omega); grind
  have h2 : 0 ≤ b * b := by
    rcases Int.le_total 0 b with h | h
    · exact Int.mul_nonneg h h
    · have := Int.mul_nonneg (show 0 ≤ -b by omega) (show 0 ≤ -b by omega); grind
  have h3 : a * a = 0 := by omega
  have h4 : b * b = 0 := by omega
  exact ⟨by simpa using Int.mul_eq_zero.1 h3, by simpa using Int.mul_eq_zero.1 h4⟩

theorem gauss_domain {a b c d : Int} (h1 : a * c - b * d = 0) (h2 : a * d + b * c = 0) : (a = 0 ∧ b = 0) ∨ (c = 0 ∧ d = 0) := by
  have h3 : (a * a + b * b) * (c * c + d * d) = 0 := by
    have : (a * a + b * b) * (c * c + d * d) = (a * c - b * d) * (a * c - b * d) + (a * d + b * c) * (a * d + b * c) := by grind
    rw [this, h1, h2]; rfl
  rcases Int.mul_eq_zero.1 h3 with h | h
  · exact .inl (norm_zero h)
  · exact .inr (norm_zero h)

theorem cat_det (M N : GM) : (M.cat N).x = M.x * N.x - M.y * N.y ∧ (M.cat N).y = M.x * N.y + M.y * N.x := by
  unfold GM.x GM.y GM.cat
  constructor <;> grind

theorem cat_no {M N : GM} (h1 : ¬ M.No) (h2 : ¬ N.No) : ¬ (M.cat N).No := by
  intro h
  obtain ⟨e1, e2⟩ := cat_det M N
  have g1 : (M.cat N).x = 0 := h.1
  have g2 : (M.cat N).y = 0 := h.2
  rw [e1] at g1
  rw [e2] at g2
  rcases gauss_domain g1 g2 with h | h
  · exact h1 h
  · exact h2 h

theorem toldK_int {m : Mp} {M : GM} {n : Nat} (h : IsM m M) (hl : M.Le n) (hn : 4 * (n * n) < 2 ^ 53) (hn' : n ≤ 2 ^ 40) (hd : ¬ M.No) {R : Type} (ke : Int → Option R) (k : Mp → Option R) :
    toldK R m ke k = k m := by
  unfold toldK toldB
  rw [chkK_int h hl hn hn', if_neg hd, forceB_eq]
  rfl

theorem cat_le {M N : GM} {p q : Nat} (hm : M.Le p) (hn : N.Le q) : (M.cat N).Le (4 * (q * p)) := by
  have f : ∀ {x y u v x' y' u' v' : Int}, x.natAbs ≤ q → y.natAbs ≤ q → u.natAbs ≤ p → v.natAbs ≤ p → x'.natAbs ≤ q → y'.natAbs ≤ q → u'.natAbs ≤ p → v'.natAbs ≤ p →
      (x * u - y * v + (x' * u' - y' * v')).natAbs ≤ 4 * (q * p) ∧ (x * v + y * u + (x' * v' + y' * u')).natAbs ≤ 4 * (q * p) := fun h1 h2 h3 h4 h5 h6 h7 h8 => by
    have m1 := natAbs_mul_le h1 h3
    have m2 := natAbs_mul_le h2 h4
    have m3 := natAbs_mul_le h1 h4
    have m4 := natAbs_mul_le h2 h3
    have m5 := natAbs_mul_le h5 h7
    have m6 := natAbs_mul_le h6 h8
    have m7 := natAbs_mul_le h5 h8
    have m8 := natAbs_mul_le h6 h7
    omega
  have fa := f hn.a1 hn.a2 hm.a1 hm.a2 hn.b1 hn.b2 hm.c1 hm.c2
  have fb := f hn.a1 hn.a2 hm.b1 hm.b2 hn.b1 hn.b2 hm.d1 hm.d2
  have fc := f hn.c1 hn.c2 hm.a1 hm.a2 hn.d1 hn.d2 hm.c1 hm.c2
  have fd := f hn.c1 hn.c2 hm.b1 hm.b2 hn.d1 hn.d2 hm.d1 hm.d2
  exact ⟨fa.1, fa.2, fb.1, fb.2, fc.1, fc.2, fd.1, fd.2⟩

theorem thenK_int {m n : Mp} {M N : GM} {p q : Nat} (hm : IsM m M) (hn : IsM n N) (lm : M.Le p) (ln : N.Le q) (b1 : p ≤ 2 ^ 25) (b2 : q ≤ 2 ^ 25) (b3 : 4 * (q * p) ≤ 2 ^ 25) (d1 : ¬ M.No) (d2 : ¬ N.No) :
    ∃ r, IsM r (M.cat N) ∧ ∀ (R : Type) (ke : Int → Option R) (k : Mp → Option R), thenK R m n ke k = k r := by
  have sq : ∀ {n : Nat}, n ≤ 2 ^ 25 → 4 * (n * n) < 2 ^ 53 ∧ n ≤ 2 ^ 40 := fun {n} h => by
    have := Nat.mul_le_mul h h
    omega
  obtain ⟨s1, t1, e1, _, _, g1⟩ := bothK_int hn.a hm.a hn.b hm.c ln.a1 ln.a2 lm.a1 lm.a2 ln.b1 ln.b2 lm.c1 lm.c2 (by omega)
  obtain ⟨s2, t2, e2, _, _, g2⟩ := bothK_int hn.a hm.b hn.b hm.d ln.a1 ln.a2 lm.b1 lm.b2 ln.b1 ln.b2 lm.d1 lm.d2 (by omega)
  obtain ⟨s3, t3, e3, _, _, g3⟩ := bothK_int hn.c hm.a hn.d hm.c ln.c1 ln.c2 lm.a1 lm.a2 ln.d1 ln.d2 lm.c1 lm.c2 (by omega)
  obtain ⟨s4, t4, e4, _, _, g4⟩ := bothK_int hn.c hm.b hn.d hm.d ln.c1 ln.c2 lm.b1 lm.b2 ln.d1 ln.d2 lm.d1 lm.d2 (by omega)
  have hr : IsM ⟨s1, t1, s2, t2, s3, t3, s4, t4, 0⟩ (M.cat N) := ⟨e1, e2, e3, e4, rfl⟩
  refine ⟨_, hr, fun R ke k => ?_⟩
  unfold thenK thenB
  rw [chkK_int hm lm (sq b1).1 (sq b1).2, if_neg d1, forceB_eq]
  simp only [bne_self_eq_false]
  rw [chkK_int hn ln (sq b2).1 (sq b2).2, if_neg d2, forceB_eq]
  simp only [bne_self_eq_false]
  rw [g1, g2, g3, g4]
  exact toldK_int hr (cat_le lm ln) (sq b3).1 (sq b3).2 (cat_no d1 d2) ke k

def GM.back (M : GM) : GM := ⟨M.d1, M.d2, -M.b1, -M.b2, -M.c1, -M.c2, M.a1, M.a2⟩
theorem back_no {M : GM} (h : ¬ M.No) : ¬ M.back.No := by
  intro g
  refine h ⟨?_, ?_⟩
  · have : M.back.x = 0 := g.1
    unfold GM.x GM.back at *; grind
  · have : M.back.y = 0 := g.2
    unfold GM.y GM.back at *; grind

theorem turnedK_int {m : Mp} {M : GM} {p : Nat} (hm : IsM m M) (lm : M.Le p) (b1 : p ≤ 2 ^ 25) (d1 : ¬ M.No) :
    ∃ r, IsM r M.back ∧ ∀ (R : Type) (ke : Int → Option R) (k : Mp → Option R), turnedK R m ke k = k r := by
  have sq : 4 * (p * p) < 2 ^ 53 ∧ p ≤ 2 ^ 40 := by
    have := Nat.mul_le_mul b1 b1
    omega
  obtain ⟨s, t, e1, g1⟩ := negK_int hm.b
  obtain ⟨u, v, e2, g2⟩ := negK_int hm.c
  have hr : IsM ⟨m.d1, m.d2, s, t, u, v, m.a1, m.a2, 0⟩ M.back := ⟨hm.d, e1, e2, hm.a, rfl⟩
  have hl : M.back.Le p := ⟨lm.d1, lm.d2, by simp [GM.back]; exact lm.b1, by simp [GM.back]; exact lm.b2, by simp [GM.back]; exact lm.c1, by simp [GM.back]; exact lm.c2, lm.a1, lm.a2⟩
  refine ⟨_, hr, fun R ke k => ?_⟩
  unfold turnedK turnedB
  rw [chkK_int hm lm sq.1 sq.2, if_neg d1, forceB_eq]
  simp only [bne_self_eq_false]
  rw [g1, g2]
  exact toldK_int hr hl sq.1 sq.2 (back_no d1) ke k

theorem alikeK_int {m n : Mp} {M : GM} (hm : IsM m M) (hn : IsM n M) {R : Type} (k : Bool → Option R) : alikeK R m n k = k true := by
  unfold alikeK alikeB
  rw [LikeK_int hm.a hn.a, forceB_eq]
  simp only [and_self, decide_true]
  rw [LikeK_int hm.b hn.b, forceB_eq]
  simp only [and_self, decide_true]
  rw [LikeK_int hm.c hn.c, forceB_eq]
  simp only [and_self, decide_true]
  rw [LikeK_int hm.d hn.d]
  simp [forceB_eq]

/-! ### Small whole parts -/
def upG : KGB := fun R x y k => upK x y k
def ofG : KGC := fun R x y k => ofK x y k
def smallK : KFrB := smallB upG
def frK : KFrM := frB ofG

theorem upG_eq (x y : Int) {R : Type} (k : Bool → Option R) : upG R x y k = k (decide (x.natAbs ≤ 8 ∧ y.natAbs ≤ 8)) := by
  unfold upG upK
  simp only [forceB_eq]
  by_cases h1 : x ≥ -8
  · simp only [h1, decide_true]
    by_cases h2 : x ≤ 8
    · simp only [h2, decide_true]
      by_cases h3 : y ≥ -8
      · simp only [h3, decide_true]
        congr 1
        by_cases h4 : y ≤ 8
        · have : x.natAbs ≤ 8 ∧ y.natAbs ≤ 8 := by omega
          simp [h4, this]
        · have : ¬ (x.natAbs ≤ 8 ∧ y.natAbs ≤ 8) := by omega
          simp [h4, this]
      · have : ¬ (x.natAbs ≤ 8 ∧ y.natAbs ≤ 8) := by omega
        simp [h3, this]
    · have : ¬ (x.natAbs ≤ 8 ∧ y.natAbs ≤ 8) := by omega
      simp [h2, this]
  · have : ¬ (x.natAbs ≤ 8 ∧ y.natAbs ≤ 8) := by omega
    simp [h1, this]

def Fr.gm (f : Fr) : GM := ⟨f.a1, f.a2, f.b1, f.b2, f.c1, f.c2, f.d1, f.d2⟩

theorem smallK_cases (f : Fr) : ((∀ (R : Type) (k : Bool → Option R), smallK R f k = k true) ∧ f.gm.Le 8) ∨ (∀ (R : Type) (k : Bool → Option R), smallK R f k = k false) := by
  by_cases h1 : f.a1.natAbs ≤ 8 ∧ f.a2.natAbs ≤ 8
  · by_cases h2 : f.b1.natAbs ≤ 8 ∧ f.b2.natAbs ≤ 8
    · by_cases h3 : f.c1.natAbs ≤ 8 ∧ f.c2.natAbs ≤ 8
      · by_cases h4 : f.d1.natAbs ≤ 8 ∧ f.d2.natAbs ≤ 8
        · exact .inl ⟨fun R k => by unfold smallK smallB; simp [upG_eq, forceB_eq, h1, h2, h3, h4], ⟨h1.1, h1.2, h2.1, h2.2, h3.1, h3.2, h4.1, h4.2⟩⟩
        · exact .inr fun R k => by unfold smallK smallB; simp only [upG_eq, forceB_eq, h1, h2, h3, h4, and_self, decide_true, decide_false]
      · exact .inr fun R k => by unfold smallK smallB; simp only [upG_eq, forceB_eq, h1, h2, h3, and_self, decide_true, decide_false]
    · exact .inr fun R k => by unfold smallK smallB; simp only [upG_eq, forceB_eq, h1, h2, and_self, decide_true, decide_false]
  · exact .inr fun R k => by unfold smallK smallB; simp only [upG_eq, forceB_eq, h1, and_self, decide_true, decide_false]

theorem ofG_eq {R : Type} (x y : Int) (k : Nat → Nat → Option R) : ofG R x y k = k (floatOfInt .f64 x) (floatOfInt .f64 y) := by
  unfold ofG ofK; rw [forceN_eq, forceN_eq]
def Fr.mp (f : Fr) : Mp := ⟨floatOfInt .f64 f.a1, floatOfInt .f64 f.a2, floatOfInt .f64 f.b1, floatOfInt .f64 f.b2, floatOfInt .f64 f.c1, floatOfInt .f64 f.c2, floatOfInt .f64 f.d1, floatOfInt .f64 f.d2, 0⟩
theorem frK_eq {R : Type} (f : Fr) (k : Mp → Option R) : frK R f k = k f.mp := by
  unfold frK frB
  simp only [ofG_eq]
  rfl
theorem fr_is {f : Fr} (h : f.gm.Le 8) : IsM f.mp f.gm := by
  have g : ∀ {x : Int}, x.natAbs ≤ 8 → Is (floatOfInt .f64 x) x := fun h => ofInt_is (Nat.lt_of_le_of_lt h (by decide))
  exact ⟨⟨g h.a1, g h.a2⟩, ⟨g h.b1, g h.b2⟩, ⟨g h.c1, g h.c2⟩, ⟨g h.d1, g h.d2⟩, rfl⟩

def groupK := groupB smallK frK chkK thenK alikeK turnedK mulK subK LikeK

theorem cat_assoc (L M N : GM) : (L.cat M).cat N = L.cat (M.cat N) := by
  unfold GM.cat
  simp only [GM.mk.injEq]
  refine ⟨?_, ?_, ?_, ?_, ?_, ?_, ?_, ?_⟩ <;> grind

theorem cat_back (M : GM) : M.cat M.back = ⟨M.x, M.y, 0, 0, 0, 0, M.x, M.y⟩ := by
  unfold GM.cat GM.back GM.x GM.y
  simp only [GM.mk.injEq]
  refine ⟨?_, ?_, ?_, ?_, ?_, ?_, ?_, ?_⟩ <;> grind

theorem groupK_true {R : Type} (f g h : Fr) (k : Bool → Option R) : groupK R f g h k = k true := by
  unfold groupK groupB
  simp only [frK_eq]
  rcases smallK_cases f with ⟨sf, lf⟩ | sf
  case inr => simp [sf, forceB_eq]
  rcases smallK_cases g with ⟨sg, lg⟩ | sg
  case inr => simp [sf, sg, forceB_eq]
  rcases smallK_cases h with ⟨sh, lh⟩ | sh
  case inr => simp [sf, sg, sh, forceB_eq]
  simp only [sf, sg, sh, forceB_eq]
  have il := fr_is lf
  have im := fr_is lg
  have in_ := fr_is lh
  generalize f.mp = l at *
  generalize g.mp = m at *
  generalize h.mp = n at *
  generalize f.gm = L at *
  generalize g.gm = M at *
  generalize h.gm = N at *
  rw [chkK_int il lf (by decide) (by decide)]
  by_cases dl : L.No
  · simp [dl]
  simp only [dl, if_false, bne_self_eq_false]
  rw [chkK_int im lg (by decide) (by decide)]
  by_cases dm : M.No
  · simp [dm]
  simp only [dm, if_false, bne_self_eq_false]
  rw [chkK_int in_ lh (by decide) (by decide)]
  by_cases dn : N.No
  · simp [dn]
  simp only [dn, if_false, bne_self_eq_false]
  obtain ⟨lm, ilm, elm⟩ := thenK_int il im lf lg (by decide) (by decide) (by decide) dl dm
  obtain ⟨mn, imn, emn⟩ := thenK_int im in_ lg lh (by decide) (by decide) (by decide) dm dn
  obtain ⟨le, ile, ele⟩ := thenK_int ilm in_ (cat_le lf lg) lh (by decide) (by decide) (by decide) (cat_no dl dm) dn
  obtain ⟨ri, iri, eri⟩ := thenK_int il imn lf (cat_le lg lh) (by decide) (by decide) (by decide) dl (cat_no dm dn)
  obtain ⟨ba, iba, eba⟩ := turnedK_int il lf (by decide) dl
  have lb : L.back.Le 8 := ⟨lf.d1, lf.d2, by simp [GM.back]; exact lf.b1, by simp [GM.back]; exact lf.b2, by simp [GM.back]; exact lf.c1, by simp [GM.back]; exact lf.c2, lf.a1, lf.a2⟩
  obtain ⟨no, ino, eno⟩ := thenK_int il iba lf lb (by decide) (by decide) (by decide) dl (back_no dl)
  rw [elm, emn, ele, eri]
  rw [cat_assoc] at ile
  rw [alikeK_int ile iri]
  simp only
  rw [eba, eno]
  rw [cat_back] at ino
  unfold gTail
  obtain ⟨s, t, g1, g2, g3, g4⟩ := mulK_int il.a il.d lf.a1 lf.a2 lf.d1 lf.d2 (by decide)
  obtain ⟨s', t', g1', g2', g3', g4'⟩ := mulK_int il.b il.c lf.b1 lf.b2 lf.c1 lf.c2 (by decide)
  obtain ⟨p, q, f1, f2⟩ := subK_int g1 g1' (by omega) (by omega)
  rw [g4, g4', f2]
  simp only [forceB_eq, beq_self_eq_true]
  have f1' : IsC p q L.x L.y := f1
  unfold gRest
  rw [LikeK_int ino.a f1']
  simp only [and_self, decide_true, forceB_eq]
  rw [LikeK_int ino.d f1']
  simp only [and_self, decide_true, forceB_eq]
  rw [eqF_is ino.b.1 is_zero, eqF_is ino.b.2 is_zero, eqF_is ino.c.1 is_zero, eqF_is ino.c.2 is_zero]
  simp
end Go.Vm
namespace Go.Vm
open Ieee
set_option linter.unusedVariables false
set_option linter.unusedSimpArgs false

/-! ### Quotients -/
structure Rnd2 (x z : Rat) : Prop where
  near : (z - x).abs ≤ x.abs * (2 : Rat) ^ (-52 : Int) ∨ (z - x).abs ≤ (2 : Rat) ^ (-1074 : Int)
  rep : ∀ (K : Int) (q : Int), K.natAbs < 2 ^ 53 → -1074 ≤ q → x = K * (2 : Rat) ^ q → z = x

theorem abs_zero : ((0 : Rat)).abs = 0 := by rw [Rat.abs_of_nonneg (by decide)]
theorem abs_add_le (x y : Rat) : (x + y).abs ≤ x.abs + y.abs := by
  rw [abs_le_iff]
  have h1 := (abs_le_iff (x := x) (y := x.abs)).1 Rat.le_refl
  have h2 := (abs_le_iff (x := y) (y := y.abs)).1 Rat.le_refl
  grind
theorem abs_neg (x : Rat) : (-x).abs = x.abs := by
  have := abs_mul (-1) x
  rw [show (-1 : Rat) * x = -x by grind] at this
  rw [this]
  have : ((-1 : Rat)).abs = 1 := by rw [Rat.abs_of_nonpos (by decide)]; rfl
  rw [this]; grind
theorem abs_sub_comm (x y : Rat) : (x - y).abs = (y - x).abs := by rw [← abs_neg (x - y)]; congr 1; grind

theorem p2_one : (2 : Rat) ^ (1 : Int) = 2 := by simp
theorem p2_succ (q : Int) : (2 : Rat) ^ (q + 1) = 2 * (2 : Rat) ^ q := by rw [p2_add, p2_one]; grind
theorem p2_half (q : Int) : (2 : Rat) ^ q = 2 * (2 : Rat) ^ (q - 1) := by rw [← p2_succ]; congr 1; omega

/-- A quotient with its sticky digit: the value that is rounded, and the true one. -/
theorem quotient_val {s t : Bool} {m n : Nat} {i j : Int} (hn : n ≠ 0) : ∃ b k e, Datum.quotient 54 (.number s m i) (.number t n j) = some (.number b k e) ∧
    (dv b k e - dv s m i / dv t n j).abs ≤ (dv s m i / dv t n j).abs * (2 : Rat) ^ (-54 : Int) ∧
    (∀ (K : Int) (q : Int), K.natAbs < 2 ^ 53 → dv s m i / dv t n j = K * (2 : Rat) ^ q → dv b k e = dv s m i / dv t n j) := by
  refine ⟨_, _, _, by unfold Datum.quotient; simp only [hn, if_false]; rfl, ?_⟩
  have hn0 : (0 : Rat) < (n : Rat) := by exact_mod_cast Nat.pos_of_ne_zero hn
  generalize hmore : 54 + n.log2 - m.log2 = more
  generalize hD : m <<< more = D
  have hDm : D = m * 2 ^ more := by rw [← hD, Nat.shiftLeft_eq]
  have hE0 := p2_pos (i - j - more)
  have hj0 := p2_pos j
  have hi0 := p2_pos i
  have hq : dv s m i / dv t n j = sg (s ^^ t) * (((D : Rat) / n) * (2 : Rat) ^ (i - j - more)) := by
    have e1 : (2 : Rat) ^ i = (2 : Rat) ^ (i - j - more) * (2 : Rat) ^ j * (2 : Rat) ^ (more : Int) := by
      rw [← p2_add, ← p2_add]; congr 1; omega
    have e2 : (D : Rat) = m * (2 : Rat) ^ (more : Int) := by rw [hDm, p2_nat]; push_cast; rfl
    have hu : dv t n j ≠ 0 := by
      unfold dv
      intro h
      rcases Rat.mul_eq_zero.1 h with h | h
      · cases t <;> simp [sg] at h <;> grind
      · rcases Rat.mul_eq_zero.1 h with h | h <;> grind
    have hd : (D : Rat) / n * n = D := Rat.div_mul_cancel (by grind)
    rw [Rat.div_def]
    have hx : dv s m i = sg (s ^^ t) * (((D : Rat) / n) * (2 : Rat) ^ (i - j - more)) * dv t n j := by
      unfold dv
      rw [sg_xor, e1]
      have hs2 : sg t * sg t = 1 := by cases t <;> simp [sg] <;> grind
      have : sg s * sg t * ((D : Rat) / n * (2 : Rat) ^ (i - j - more)) * (sg t * (n * (2 : Rat) ^ j)) = sg s * (sg t * sg t) * (((D : Rat) / n * n) * (2 : Rat) ^ (i - j - more) * (2 : Rat) ^ j) := by grind
      rw [this, hs2, hd, e2]
      grind
    rw [hx, Rat.mul_assoc, Rat.mul_inv_cancel _ hu]
    grind
  have hdm := Nat.div_add_mod D n
  have hlt := Nat.mod_lt D (Nat.pos_of_ne_zero hn)
  have hdmr : (n : Rat) * ((D / n : Nat) : Rat) + ((D % n : Nat) : Rat) = D := by exact_mod_cast congrArg (fun z : Nat => (z : Rat)) hdm
  have hval : ((D : Rat) / n) = ((D / n : Nat) : Rat) + ((D % n : Nat) : Rat) / n := by
    have h1 : ((D : Rat) / n) * n = D := Rat.div_mul_cancel (by grind)
    have h2 : (((D % n : Nat) : Rat) / n) * n = ((D % n : Nat) : Rat) := Rat.div_mul_cancel (by grind)
    have h3 : ((D : Rat) / n - (((D / n : Nat) : Rat) + ((D % n : Nat) : Rat) / n)) * n = 0 := by grind
    rcases Rat.mul_eq_zero.1 h3 with h | h <;> grind
  have hfl : m ≠ 0 → 2 ^ 53 ≤ D / n := fun hm => by
    rw [Nat.le_div_iff_mul_le (Nat.pos_of_ne_zero hn)]
    have h1 : 2 ^ m.log2 ≤ m := Nat.log2_self_le hm
    have h2 : n < 2 ^ (n.log2 + 1) := Nat.lt_log2_self
    have h3 : 2 ^ m.log2 * 2 ^ more ≤ D := by rw [hDm]; exact Nat.mul_le_mul_right _ h1
    rw [← Nat.pow_add] at h3
    have h4 : 2 ^ (54 + n.log2) ≤ 2 ^ (m.log2 + more) := Nat.pow_le_pow_right (by decide) (by omega)
    have h5 : 2 ^ 53 * n ≤ 2 ^ 53 * 2 ^ (n.log2 + 1) := Nat.mul_le_mul_left _ (by omega)
    rw [← Nat.pow_add, show 53 + (n.log2 + 1) = 54 + n.log2 by omega] at h5
    omega
  generalize hf : D / n = f at *
  generalize hr : D % n = r at *
  have hb : dv (s ^^ t) (2 * f + (r != 0).toNat) (i - j - more - 1) = sg (s ^^ t) * (((f : Rat) + (if r = 0 then 0 else 1 / 2)) * (2 : Rat) ^ (i - j - more)) := by
    unfold dv
    rw [p2_half (i - j - more)]
    by_cases h0 : r = 0
    · simp [h0]; grind
    · have : (r != 0) = true := by simp [h0]
      simp only [this, Bool.toNat_true, h0, if_false]
      push_cast
      grind
  have hr0 : (0 : Rat) ≤ (r : Rat) / n := by
    have h1 : (r : Rat) / n * n = r := Rat.div_mul_cancel (by grind)
    have h2 : (0 : Rat) ≤ (r : Rat) := by exact_mod_cast Nat.zero_le _
    refine Rat.not_lt.1 fun hlt' => ?_
    have := Rat.mul_lt_mul_of_pos_right hlt' hn0
    grind
  have hr1 : (r : Rat) / n < 1 := by
    have h1 : (r : Rat) / n * n = r := Rat.div_mul_cancel (by grind)
    have h2 : (r : Rat) < (n : Rat) := nat_cast_lt hlt
    refine Rat.not_le.1 fun hle' => ?_
    have := Rat.mul_le_mul_of_nonneg_right hle' (Rat.le_of_lt hn0)
    grind
  generalize hR : (r : Rat) / n = rho at *
  constructor
  · rw [hb, hq, hval]
    by_cases h0 : r = 0
    · have hrho : rho = 0 := by
        have : (r : Rat) = 0 := by simp [h0]
        rw [← hR, this, Rat.div_def]; simp
      simp only [h0, if_true, hrho]
      rw [Rat.sub_self, abs_zero]
      exact Rat.mul_nonneg (abs_nonneg _) (Rat.le_of_lt (p2_pos _))
    · have hm : m ≠ 0 := by
        rintro rfl
        have : D = 0 := by simp [hDm]
        rw [this] at hr
        simp at hr
        exact h0 hr.symm
      simp only [h0, if_false]
      have e1 : sg (s ^^ t) * (((f : Rat) + 1 / 2) * (2 : Rat) ^ (i - j - more)) - sg (s ^^ t) * ((f + rho) * (2 : Rat) ^ (i - j - more)) = sg (s ^^ t) * ((1 / 2 - rho) * (2 : Rat) ^ (i - j - more)) := by grind
      rw [e1, sg_abs, sg_abs, abs_mul, abs_mul]
      have e2 : (1 / 2 - rho).abs ≤ 1 / 2 := by rw [abs_le_iff]; constructor <;> grind
      have e3 : ((2 : Rat) ^ (53 : Int)) ≤ ((f : Rat) + rho).abs := by
        have h1 : ((2 ^ 53 : Nat) : Rat) ≤ (f : Rat) := nat_cast_le (hfl hm)
        have h2 : (2 : Rat) ^ (53 : Int) = ((2 ^ 53 : Nat) : Rat) := p2_nat 53
        have h3 := (abs_le_iff (x := (f : Rat) + rho) (y := ((f : Rat) + rho).abs)).1 Rat.le_refl
        rw [h2]
        grind
      have e4 : (2 : Rat) ^ (53 : Int) * (2 : Rat) ^ (-54 : Int) = 1 / 2 := by
        rw [← p2_add, show (53 + -54 : Int) = -1 by decide]
        have := p2_half 0
        rw [Rat.zpow_zero, show (0 - 1 : Int) = -1 by decide] at this
        grind
      have e5 := Rat.mul_le_mul_of_nonneg_right e3 (Rat.le_of_lt (p2_pos (-54)))
      rw [e4] at e5
      have e6 : ((2 : Rat) ^ (i - j - more)).abs = (2 : Rat) ^ (i - j - more) := Rat.abs_of_nonneg (Rat.le_of_lt hE0)
      rw [e6]
      have e7 := Rat.mul_le_mul_of_nonneg_right (Rat.le_trans e2 e5) (Rat.le_of_lt hE0)
      grind
  · intro K q hK he
    rw [hb, hq, hval]
    by_cases h0 : r = 0
    · have hrho : rho = 0 := by
        have : (r : Rat) = 0 := by simp [h0]
        rw [← hR, this, Rat.div_def]; simp
      simp only [h0, if_true, hrho]
    · exfalso
      have hm : m ≠ 0 := by
        rintro rfl
        have : D = 0 := by simp [hDm]
        rw [this] at hr
        simp at hr
        exact h0 hr.symm
      rw [hq, hval] at he
      have habs := congrArg Rat.abs he
      rw [sg_abs, abs_mul, abs_mul] at habs
      have e6 : ((2 : Rat) ^ (i - j - more)).abs = (2 : Rat) ^ (i - j - more) := Rat.abs_of_nonneg (Rat.le_of_lt hE0)
      have e7 : ((2 : Rat) ^ q).abs = (2 : Rat) ^ q := Rat.abs_of_nonneg (Rat.le_of_lt (p2_pos q))
      have hf0 : (0 : Rat) ≤ (f : Rat) := by exact_mod_cast Nat.zero_le _
      have e8 : ((f : Rat) + rho).abs = f + rho := Rat.abs_of_nonneg (by grind)
      have e9 : ((K : Rat)).abs = ((K.natAbs : Nat) : Rat) := by
        have := dv_abs (decide (K < 0)) K.natAbs 0
        rw [int_dv K (decide (K < 0)) 0 fun _ => rfl] at this
        simpa using this
      rw [e6, e7, e8, e9] at habs
      -- the unit divides
      have h1 : ((2 ^ 53 : Nat) : Rat) ≤ (f : Rat) := nat_cast_le (hfl hm)
      have h2 : ((K.natAbs : Nat) : Rat) < ((2 ^ 53 : Nat) : Rat) := nat_cast_lt hK
      have hlt2 : i - j - more < q := by
        refine p2_lt_of (Rat.not_le.1 fun hle => ?_)
        have g1 : ((K.natAbs : Nat) : Rat) * (2 : Rat) ^ q ≤ ((K.natAbs : Nat) : Rat) * (2 : Rat) ^ (i - j - more) := Rat.mul_le_mul_of_nonneg_left hle (by exact_mod_cast Nat.zero_le _)
        have g2 : ((K.natAbs : Nat) : Rat) * (2 : Rat) ^ (i - j - more) < ((f : Rat) + rho) * (2 : Rat) ^ (i - j - more) := Rat.mul_lt_mul_of_pos_right (by grind) hE0
        grind
      obtain ⟨c, hc⟩ := Int.eq_ofNat_of_zero_le (show 0 ≤ q - (i - j - more) by omega)
      have h3 : ((f : Rat) + rho) = ((K.natAbs * 2 ^ c : Nat) : Rat) := by
        have g3 : (2 : Rat) ^ q = (2 : Rat) ^ (c : Int) * (2 : Rat) ^ (i - j - more) := by rw [← p2_add]; congr 1; omega
        rw [g3, p2_nat] at habs
        have g4 : (((f : Rat) + rho) - ((K.natAbs * 2 ^ c : Nat) : Rat)) * (2 : Rat) ^ (i - j - more) = 0 := by push_cast at *; grind
        rcases Rat.mul_eq_zero.1 g4 with h | h <;> grind
      have h4 : rho = 0 := by
        have g5 : (f : Rat) ≤ ((K.natAbs * 2 ^ c : Nat) : Rat) := by grind
        have g6 : ((K.natAbs * 2 ^ c : Nat) : Rat) < ((f + 1 : Nat) : Rat) := by push_cast at *; grind
        have g7 : f ≤ K.natAbs * 2 ^ c := by exact_mod_cast g5
        have g8 : K.natAbs * 2 ^ c < f + 1 := nat_of_lt g6
        have g9 : K.natAbs * 2 ^ c = f := by omega
        rw [g9] at h3
        grind
      have h5 : (r : Rat) = 0 := by
        have := Rat.div_mul_cancel (a := (r : Rat)) (b := (n : Rat)) (by grind)
        rw [hR, h4] at this
        grind
      exact h0 (by exact_mod_cast h5)

theorem abs_le_self (x : Rat) : x ≤ x.abs ∧ -x.abs ≤ x := by
  have := (abs_le_iff (x := x) (y := x.abs)).1 Rat.le_refl
  grind

theorem tri {x y z : Rat} : (x - z).abs ≤ (x - y).abs + (y - z).abs := by
  have := abs_add_le (x - y) (y - z)
  rw [show x - y + (y - z) = x - z by grind] at this
  exact this

theorem div_is {a b : Nat} {x y : Rat} (ha : Is a x) (hb : Is b y) (hy : y ≠ 0) (h : (x / y).abs < (2 : Rat) ^ (1022 : Int)) :
    ∃ r z, fbF .quo a b = some r ∧ Is r z ∧ Rnd2 (x / y) z := by
  obtain ⟨_, s, m, i, h1, rfl⟩ := ha
  obtain ⟨_, t, n, j, h2, rfl⟩ := hb
  have hn : n ≠ 0 := by rintro rfl; exact hy (dv_zero _ _)
  obtain ⟨c, k, e, h3, h4, h5⟩ := @quotient_val s t m n i j hn
  generalize dv s m i / dv t n j = q at *
  generalize hd : dv c k e = v at *
  have hv : v.abs ≤ q.abs + q.abs * (2 : Rat) ^ (-54 : Int) := by
    have := abs_add_le (v - q) q
    rw [show v - q + q = v by grind] at this
    grind
  have p54 : (2 : Rat) ^ (-54 : Int) ≤ 1 := by
    have := p2_le (show (-54 : Int) ≤ 0 by decide)
    rwa [Rat.zpow_zero] at this
  have hq0 := abs_nonneg q
  have hlt : v.abs < (2 : Rat) ^ (1023 : Int) := by
    have g1 := Rat.mul_le_mul_of_nonneg_left p54 hq0
    have g2 := p2_half 1023
    rw [show (1023 - 1 : Int) = 1022 by decide] at g2
    grind
  rw [← hd] at hlt
  obtain ⟨z, g1, g2⟩ := number_is hlt
  rw [hd] at g2
  refine ⟨_, z, ?_, g1, ?_, ?_⟩
  · rw [fbF_eq]
    show double.div a b = _
    unfold Format.div
    rw [h1, h2]
    have : double.fractionBits + 2 = 54 := by decide
    rw [this, h3]
    rfl
  · have ht := @tri z v q
    have e53 : (2 : Rat) ^ (-53 : Int) = 2 * (2 : Rat) ^ (-54 : Int) := p2_half (-53)
    have e52 : (2 : Rat) ^ (-52 : Int) = 2 * (2 : Rat) ^ (-53 : Int) := p2_half (-52)
    have f1 : q.abs * (2 : Rat) ^ (-54 : Int) ≤ q.abs := by have := Rat.mul_le_mul_of_nonneg_left p54 hq0; grind
    have p0 := p2_pos (-54)
    have p1 := p2_pos (-53)
    rcases g2.near with h | h
    · left
      have f2 : v.abs * (2 : Rat) ^ (-53 : Int) ≤ (q.abs + q.abs * (2 : Rat) ^ (-54 : Int)) * (2 : Rat) ^ (-53 : Int) := Rat.mul_le_mul_of_nonneg_right hv (Rat.le_of_lt p1)
      have p53 : (2 : Rat) ^ (-53 : Int) ≤ 1 / 2 := by
        have := p2_le (show (-53 : Int) ≤ -1 by decide)
        have h0 := p2_half 0
        rw [Rat.zpow_zero, show (0 - 1 : Int) = -1 by decide] at h0
        grind
      have f3 := Rat.mul_le_mul_of_nonneg_left p53 (Rat.mul_nonneg hq0 (Rat.le_of_lt p0))
      grind
    · by_cases hc : q.abs * (2 : Rat) ^ (-54 : Int) ≤ (2 : Rat) ^ (-1075 : Int)
      · right
        have := p2_half (-1074)
        rw [show (-1074 - 1 : Int) = -1075 by decide] at this
        grind
      · left
        have f4 := Rat.mul_nonneg hq0 (Rat.le_of_lt p0)
        grind
  · intro K q' hK hq' he
    have hx := h5 K q' hK he
    rw [hx] at g2
    exact g2.rep K q' hK hq' he

/-! ### Roots -/
theorem rootFrom_spec (n : Nat) : ∀ (todo root : Nat), root * root ≤ n → n < (root + 2 ^ todo) * (root + 2 ^ todo) →
    Datum.rootFrom n todo root * Datum.rootFrom n todo root ≤ n ∧ n < (Datum.rootFrom n todo root + 1) * (Datum.rootFrom n todo root + 1)
  | 0, root, h1, h2 => by
    unfold Datum.rootFrom
    exact ⟨h1, by simpa using h2⟩
  | todo + 1, root, h1, h2 => by
    unfold Datum.rootFrom
    simp only [Nat.shiftLeft_eq, Nat.one_mul]
    split
    · rename_i h
      refine rootFrom_spec n todo _ h ?_
      have : root + 2 ^ todo + 2 ^ todo = root + 2 ^ (todo + 1) := by rw [Nat.pow_succ]; omega
      rw [this]; exact h2
    · rename_i h
      exact rootFrom_spec n todo _ h1 (by omega)

theorem root_val {m : Nat} {i : Int} (hm : m ≠ 0) : ∃ k e, Datum.root 54 (.number false m i) = some (.number false k e) ∧
    (dv false k e * dv false k e - dv false m i).abs ≤ dv false m i * (2 : Rat) ^ (-53 : Int) ∧ 0 < dv false k e := by
  refine ⟨_, _, by unfold Datum.root; simp only [hm, if_false, Bool.false_eq_true]; rfl, ?_⟩
  generalize hmore : 2 * 54 - m.log2 = more
  have hpar : (i - ((more + ((i - (more : Int)) % 2).toNat : Nat) : Int)) % 2 = 0 := by omega
  generalize hm2 : more + ((i - (more : Int)) % 2).toNat = mo at *
  have hmo : 108 - m.log2 ≤ mo := by omega
  generalize hn : m <<< mo = n
  have hnm : n = m * 2 ^ mo := by rw [← hn, Nat.shiftLeft_eq]
  have hL1 : 2 ^ m.log2 ≤ m := Nat.log2_self_le hm
  have hn108 : 2 ^ 54 * 2 ^ 54 ≤ n := by
    rw [hnm, ← Nat.pow_add]
    have h1 := Nat.mul_le_mul_right (2 ^ mo) hL1
    rw [← Nat.pow_add] at h1
    have h2 : 2 ^ (54 + 54) ≤ 2 ^ (m.log2 + mo) := Nat.pow_le_pow_right (by decide) (by omega)
    omega
  obtain ⟨r1, r2⟩ := rootFrom_spec n (n.log2 / 2 + 1) 0 (by omega) (by
    have h1 : n < 2 ^ (n.log2 + 1) := Nat.lt_log2_self
    have h2 : 2 ^ (n.log2 + 1) ≤ 2 ^ ((n.log2 / 2 + 1) + (n.log2 / 2 + 1)) := Nat.pow_le_pow_right (by decide) (by omega)
    rw [Nat.pow_add 2 (n.log2 / 2 + 1) (n.log2 / 2 + 1)] at h2
    simp only [Nat.zero_add]
    omega)
  generalize Datum.rootFrom n (n.log2 / 2 + 1) 0 = w at *
  have hw : 2 ^ 54 ≤ w := by
    refine Nat.not_lt.1 fun hlt => ?_
    have := Nat.mul_le_mul (show w + 1 ≤ 2 ^ 54 by omega) (show w + 1 ≤ 2 ^ 54 by omega)
    omega
  generalize hE : (i - (mo : Int)) / 2 = E at *
  have hiE : i = (mo : Int) + (E + E) := by omega
  have hu := p2_pos E
  have hx : dv false m i = (n : Rat) * ((2 : Rat) ^ E * (2 : Rat) ^ E) := by
    unfold dv sg
    rw [hiE, p2_add, p2_add, p2_nat, hnm]
    push_cast
    simp
    grind
  have hv : dv false (2 * w + (w * w != n).toNat) (E - 1) = ((w : Rat) + (if w * w = n then 0 else 1 / 2)) * (2 : Rat) ^ E := by
    unfold dv sg
    rw [p2_half E]
    by_cases h0 : w * w = n
    · have : (w * w != n) = false := by simp [h0]
      simp only [this, Bool.toNat_false, h0, if_true]
      push_cast
      simp
      grind
    · have : (w * w != n) = true := by simp [h0]
      simp only [this, Bool.toNat_true, h0, if_false]
      push_cast
      simp
      grind
  rw [hx, hv]
  have hw0 : (0 : Rat) < (w : Rat) := by have : 0 < w := by omega
                                         exact_mod_cast this
  generalize (2 : Rat) ^ E = u at *
  constructor
  · by_cases h0 : w * w = n
    · simp only [h0, if_true]
      have : ((n : Nat) : Rat) = (w : Rat) * w := by rw [← h0]; push_cast; rfl
      have e : (((w : Rat) + 0) * u * (((w : Rat) + 0) * u) - (n : Rat) * (u * u)) = 0 := by rw [this]; grind
      rw [e, abs_zero]
      have h1 : (0 : Rat) ≤ (n : Rat) := by exact_mod_cast Nat.zero_le _
      exact Rat.mul_nonneg (Rat.mul_nonneg h1 (Rat.mul_nonneg (Rat.le_of_lt hu) (Rat.le_of_lt hu))) (Rat.le_of_lt (p2_pos _))
    · simp only [h0, if_false]
      have e : (((w : Rat) + 1 / 2) * u * (((w : Rat) + 1 / 2) * u) - (n : Rat) * (u * u)) = ((w : Rat) * w + w + 1 / 4 - n) * (u * u) := by grind
      rw [e, abs_mul, Rat.abs_of_nonneg (Rat.mul_nonneg (Rat.le_of_lt hu) (Rat.le_of_lt hu))]
      have n1 : w * w + 1 ≤ n := by omega
      have n2 : n ≤ w * w + w + w := by
        have : (w + 1) * (w + 1) = w * w + w + w + 1 := by grind
        omega
      have q1 : (w : Rat) * w + 1 ≤ n := by exact_mod_cast n1
      have q2 : (n : Rat) ≤ (w : Rat) * w + w + w := by exact_mod_cast n2
      have q3 : ((w : Rat) * w + w + 1 / 4 - n).abs ≤ w := by rw [abs_le_iff]; constructor <;> grind
      have q4 : (w : Rat) ≤ n * (2 : Rat) ^ (-53 : Int) := by
        have f1 : ((2 ^ 53 : Nat) : Rat) ≤ (w : Rat) := nat_cast_le (by omega)
        have f2 : (2 : Rat) ^ (53 : Int) = ((2 ^ 53 : Nat) : Rat) := p2_nat 53
        have f3 : (2 : Rat) ^ (53 : Int) * (2 : Rat) ^ (-53 : Int) = 1 := by rw [← p2_add, show (53 + -53 : Int) = 0 by decide, Rat.zpow_zero]
        have f4 := Rat.mul_le_mul_of_nonneg_left f1 (Rat.le_of_lt hw0)
        rw [← f2] at f4
        have f5 := Rat.mul_le_mul_of_nonneg_right (Rat.le_trans f4 (show (w : Rat) * w ≤ n by grind)) (Rat.le_of_lt (p2_pos (-53)))
        have f6 : (w : Rat) * (2 : Rat) ^ (53 : Int) * (2 : Rat) ^ (-53 : Int) = w := by rw [Rat.mul_assoc, f3]; grind
        rwa [f6] at f5
      have := Rat.mul_le_mul_of_nonneg_right (Rat.le_trans q3 q4) (Rat.mul_nonneg (Rat.le_of_lt hu) (Rat.le_of_lt hu))
      grind
  · refine Rat.mul_pos ?_ hu
    split <;> grind

theorem sqrt_is {a : Nat} {x : Rat} (ha : Is a x) (hx : 0 < x) (hlt : x < (2 : Rat) ^ (1000 : Int)) (hgt : (2 : Rat) ^ (-1000 : Int) < x) :
    ∃ r z, double.sqrt a = some r ∧ Is r z ∧ 0 < z ∧ (z * z - x).abs ≤ x * (2 : Rat) ^ (-51 : Int) := by
  obtain ⟨_, s, m, i, h1, h2⟩ := ha
  have hm : m ≠ 0 := by rintro rfl; rw [dv_zero] at h2; grind
  have hs : s = false := by
    cases s
    · rfl
    · exfalso
      have h3 : (0 : Rat) ≤ (m : Rat) * (2 : Rat) ^ i := Rat.mul_nonneg (by exact_mod_cast Nat.zero_le _) (Rat.le_of_lt (p2_pos i))
      unfold dv sg at h2
      simp only [if_true] at h2
      grind
  subst hs
  obtain ⟨k, e, h3, h4, h5⟩ := @root_val m i hm
  rw [h2] at h4
  generalize hd : dv false k e = v at *
  have e53 : (2 : Rat) ^ (-53 : Int) ≤ 1 / 100 := by
    have h6 := p2_le (show (-53 : Int) ≤ -7 by decide)
    have h7 : (2 : Rat) ^ (-7 : Int) * (2 : Rat) ^ (7 : Int) = 1 := by rw [← p2_add, show (-7 + 7 : Int) = 0 by decide, Rat.zpow_zero]
    have h8 : (2 : Rat) ^ (7 : Int) = 128 := by rw [show (7 : Int) = ((7 : Nat) : Int) by rfl, p2_nat]; rfl
    rw [h8] at h7
    grind
  have e51 : (2 : Rat) ^ (-51 : Int) = 4 * (2 : Rat) ^ (-53 : Int) := by
    have h6 := p2_half (-51)
    have h7 := p2_half (-52)
    rw [show (-51 - 1 : Int) = -52 by decide] at h6
    rw [show (-52 - 1 : Int) = -53 by decide] at h7
    grind
  have p53 := p2_pos (-53)
  have hv2 := abs_le_iff.1 h4
  have hxe := Rat.mul_le_mul_of_nonneg_left e53 (Rat.le_of_lt hx)
  have hvlt : v < (2 : Rat) ^ (1023 : Int) := by
    refine Rat.not_le.1 fun hle => ?_
    have h6 : (2 : Rat) ^ (1023 : Int) * (2 : Rat) ^ (1023 : Int) ≤ v * v :=
      Rat.le_trans (Rat.mul_le_mul_of_nonneg_left hle (Rat.le_of_lt (p2_pos 1023))) (Rat.mul_le_mul_of_nonneg_right hle (Rat.le_of_lt h5))
    rw [← p2_add] at h6
    have h7 := p2_le (show (1001 : Int) ≤ 1023 + 1023 by decide)
    have h8 := p2_half 1001
    rw [show (1001 - 1 : Int) = 1000 by decide] at h8
    grind
  have hvgt : (2 : Rat) ^ (-1000 : Int) ≤ v := by
    refine Rat.not_lt.1 fun hl => ?_
    have h6 : v * v ≤ (2 : Rat) ^ (-1000 : Int) * (2 : Rat) ^ (-1000 : Int) :=
      Rat.le_trans (Rat.mul_le_mul_of_nonneg_left (Rat.le_of_lt hl) (Rat.le_of_lt h5)) (Rat.mul_le_mul_of_nonneg_right (Rat.le_of_lt hl) (Rat.le_of_lt (p2_pos (-1000))))
    rw [← p2_add] at h6
    have h7 := p2_le (show (-1000 + -1000 : Int) ≤ -1001 by decide)
    have h8 := p2_half (-1000)
    rw [show (-1000 - 1 : Int) = -1001 by decide] at h8
    grind
  have hvabs : v.abs = v := Rat.abs_of_nonneg (Rat.le_of_lt h5)
  obtain ⟨z, g1, g2⟩ := number_is (s := false) (m := k) (i := e) (by rw [hd, hvabs]; exact hvlt)
  rw [hd] at g2
  have hD : (z - v).abs ≤ v * (2 : Rat) ^ (-53 : Int) := by
    rcases g2.near with h | h
    · rwa [hvabs] at h
    · have h6 := Rat.mul_le_mul_of_nonneg_right hvgt (Rat.le_of_lt p53)
      rw [← p2_add] at h6
      have h7 := p2_le (show (-1075 : Int) ≤ -1000 + -53 by decide)
      grind
  refine ⟨_, z, ?_, g1, ?_, ?_⟩
  · show Format.sqrt double a = _
    unfold Format.sqrt
    rw [h1]
    have : double.fractionBits + 2 = 54 := by decide
    rw [this, h3]
    rfl
  · have h6 := abs_le_iff.1 hD
    have h7 := Rat.mul_le_mul_of_nonneg_left e53 (Rat.le_of_lt h5)
    grind
  · have h6 := abs_le_iff.1 hD
    generalize (2 : Rat) ^ (-53 : Int) = ep at *
    rw [e51]
    generalize hDD : z - v = D at *
    have hz : z = v + D := by grind
    have h7 := Rat.mul_le_mul_of_nonneg_left h6.1 (Rat.le_of_lt h5)
    have h8 := Rat.mul_le_mul_of_nonneg_left h6.2 (Rat.le_of_lt h5)
    have h9 := Rat.mul_nonneg (show 0 ≤ v * ep - D by grind) (show 0 ≤ v * ep + D by grind)
    have h10 := Rat.mul_le_mul_of_nonneg_left e53 (Rat.mul_nonneg (Rat.mul_nonneg (Rat.le_of_lt h5) (Rat.le_of_lt h5)) (Rat.le_of_lt p53))
    have h11 : 0 ≤ D * D := by
      rcases (Rat.le_total : 0 ≤ D ∨ D ≤ 0) with h | h
      · exact Rat.mul_nonneg h h
      · have := Rat.mul_nonneg (show 0 ≤ -D by grind) (show 0 ≤ -D by grind); grind
    have h12 : v * v ≤ x + x * ep := by grind
    have h13 := Rat.mul_le_mul_of_nonneg_right h12 (Rat.le_of_lt p53)
    have h14 := Rat.mul_le_mul_of_nonneg_left e53 (Rat.mul_nonneg (Rat.le_of_lt hx) (Rat.le_of_lt p53))
    rw [abs_le_iff, hz]
    constructor <;> grind
end Go.Vm
