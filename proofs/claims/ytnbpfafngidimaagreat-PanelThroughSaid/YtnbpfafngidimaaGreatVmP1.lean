/- Sums and products of whole words are exact below 2 to the 53; no conditions. What the functions of packages math and roots compute, in Lean; no conditions. The fields of a word; no conditions. Words that are finite, their greatest part, their powers of two; no conditions. A word times a power of two is rounded once; no conditions. Length and nearness on words; no conditions. -/
import Derived.Test.YtnbpfafngidimaaGreatVmM
import Derived.Test.YtnbpfafngidimaaGreatVmF2
namespace Go.Vm
open Ieee
set_option linter.unusedVariables false
set_option linter.unusedSimpArgs false

/-! ### Exact whole numbers -/
theorem bindF_eq {R : Type} {o : Option Nat} {n : Nat} {k : Nat → Option R} (h : o = some n) : bindF o k = k n := by subst h; simp [bindF, forceN_eq]

theorem is_zero : Is 0 ((0 : Int) : Rat) := ⟨by decide, false, 0, -1074, by decide, dv_zero _ _⟩

theorem eqF_is {a b : Nat} {x y : Rat} (ha : Is a x) (hb : Is b y) : eqF a b = decide (x = y) := by
  unfold eqF
  rw [order_is ha hb]
  by_cases h1 : x < y
  · have : ¬ x = y := by grind
    simp [h1, this]
  · by_cases h2 : x = y
    · subst h2
      simp [h1]
    · simp [h1, h2]
theorem neF_is {a b : Nat} {x y : Rat} (ha : Is a x) (hb : Is b y) : neF a b = !decide (x = y) := by
  rw [← eqF_is ha hb]; unfold neF eqF; rfl
theorem leF_is {a b : Nat} {x y : Rat} (ha : Is a x) (hb : Is b y) : leF a b = decide (x ≤ y) := by
  unfold leF
  rw [order_is ha hb]
  by_cases h1 : x < y
  · have : x ≤ y := by grind
    simp [h1, this]
  · by_cases h2 : x = y
    · subst h2
      simp [h1]
    · have : ¬ x ≤ y := by grind
      simp [h1, h2, this]

theorem int_eq_iff {x y : Int} : ((x : Rat) = (y : Rat)) ↔ x = y := by
  constructor
  · intro h; exact_mod_cast h
  · rintro rfl; rfl

def LikeK : KCCB := LikeB likeK
theorem absW_eq (a : Nat) : absW a = a % 2 ^ 63 := by
  unfold absW
  have h1 : ((BitVec.ofInt 64 a &&& ~~~(BitVec.ofInt 64 9223372036854775808)).toNat : Nat) = a % 2 ^ 63 := by
    have e1 : BitVec.ofInt 64 a = BitVec.ofNat 64 a := by simp
    have e2 : (~~~(BitVec.ofInt 64 9223372036854775808)) = BitVec.ofNat 64 (2 ^ 63 - 1) := by decide
    rw [e1, e2, BitVec.toNat_and, BitVec.toNat_ofNat, BitVec.toNat_ofNat]
    rw [show (2 ^ 63 - 1) % 2 ^ 64 = 2 ^ 63 - 1 by decide, Nat.and_two_pow_sub_one_eq_mod]
    omega
  rw [h1]
  have h2 : a % 2 ^ 63 < 2 ^ 63 := Nat.mod_lt _ (by decide)
  have h3 : IntKind.u64.wrap ((a % 2 ^ 63 : Nat) : Int) = ((a % 2 ^ 63 : Nat) : Int) := by
    unfold IntKind.wrap
    simp [IntKind.bits, IntKind.signed]
    omega
  rw [h3]
  rfl

theorem abs_is {a : Nat} {x : Rat} (h : Is a x) : Is (absW a) x.abs := by
  obtain ⟨hw, s, m, i, h1, rfl⟩ := h
  refine ⟨by rw [absW_eq]; omega, false, m, i, ?_, by rw [dv_abs]; unfold dv sg; simp⟩
  rw [absW_eq]
  have e1 : double.signWeight = 2 ^ 63 := by decide
  unfold Format.read at *
  simp only [e1] at h1 ⊢
  rw [Nat.mod_mod]
  have : (a % 2 ^ 63 / 2 ^ 63 % 2 == 1) = false := by
    rw [Nat.div_eq_of_lt (Nat.mod_lt _ (by decide))]; rfl
  rw [this]
  split at h1
  · rename_i hc
    simp only [hc, if_true]
    injection h1 with g1 g2 g3
    rw [g2, g3]
  · split at h1
    · rename_i hc1 hc
      simp only [hc, if_true, hc1, if_false]
      injection h1 with g1 g2 g3
      rw [g2, g3]
    · split at h1 <;> cases h1

theorem is_p40 : Is 4787326403894837248 ((2 ^ 40 : Int) : Rat) := by
  refine ⟨by decide, false, 2 ^ 52, -12, by decide, ?_⟩
  have h1 : ((2 ^ 52 : Nat) : Rat) = (2 : Rat) ^ ((52 : Nat) : Int) := (p2_nat 52).symm
  have h2 : ((2 ^ 40 : Int) : Rat) = (2 : Rat) ^ ((40 : Nat) : Int) := by
    rw [p2_nat]
    exact congrArg (fun z : Int => (z : Rat)) (by decide : (2 ^ 40 : Int) = ((2 ^ 40 : Nat) : Int))
  unfold dv sg
  rw [h1, h2, ← p2_add, if_neg (by decide), Rat.one_mul]
  rfl

theorem int_abs_le {n : Int} {N : Nat} (h : n.natAbs ≤ N) : ((n : Rat)).abs ≤ ((N : Int) : Rat) := by
  rw [abs_le_iff]
  constructor
  · have : (-(N : Int)) ≤ n := by omega
    have h2 : ((-(N : Int) : Int) : Rat) ≤ (n : Rat) := by exact_mod_cast this
    push_cast at h2 ⊢
    exact h2
  · have : n ≤ (N : Int) := by omega
    exact_mod_cast this

def withinK : KFFB := withinB absK
def WithinK : KCFB := WithinB withinK
def placeK : KCB := placeB WithinK
end Go.Vm
namespace Go.Vm
open Ieee
set_option linter.unusedVariables false
set_option linter.unusedSimpArgs false

/-! ### Package math, roots: in continuation style -/
def andU (x y : Int) : Int := IntKind.u64.wrap ((BitVec.ofInt 64 x &&& BitVec.ofInt 64 y).toNat : Nat)
def andI (x y : Int) : Int := IntKind.i64.wrap ((BitVec.ofInt 64 x &&& BitVec.ofInt 64 y).toNat : Nat)
def andNotU (x y : Int) : Int := IntKind.u64.wrap ((BitVec.ofInt 64 x &&& ~~~(BitVec.ofInt 64 y)).toNat : Nat)
def orU (x y : Int) : Int := IntKind.u64.wrap ((BitVec.ofInt 64 x ||| BitVec.ofInt 64 y).toNat : Nat)

def shrU (x n : Int) : Int := x.fdiv (2 ^ min n.toNat IntKind.u64.bits)
def shlU (x n : Int) : Int := IntKind.u64.wrap (x * 2 ^ min n.toNat IntKind.u64.bits)

abbrev KFFI := ∀ R : Type, Nat → (Nat → Int → Option R) → Option R
abbrev KFIF := ∀ R : Type, Nat → Int → (Nat → Option R) → Option R
abbrev KCF := ∀ R : Type, Nat → Nat → (Nat → Option R) → Option R
abbrev KCCI := ∀ R : Type, Nat → Nat → (Nat → Nat → Int → Option R) → Option R
abbrev KCCFB := ∀ R : Type, Nat → Nat → Nat → Nat → Nat → (Bool → Option R) → Option R

def sInf (g : KFB) : Sum := fun R args k => match args with
  | [.float .f64 a, .int .i64 s] => bif s == 0 then g R a fun t => forceB t fun t => k (.bool t) else none
  | _ => none
def sFFI (g : KFFI) : Sum := fun R args k => match args with
  | [.float .f64 a] => g R a fun x e => k (.tuple ⟨[.float .f64 x, .int .i64 e]⟩)
  | _ => none
def sFIF (g : KFIF) : Sum := fun R args k => match args with
  | [.float .f64 a, .int .i64 e] => g R a e fun x => k (.float .f64 x)
  | _ => none
def sCF (g : KCF) : Sum := fun R args k => match args with
  | [.complex .f64 a b] => g R a b fun x => k (.float .f64 x)
  | _ => none
def sCCI (g : KCCI) : Sum := fun R args k => match args with
  | [.complex .f64 a b] => g R a b fun x y e => k (.tuple ⟨[.complex .f64 x y, .int .i64 e]⟩)
  | _ => none
/-- a function that is not to be come to -/
def sNever : Sum := fun R args k => none

def isInfB (ab : KFF) : KFB := fun R a k => ab R a fun x => forceB (gtF x 9218868437227405311) fun t => k t
def isNanK : KFB := fun R a k => forceB (neF a a) fun t => k t
def normB (ab : KFF) : KFFI := fun R a k => ab R a fun x => forceB (ltF x 4503599627370496) fun t => match t with
  | true => bindF (fbF .mul a 4841369599423283200) fun y => k y (-52)
  | false => k a 0
def expoOf {R : Type} (fi : Fi) (y : Nat) (k : Int → Option R) : Option R := fi R (IntKind.i64.wrap (andU (shrU y 52) 2047)) k
def frexpTail {R : Type} (fi : Fi) (y : Nat) (e : Int) (k : Nat → Int → Option R) : Option R :=
  expoOf fi y fun n1 => fi R (IntKind.i64.wrap (n1 - 1023)) fun n2 => fi R (IntKind.i64.wrap (n2 + 1)) fun n3 => fi R (IntKind.i64.wrap (e + n3)) fun n4 =>
    k (orU (andNotU y 9218868437227405312) 4602678819172646912).toNat n4
def frexpB (fi : Fi) (inf nan : KFB) (nm : KFFI) : KFFI := fun R a k => forceB (eqF a 0) fun t => match t with
  | true => k a 0
  | false => inf R a fun t => forceB t fun t => match t with
    | true => k a 0
    | false => nan R a fun t => forceB t fun t => match t with
      | true => k a 0
      | false => nm R a fun y e => frexpTail fi y e k
def ldexpEnd {R : Type} (fi : Fi) (y : Nat) (ex : Int) (m : Nat) (k : Nat → Option R) : Option R :=
  fi R (IntKind.i64.wrap (ex + 1023)) fun n1 => fi R (IntKind.u64.wrap n1) fun n2 =>
    bindF (fbF .mul m (orU (andNotU y 9218868437227405312) (shlU n2 52)).toNat) k
abbrev KFFF := ∀ R : Type, Nat → Nat → (Nat → Option R) → Option R
def sFFF (g : KFFF) : Sum := fun R args k => match args with
  | [.float .f64 a, .float .f64 b] => g R a b fun x => k (.float .f64 x)
  | _ => none
def copyK : KFFF := fun R a b k => k (orU (andNotU a 9223372036854775808) (andU b 9223372036854775808)).toNat
def ldexpTail {R : Type} (fi : Fi) (cp : KFFF) (y : Nat) (e n : Int) (k : Nat → Option R) : Option R :=
  fi R (IntKind.i64.wrap (n + e)) fun n1 => fi R (IntKind.i64.wrap (shrU y 52)) fun n2 => fi R (IntKind.i64.wrap (andI n2 2047 - 1023)) fun n3 => fi R (IntKind.i64.wrap (n1 + n3)) fun ex =>
    forceB (decide (ex < -1075)) fun t => match t with
    | true => cp R 0 y k
    | false => forceB (decide (ex > 1023)) fun t => match t with
      | true => forceB (ltF y 0) fun _ => none
      | false => forceB (decide (ex < -1022)) fun t => match t with
        | true => fi R (IntKind.i64.wrap (ex + 53)) fun ex => ldexpEnd fi y ex 4368491638549381120 k
        | false => ldexpEnd fi y ex 4607182418800017408 k
def ldexpB (fi : Fi) (cp : KFFF) (inf nan : KFB) (nm : KFFI) : KFIF := fun R a n k => forceB (eqF a 0) fun t => match t with
  | true => k a
  | false => inf R a fun t => forceB t fun t => match t with
    | true => k a
    | false => nan R a fun t => forceB t fun t => match t with
      | true => k a
      | false => nm R a fun y e => ldexpTail fi cp y e n k
def clampI (n : Int) : Int := if (if n < 5000 then n else 5000) > -5000 then (if n < 5000 then n else 5000) else -5000
def scaleB (ld : KFIF) : KFIF := fun R a n k => ld R a (clampI n) k
def greatestB (ab : KFF) : KCF := fun R a b k => ab R a fun x => ab R b fun y => forceB (gtF y x) fun t => match t with
  | true => k y
  | false => k x
def scaledB (gr : KCF) (pa : KFFI) (sc : KFIF) : KCCI := fun R a b k => gr R a b fun g => pa R g fun _ e =>
  sc R a (IntKind.i64.wrap (0 - e)) fun x => sc R b (IntKind.i64.wrap (0 - e)) fun y => k x y e
def squareK : KCF := fun R a b k => bindF (fbF .mul a a) fun x => bindF (fbF .mul b b) fun y => bindF (fbF .add x y) k
def lengthB (inf nan : KFB) (gr : KCF) (sd : KCCI) (sq : KCF) (rt : KFF) (sc : KFIF) : KCF := fun R a b k =>
  inf R a fun t => forceB t fun t => match t with
  | true => none
  | false => inf R b fun t => forceB t fun t => match t with
    | true => none
    | false => nan R a fun t => forceB t fun t => match t with
      | true => none
      | false => nan R b fun t => forceB t fun t => match t with
        | true => none
        | false => gr R a b fun g => forceB (eqF g 0) fun t => match t with
          | true => k 0
          | false => sd R a b fun x y e => sq R x y fun s => rt R s fun r => sc R r e k
def finiteB (ab : KFF) : KFB := fun R a k => ab R a fun x => forceB (leF x 9218868437227405311) fun t => k t
def FiniteB (fi : KFB) : KCB := fun R a b k => fi R a fun t => forceB t fun t => match t with
  | true => fi R b fun t => forceB t fun t => k t
  | false => k false
def divB (ab : KFF) : KCCC := fun R p q r s k =>
  ab R r fun x => ab R s fun y => forceB (geF x y) fun t => match t with
  | true => bindF (fbF .quo s r) fun h => bindF (fbF .mul s h) fun sh => bindF (fbF .add r sh) fun t =>
      bindF (fbF .mul q h) fun qh => bindF (fbF .add p qh) fun n1 => bindF (fbF .quo n1 t) fun re =>
      bindF (fbF .mul p h) fun ph => bindF (fbF .sub q ph) fun n2 => bindF (fbF .quo n2 t) fun im => k re im
  | false => bindF (fbF .quo r s) fun h => bindF (fbF .mul r h) fun rh => bindF (fbF .add rh s) fun t =>
      bindF (fbF .mul p h) fun ph => bindF (fbF .add ph q) fun n1 => bindF (fbF .quo n1 t) fun re =>
      bindF (fbF .mul q h) fun qh => bindF (fbF .sub qh p) fun n2 => bindF (fbF .quo n2 t) fun im => k re im
end Go.Vm
namespace Go.Vm
open Ieee
set_option linter.unusedVariables false
set_option linter.unusedSimpArgs false

/-! ### Words by their fields -/
theorem read_bounds {w : Nat} {s : Bool} {m : Nat} {i : Int} (h : double.read w = .number s m i) : m < 2 ^ 53 ∧ -1074 ≤ i ∧ i ≤ 971 := by
  have e1 : double.signWeight = 2 ^ 63 := by decide
  have e2 : double.binade = 2 ^ 52 := by decide
  have e3 : double.infRung = 2047 * 2 ^ 52 := by decide
  have e4 : double.leastPlace = -1074 := by decide
  unfold Format.read at h
  simp only [e1, e2, e3, e4] at h
  split at h
  · injection h with h1 h2 h3
    omega
  · split at h
    · injection h with h1 h2 h3
      have := Nat.mod_lt (w % 2 ^ 63) (show 0 < 2 ^ 52 by decide)
      have h5 : w % 2 ^ 63 / 2 ^ 52 < 2047 := by omega
      omega
    · split at h <;> cases h

theorem is_rep {a : Nat} {x : Rat} (h : Is a x) : ∃ (K : Int) (q : Int), K.natAbs < 2 ^ 53 ∧ -1074 ≤ q ∧ q ≤ 971 ∧ x = K * (2 : Rat) ^ q := by
  obtain ⟨_, s, m, i, h1, rfl⟩ := h
  obtain ⟨b1, b2, b3⟩ := read_bounds h1
  refine ⟨if s then -(m : Int) else m, i, ?_, b2, b3, ?_⟩
  · split <;> omega
  · unfold dv sg
    cases s
    · simp only [Bool.false_eq_true, if_false]
      have : ((m : Int) : Rat) = (m : Rat) := by norm_cast
      rw [this]; grind
    · simp only [if_true]; push_cast; grind

/-- A normal word: its fields. -/
theorem normal_fields {y : Nat} {v : Rat} (h : Is y v) (hv : (2 : Rat) ^ (-1022 : Int) ≤ v.abs) :
    ∃ (s : Bool) (E f : Nat), y = (if s then 2 ^ 63 else 0) + E * 2 ^ 52 + f ∧ 1 ≤ E ∧ E ≤ 2046 ∧ f < 2 ^ 52 ∧ v = dv s (2 ^ 52 + f) ((E : Int) - 1075) := by
  obtain ⟨hw, s, m, i, h1, h2⟩ := h
  have e1 : double.signWeight = 2 ^ 63 := by decide
  have e2 : double.binade = 2 ^ 52 := by decide
  have e3 : double.infRung = 2047 * 2 ^ 52 := by decide
  have e4 : double.leastPlace = -1074 := by decide
  unfold Format.read at h1
  simp only [e1, e2, e3, e4] at h1
  split at h1
  · exfalso
    rename_i hlt
    injection h1 with g1 g2 g3
    subst g3
    rw [← h2, dv_abs] at hv
    have h5 : (m : Rat) < ((2 ^ 52 : Nat) : Rat) := nat_cast_lt (by omega)
    have h6 := Rat.mul_lt_mul_of_pos_right h5 (p2_pos (-1074))
    have h7 : (2 : Rat) ^ (52 : Int) = ((2 ^ 52 : Nat) : Rat) := p2_nat 52
    rw [← h7, ← p2_add, show (52 + -1074 : Int) = -1022 by decide] at h6
    grind
  · split at h1
    · rename_i hge hlt
      injection h1 with g1 g2 g3
      refine ⟨s, y % 2 ^ 63 / 2 ^ 52, y % 2 ^ 63 % 2 ^ 52, ?_, by omega, by omega, Nat.mod_lt _ (by decide), ?_⟩
      · have hs : (y / 2 ^ 63 % 2 == 1) = s := g1
        cases s
        · simp only [Bool.false_eq_true, if_false]
          have : ¬ (y / 2 ^ 63 % 2 = 1) := by simpa using hs
          omega
        · simp only [if_true]
          have : y / 2 ^ 63 % 2 = 1 := by simpa using hs
          omega
      · rw [← h2, ← g2, ← g3]
        congr 1
        omega
    · split at h1 <;> cases h1

theorem fields_is {s : Bool} {E f : Nat} (h1 : 1 ≤ E) (h2 : E ≤ 2046) (hf : f < 2 ^ 52) : Is ((if s then 2 ^ 63 else 0) + E * 2 ^ 52 + f) (dv s (2 ^ 52 + f) ((E : Int) - 1075)) := by
  have := is_rung (s := s) (t := E - 1) (k := 2 ^ 52 + f) (by omega) (.inr (by omega)) (by omega)
  have e1 : double.signWeight = 2 ^ 63 := by decide
  have e : double.word s ((E - 1) * 2 ^ 52 + (2 ^ 52 + f)) = (if s then 2 ^ 63 else 0) + E * 2 ^ 52 + f := by
    unfold Format.word
    rw [e1]
    have : (E - 1) * 2 ^ 52 + (2 ^ 52 + f) = E * 2 ^ 52 + f := by omega
    cases s
    · simp only [Bool.false_eq_true, if_false]; omega
    · simp only [if_true]; omega
  rw [e, show (-1074 + ((E - 1 : Nat) : Int)) = (E : Int) - 1075 by omega] at this
  exact this

/-! ### Whole numbers of 64 bits -/
theorem wrapI {n : Int} (h1 : -9223372036854775808 ≤ n) (h2 : n < 9223372036854775808) : IntKind.i64.wrap n = n := by
  unfold IntKind.wrap
  simp [IntKind.bits, IntKind.signed]
  split <;> omega
theorem wrapU {n : Int} (h1 : 0 ≤ n) (h2 : n < 18446744073709551616) : IntKind.u64.wrap n = n := by
  unfold IntKind.wrap
  simp only [IntKind.bits, IntKind.signed, Bool.false_and, Bool.false_eq_true, if_false]
  omega

theorem bv_nat (a : Nat) (h : a < 2 ^ 64) : (BitVec.ofInt 64 (a : Int)).toNat = a := by
  have : BitVec.ofInt 64 (a : Int) = BitVec.ofNat 64 a := by simp
  rw [this, BitVec.toNat_ofNat]
  exact Nat.mod_eq_of_lt h

theorem andU_eq {a b : Nat} (ha : a < 2 ^ 64) (hb : b < 2 ^ 64) : andU a b = ((a &&& b : Nat) : Int) := by
  unfold andU
  rw [BitVec.toNat_and, bv_nat a ha, bv_nat b hb]
  have : a &&& b ≤ a := Nat.and_le_left
  exact wrapU (by omega) (by omega)
theorem andI_eq {a b : Nat} (ha : a < 2 ^ 63) (hb : b < 2 ^ 64) : andI a b = ((a &&& b : Nat) : Int) := by
  unfold andI
  rw [BitVec.toNat_and, bv_nat a (by omega), bv_nat b hb]
  have : a &&& b ≤ a := Nat.and_le_left
  exact wrapI (by omega) (by omega)
theorem orU_eq {a b : Nat} (ha : a < 2 ^ 64) (hb : b < 2 ^ 64) : orU a b = ((a ||| b : Nat) : Int) := by
  unfold orU
  rw [BitVec.toNat_or, bv_nat a ha, bv_nat b hb]
  have : a ||| b < 2 ^ 64 := Nat.or_lt_two_pow ha hb
  exact wrapU (by omega) (by omega)
theorem andNotU_eq {a b : Nat} (ha : a < 2 ^ 64) (hb : b < 2 ^ 64) : andNotU a b = ((a &&& (2 ^ 64 - 1 - b) : Nat) : Int) := by
  unfold andNotU
  rw [BitVec.toNat_and, BitVec.toNat_not, bv_nat a ha, bv_nat b hb]
  have : a &&& (2 ^ 64 - 1 - b) ≤ a := Nat.and_le_left
  exact wrapU (by omega) (by omega)

theorem shrU_eq {y : Nat} : shrU y 52 = ((y / 2 ^ 52 : Nat) : Int) := by
  unfold shrU
  have : (2 : Int) ^ min (52 : Int).toNat IntKind.u64.bits = 4503599627370496 := by decide
  rw [this]
  have h : (2 : Nat) ^ 52 = 4503599627370496 := by decide
  rw [h, Int.fdiv_eq_ediv_of_nonneg _ (by decide)]
  omega
theorem shlU_eq {n : Nat} (h : n < 2 ^ 12) : shlU n 52 = ((n * 2 ^ 52 : Nat) : Int) := by
  unfold shlU
  have : (2 : Int) ^ min (52 : Int).toNat IntKind.u64.bits = 4503599627370496 := by decide
  rw [this]
  have h2 : (2 : Nat) ^ 52 = 4503599627370496 := by decide
  rw [h2]
  rw [wrapU (by omega) (by omega)]
  omega
end Go.Vm
namespace Go.Vm
open Ieee
set_option linter.unusedVariables false
set_option linter.unusedSimpArgs false

theorem gtF_is {a b : Nat} {x y : Rat} (ha : Is a x) (hb : Is b y) : gtF a b = decide (y < x) := by
  unfold gtF
  rw [order_is ha hb]
  by_cases h1 : x < y
  · have : ¬ y < x := by grind
    simp [h1, this]
  · by_cases h2 : x = y
    · subst h2; simp [h1]
    · have : y < x := by grind
      simp [h1, h2, this]
theorem ltF_is {a b : Nat} {x y : Rat} (ha : Is a x) (hb : Is b y) : ltF a b = decide (x < y) := by
  unfold ltF
  rw [order_is ha hb]
  by_cases h1 : x < y
  · simp [h1]
  · by_cases h2 : x = y
    · subst h2; simp [h1]
    · simp [h1, h2]
theorem geF_is {a b : Nat} {x y : Rat} (ha : Is a x) (hb : Is b y) : geF a b = decide (y ≤ x) := by
  unfold geF
  rw [order_is ha hb]
  by_cases h1 : x < y
  · have : ¬ y ≤ x := by grind
    simp [h1, this]
  · by_cases h2 : x = y
    · subst h2; simp [h1]
    · have : y ≤ x := by grind
      simp [h1, h2, this]

theorem int_abs (K : Int) : ((K : Rat)).abs = ((K.natAbs : Nat) : Rat) := by
  have := dv_abs (decide (K < 0)) K.natAbs 0
  rw [int_dv K (decide (K < 0)) 0 fun _ => rfl] at this
  simpa using this

theorem p2_abs (q : Int) : ((2 : Rat) ^ q).abs = (2 : Rat) ^ q := Rat.abs_of_nonneg (Rat.le_of_lt (p2_pos q))

theorem is_max : Is 9218868437227405311 (((2 ^ 53 - 1 : Nat) : Rat) * (2 : Rat) ^ (971 : Int)) := by
  refine ⟨by decide, false, 2 ^ 53 - 1, 971, by decide, ?_⟩
  unfold dv sg
  rw [if_neg (by decide), Rat.one_mul]

theorem abs_le_max {a : Nat} {x : Rat} (h : Is a x) : x.abs ≤ ((2 ^ 53 - 1 : Nat) : Rat) * (2 : Rat) ^ (971 : Int) := by
  obtain ⟨K, q, h1, h2, h3, rfl⟩ := is_rep h
  rw [abs_mul, int_abs, p2_abs]
  have f1 : ((K.natAbs : Nat) : Rat) ≤ ((2 ^ 53 - 1 : Nat) : Rat) := nat_cast_le (by omega)
  have f2 := Rat.mul_le_mul_of_nonneg_right f1 (Rat.le_of_lt (p2_pos q))
  have f3 := Rat.mul_le_mul_of_nonneg_left (p2_le h3) (show (0 : Rat) ≤ ((2 ^ 53 - 1 : Nat) : Rat) by exact_mod_cast Nat.zero_le _)
  exact Rat.le_trans f2 f3

def isInfK : KFB := isInfB absK
def finiteK : KFB := finiteB absK
def FiniteK : KCB := FiniteB finiteK
def normK : KFFI := normB absK
def frexpK : KFFI := frexpB fiReal isInfK isNanK normK
def ldexpK : KFIF := ldexpB fiReal copyK isInfK isNanK normK
def scaleK : KFIF := scaleB ldexpK
def greatestK : KCF := greatestB absK
def scaledK : KCCI := scaledB greatestK frexpK scaleK
def sqrtK : KFF := fun R a k => bindF (double.sqrt a) k
def lengthK : KCF := lengthB isInfK isNanK greatestK scaledK squareK sqrtK scaleK
def divK : KCCC := divB absK

theorem isInfK_no {a : Nat} {x : Rat} (h : Is a x) {R : Type} (k : Bool → Option R) : isInfK R a k = k false := by
  show forceB (gtF (absW a) 9218868437227405311) (fun t => k t) = k false
  rw [forceB_eq, gtF_is (abs_is h) is_max]
  have := abs_le_max h
  have : ¬ (((2 ^ 53 - 1 : Nat) : Rat) * (2 : Rat) ^ (971 : Int) < x.abs) := by grind
  simp only [this, decide_false]
theorem isNanK_no {a : Nat} {x : Rat} (h : Is a x) {R : Type} (k : Bool → Option R) : isNanK R a k = k false := by
  unfold isNanK
  rw [forceB_eq, neF_is h h]
  simp
theorem finiteK_yes {a : Nat} {x : Rat} (h : Is a x) {R : Type} (k : Bool → Option R) : finiteK R a k = k true := by
  show forceB (leF (absW a) 9218868437227405311) (fun t => k t) = k true
  rw [forceB_eq, leF_is (abs_is h) is_max]
  simp only [abs_le_max h, decide_true]
theorem FiniteK_yes {a b : Nat} {x y : Rat} (h : Is a x) (g : Is b y) {R : Type} (k : Bool → Option R) : FiniteK R a b k = k true := by
  unfold FiniteK FiniteB
  rw [finiteK_yes h, forceB_eq]
  simp only
  rw [finiteK_yes g]
  simp only [forceB_eq]

theorem is_least : Is 4503599627370496 ((2 : Rat) ^ (-1022 : Int)) := by
  have := fields_is (s := false) (E := 1) (f := 0) (by decide) (by decide) (by decide)
  have e : dv false (2 ^ 52 + 0) (((1 : Nat) : Int) - 1075) = (2 : Rat) ^ (-1022 : Int) := by
    unfold dv sg
    rw [if_neg (by decide), Rat.one_mul, Nat.add_zero, ← p2_nat, ← p2_add]
    rfl
  rw [e] at this
  exact this
theorem is_p52 : Is 4841369599423283200 ((2 : Rat) ^ (52 : Int)) := by
  have := fields_is (s := false) (E := 1075) (f := 0) (by decide) (by decide) (by decide)
  have e : dv false (2 ^ 52 + 0) (((1075 : Nat) : Int) - 1075) = (2 : Rat) ^ (52 : Int) := by
    unfold dv sg
    rw [if_neg (by decide), Rat.one_mul, Nat.add_zero, ← p2_nat, ← p2_add]
    rfl
  rw [e] at this
  exact this
theorem is_m53 : Is 4368491638549381120 ((2 : Rat) ^ (-53 : Int)) := by
  have := fields_is (s := false) (E := 970) (f := 0) (by decide) (by decide) (by decide)
  have e : dv false (2 ^ 52 + 0) (((970 : Nat) : Int) - 1075) = (2 : Rat) ^ (-53 : Int) := by
    unfold dv sg
    rw [if_neg (by decide), Rat.one_mul, Nat.add_zero, ← p2_nat, ← p2_add]
    rfl
  rw [e] at this
  exact this
theorem is_one : Is 4607182418800017408 1 := by
  have := fields_is (s := false) (E := 1023) (f := 0) (by decide) (by decide) (by decide)
  have e : dv false (2 ^ 52 + 0) (((1023 : Nat) : Int) - 1075) = 1 := by
    unfold dv sg
    rw [if_neg (by decide), Rat.one_mul, Nat.add_zero, ← p2_nat, ← p2_add]
    exact Rat.zpow_zero 2
  rw [e] at this
  exact this

theorem p2_cancel (q : Int) : (2 : Rat) ^ q * (2 : Rat) ^ (-q) = 1 := by rw [← p2_add, show q + -q = 0 by omega, Rat.zpow_zero]

theorem normK_def {R : Type} (a : Nat) (k : Nat → Int → Option R) : normK R a k = forceB (ltF (absW a) 4503599627370496) fun t => match t with
  | true => bindF (fbF .mul a 4841369599423283200) fun y => k y (-52)
  | false => k a 0 := rfl

theorem normK_is {a : Nat} {x : Rat} (h : Is a x) (hx : x ≠ 0) : ∃ (y : Nat) (e : Int), (e = 0 ∨ e = -52) ∧ Is y (x * (2 : Rat) ^ (-e)) ∧ (2 : Rat) ^ (-1022 : Int) ≤ (x * (2 : Rat) ^ (-e)).abs ∧
    ∀ (R : Type) (k : Nat → Int → Option R), normK R a k = k y e := by
  by_cases hs : x.abs < (2 : Rat) ^ (-1022 : Int)
  · obtain ⟨K, q, k1, k2, k3, hK⟩ := is_rep h
    have hlt : (x * (2 : Rat) ^ (52 : Int)).abs < (2 : Rat) ^ (1023 : Int) := by
      rw [abs_mul, p2_abs]
      have := Rat.mul_lt_mul_of_pos_right hs (p2_pos 52)
      rw [← p2_add] at this
      have h2 := p2_le (show (-1022 + 52 : Int) ≤ 1023 by decide)
      grind
    obtain ⟨y, z, e1, e2, e3⟩ := mul_is h is_p52 hlt
    have hz : z = x * (2 : Rat) ^ (52 : Int) := e3.rep K (q + 52) k1 (by omega) (by rw [hK, p2_add]; grind)
    rw [hz] at e2
    refine ⟨y, -52, .inr rfl, by simpa using e2, ?_, fun R k => ?_⟩
    · -- at least one unit
      have hK0 : 1 ≤ K.natAbs := by
        rcases Nat.eq_zero_or_pos K.natAbs with h0 | h0
        · have : K = 0 := by omega
          subst this
          exact absurd (by rw [hK]; simp) hx
        · exact h0
      have f1 : ((1 : Nat) : Rat) ≤ ((K.natAbs : Nat) : Rat) := nat_cast_le hK0
      have f2 := Rat.mul_le_mul_of_nonneg_right f1 (Rat.le_of_lt (p2_pos q))
      rw [show (-(-52 : Int)) = 52 by decide, abs_mul, p2_abs, hK, abs_mul, int_abs, p2_abs]
      have f3 := Rat.mul_le_mul_of_nonneg_right f2 (Rat.le_of_lt (p2_pos 52))
      have f4 : ((1 : Nat) : Rat) * (2 : Rat) ^ q * (2 : Rat) ^ (52 : Int) = (2 : Rat) ^ (q + 52) := by rw [p2_add]; simp
      rw [f4] at f3
      exact Rat.le_trans (p2_le (by omega)) f3
    · rw [normK_def, forceB_eq, ltF_is (abs_is h) is_least]
      simp only [hs, decide_true]
      rw [bindF_eq e1]
  · refine ⟨a, 0, .inl rfl, by simpa using h, ?_, fun R k => ?_⟩
    · simp only [Int.neg_zero, Rat.zpow_zero, Rat.mul_one]
      grind
    · rw [normK_def, forceB_eq, ltF_is (abs_is h) is_least]
      simp only [hs, decide_false]

theorem expo_eq {s : Bool} {E f : Nat} (hE : E ≤ 2046) (hf : f < 2 ^ 52) : andU (shrU ((((if s then 2 ^ 63 else 0) + E * 2 ^ 52 + f : Nat)) : Int) 52) 2047 = (E : Int) := by
  have h1 : ((if s then 2 ^ 63 else 0) + E * 2 ^ 52 + f) / 2 ^ 52 = (if s then 2048 else 0) + E := by
    cases s
    · simp only [Bool.false_eq_true, if_false]; omega
    · simp only [if_true]; omega
  rw [shrU_eq, h1]
  have h2 := andU_eq (a := (if s then 2048 else 0) + E) (b := 2047) (by split <;> omega) (by decide)
  have h3 : ((if s then 2048 else 0) + E) &&& 2047 = E := by
    have := Nat.and_two_pow_sub_one_eq_mod ((if s then 2048 else 0) + E) 11
    rw [show 2 ^ 11 - 1 = 2047 by decide] at this
    rw [this]
    cases s
    · simp only [Bool.false_eq_true, if_false]; omega
    · simp only [if_true]; omega
  rw [h3] at h2
  exact h2

theorem dv_band {s : Bool} {E f : Nat} (hf : f < 2 ^ 52) : (2 : Rat) ^ ((E : Int) - 1023) ≤ (dv s (2 ^ 52 + f) ((E : Int) - 1075)).abs ∧ (dv s (2 ^ 52 + f) ((E : Int) - 1075)).abs < (2 : Rat) ^ ((E : Int) - 1022) := by
  rw [dv_abs]
  have h1 : ((2 ^ 52 : Nat) : Rat) ≤ ((2 ^ 52 + f : Nat) : Rat) := nat_cast_le (by omega)
  have h2 : ((2 ^ 52 + f : Nat) : Rat) < ((2 ^ 53 : Nat) : Rat) := nat_cast_lt (by omega)
  have e1 : (2 : Rat) ^ ((52 : Nat) : Int) = ((2 ^ 52 : Nat) : Rat) := p2_nat 52
  have e2 : (2 : Rat) ^ ((53 : Nat) : Int) = ((2 ^ 53 : Nat) : Rat) := p2_nat 53
  have g1 := Rat.mul_le_mul_of_nonneg_right h1 (Rat.le_of_lt (p2_pos ((E : Int) - 1075)))
  have g2 := Rat.mul_lt_mul_of_pos_right h2 (p2_pos ((E : Int) - 1075))
  rw [← e1, ← p2_add, show ((52 : Nat) : Int) + ((E : Int) - 1075) = (E : Int) - 1023 by omega] at g1
  rw [← e2, ← p2_add, show ((53 : Nat) : Int) + ((E : Int) - 1075) = (E : Int) - 1022 by omega] at g2
  exact ⟨g1, g2⟩

/-- The power of two just above. -/
theorem frexpK_is {a : Nat} {x : Rat} (h : Is a x) (hx : x ≠ 0) : ∃ (w : Nat) (n : Int), (2 : Rat) ^ (n - 1) ≤ x.abs ∧ x.abs < (2 : Rat) ^ n ∧ -1100 ≤ n ∧ n ≤ 1024 ∧
    ∀ (R : Type) (k : Nat → Int → Option R), frexpK R a k = k w n := by
  obtain ⟨y, e, he, hy, hn, hk⟩ := normK_is h hx
  obtain ⟨s, E, f, rfl, b1, b2, b3, hv⟩ := normal_fields hy hn
  obtain ⟨d1, d2⟩ := dv_band (s := s) (E := E) b3
  rw [← hv, abs_mul, p2_abs] at d1 d2
  refine ⟨(orU (andNotU ((((if s then 2 ^ 63 else 0) + E * 2 ^ 52 + f : Nat)) : Int) 9218868437227405312) 4602678819172646912).toNat, e + (E - 1022), ?_, ?_, by omega, by omega, fun R k => ?_⟩
  · have := Rat.mul_le_mul_of_nonneg_right d1 (Rat.le_of_lt (p2_pos e))
    rw [← p2_add, Rat.mul_assoc, Rat.mul_comm ((2 : Rat) ^ (-e)), p2_cancel, Rat.mul_one, show (E : Int) - 1023 + e = e + (E - 1022) - 1 by omega] at this
    exact this
  · have := Rat.mul_lt_mul_of_pos_right d2 (p2_pos e)
    rw [← p2_add, Rat.mul_assoc, Rat.mul_comm ((2 : Rat) ^ (-e)), p2_cancel, Rat.mul_one, show (E : Int) - 1022 + e = e + (E - 1022) by omega] at this
    exact this
  · unfold frexpK frexpB
    have h0 : ¬ (x = ((0 : Int) : Rat)) := by simpa using hx
    rw [forceB_eq, eqF_is h is_zero]
    simp only [h0, decide_false]
    rw [isInfK_no h, forceB_eq]
    simp only
    rw [isNanK_no h, forceB_eq]
    simp only
    rw [hk]
    unfold frexpTail expoOf
    rw [expo_eq b2 b3]
    simp only [fiReal_fair R]
    rw [wrapI (n := (E : Int)) (by omega) (by omega), wrapI (n := (E : Int) - 1023) (by omega) (by omega), wrapI (n := (E : Int) - 1023 + 1) (by omega) (by omega)]
    rw [show (E : Int) - 1023 + 1 = (E : Int) - 1022 by omega, wrapI (by omega) (by omega)]
end Go.Vm
namespace Go.Vm
open Ieee
set_option linter.unusedVariables false
set_option linter.unusedSimpArgs false

theorem and_two_pow' (y i : Nat) : y &&& 2 ^ i = (y.testBit i).toNat * 2 ^ i := by
  apply Nat.eq_of_testBit_eq
  intro j
  rw [Nat.testBit_and, Nat.testBit_two_pow]
  by_cases h : i = j
  · subst h
    cases y.testBit i
    · simp
    · simp [Nat.testBit_two_pow_self]
  · cases y.testBit i
    · simp [h]
    · simp [Nat.testBit_two_pow, h]

theorem strip_eq {s : Bool} {E f : Nat} (hE : E ≤ 2046) (hf : f < 2 ^ 52) : andNotU ((((if s then 2 ^ 63 else 0) + E * 2 ^ 52 + f : Nat)) : Int) 9218868437227405312 = (((if s then 2 ^ 63 else 0) + f : Nat) : Int) := by
  have hlt : (if s then 2 ^ 63 else 0) + E * 2 ^ 52 + f < 2 ^ 64 := by split <;> omega
  have h1 := andNotU_eq (a := (if s then 2 ^ 63 else 0) + E * 2 ^ 52 + f) (b := 9218868437227405312) hlt (by decide)
  have hm : 2 ^ 64 - 1 - 9218868437227405312 = 2 ^ 63 ||| (2 ^ 52 - 1) := by decide
  rw [hm, Nat.and_or_distrib_left, Nat.and_two_pow_sub_one_eq_mod, and_two_pow'] at h1
  have h2 : ((if s then 2 ^ 63 else 0) + E * 2 ^ 52 + f).testBit 63 = s := by
    rw [Nat.testBit_eq_decide_div_mod_eq]
    cases s
    · simp only [Bool.false_eq_true, if_false]
      have : (0 + E * 2 ^ 52 + f) / 2 ^ 63 % 2 = 0 := by omega
      rw [this]; rfl
    · simp only [if_true]
      have : (2 ^ 63 + E * 2 ^ 52 + f) / 2 ^ 63 % 2 = 1 := by omega
      rw [this]; rfl
  have h3 : ((if s then 2 ^ 63 else 0) + E * 2 ^ 52 + f) % 2 ^ 52 = f := by
    cases s
    · simp only [Bool.false_eq_true, if_false]; omega
    · simp only [if_true]; omega
  rw [h2, h3] at h1
  rw [show ((9218868437227405312 : Nat) : Int) = 9218868437227405312 by rfl] at h1
  rw [h1]
  congr 1
  cases s
  · simp
  · simp only [Bool.toNat_true, Nat.one_mul, if_true]
    have := Nat.two_pow_add_eq_or_of_lt (i := 63) (b := f) (by omega) 1
    rw [Nat.mul_one] at this
    exact this.symm

theorem lay_eq {s : Bool} {E f : Nat} (hE : E ≤ 2047) (hf : f < 2 ^ 52) : (orU ((((if s then 2 ^ 63 else 0) + f : Nat)) : Int) ((E * 2 ^ 52 : Nat) : Int)).toNat = (if s then 2 ^ 63 else 0) + E * 2 ^ 52 + f := by
  rw [orU_eq (by split <;> omega) (by omega), Int.toNat_natCast]
  have h1 : ((if s then 2 ^ 63 else 0) + f) = 2 ^ 52 * (if s then 2 ^ 11 else 0) ||| f := by
    rw [← Nat.two_pow_add_eq_or_of_lt hf]
    cases s
    · simp
    · simp only [if_true]
  have h2 : 2 ^ 52 * (if s then 2 ^ 11 else 0) ||| E * 2 ^ 52 = 2 ^ 52 * ((if s then 2 ^ 11 else 0) + E) := by
    have g1 : (if s then 2 ^ 11 else 0) + E = (if s then 2 ^ 11 else 0) ||| E := by
      cases s
      · simp
      · simp only [if_true]
        have := Nat.two_pow_add_eq_or_of_lt (i := 11) (b := E) (by omega) 1
        rwa [Nat.mul_one] at this
    rw [g1]
    generalize (if s then 2 ^ 11 else 0) = t
    rw [Nat.mul_comm (2 ^ 52) t, Nat.mul_comm (2 ^ 52)]
    have := @Nat.shiftLeft_or_distrib 52 t E
    simp only [Nat.shiftLeft_eq] at this
    exact this.symm
  rw [h1, Nat.or_assoc, Nat.or_comm f, ← Nat.or_assoc, h2, ← Nat.two_pow_add_eq_or_of_lt hf]
  cases s
  · simp only [Bool.false_eq_true, if_false]; omega
  · simp only [if_true]; omega

theorem copy_zero {y : Nat} (hy : y < 2 ^ 64) : ∃ w, Is w 0 ∧ ∀ (R : Type) (k : Nat → Option R), copyK R 0 y k = k w := by
  have h0 : andNotU 0 9223372036854775808 = 0 := by decide
  have h1 := andU_eq (a := y) (b := 9223372036854775808) hy (by decide)
  rw [show ((9223372036854775808 : Nat) : Int) = 9223372036854775808 by rfl] at h1
  have h2 : y &&& 9223372036854775808 = (y.testBit 63).toNat * 2 ^ 63 := by
    rw [show (9223372036854775808 : Nat) = 2 ^ 63 by decide, and_two_pow']
  refine ⟨(y.testBit 63).toNat * 2 ^ 63, ?_, fun R k => ?_⟩
  · cases y.testBit 63
    · simp only [Bool.toNat_false, Nat.zero_mul]
      exact ⟨by decide, false, 0, -1074, by decide, dv_zero _ _⟩
    · simp only [Bool.toNat_true, Nat.one_mul]
      exact ⟨by decide, true, 0, -1074, by decide, dv_zero _ _⟩
  · unfold copyK
    have h3 := orU_eq (a := 0) (b := (y.testBit 63).toNat * 2 ^ 63) (by decide) (by cases y.testBit 63 <;> decide)
    show k (orU (andNotU ((0 : Nat) : Int) 9223372036854775808) (andU y 9223372036854775808)).toNat = _
    rw [h1, h2]
    rw [show (andNotU ((0 : Nat) : Int) 9223372036854775808) = ((0 : Nat) : Int) from h0, h3, Int.toNat_natCast, Nat.zero_or]

theorem clampI_eq {n : Int} (h1 : -5000 ≤ n) (h2 : n ≤ 5000) : clampI n = n := by
  unfold clampI
  split <;> split <;> omega

/-- A word times a power of two, rounded once. -/
theorem scaleK_is {a : Nat} {x : Rat} {n : Int} (h : Is a x) (hn1 : -5000 ≤ n) (hn2 : n ≤ 5000) (hlt : (x * (2 : Rat) ^ n).abs < (2 : Rat) ^ (1023 : Int)) :
    ∃ r z, Is r z ∧ Rnd (x * (2 : Rat) ^ n) z ∧ ∀ (R : Type) (k : Nat → Option R), scaleK R a n k = k r := by
  have hdef : ∀ (R : Type) (k : Nat → Option R), scaleK R a n k = ldexpK R a n k := fun R k => by
    show ldexpK R a (clampI n) k = _
    rw [clampI_eq hn1 hn2]
  by_cases hx : x = 0
  · subst hx
    refine ⟨a, 0, h, ⟨.inl ?_, fun K q _ _ e => ?_⟩, fun R k => ?_⟩
    · rw [Rat.zero_mul, Rat.sub_self, abs_zero]; simp
    · exact (Rat.zero_mul _).symm
    · rw [hdef]
      unfold ldexpK ldexpB
      rw [forceB_eq, eqF_is h is_zero]
      simp
  · obtain ⟨y, e, he, hy, hnn, hk⟩ := normK_is h hx
    have hyw := hy.1
    obtain ⟨s, E, f, rfl, b1, b2, b3, hv⟩ := normal_fields hy hnn
    obtain ⟨d1, d2⟩ := dv_band (s := s) (E := E) b3
    have hx0 : ¬ (x = ((0 : Int) : Rat)) := by simpa using hx
    -- the exponent
    have hxe : x * (2 : Rat) ^ n = dv s (2 ^ 52 + f) ((E : Int) - 1075) * (2 : Rat) ^ (n + e) := by
      rw [← hv, Rat.mul_assoc, ← p2_add]
      congr 2
      omega
    have hdv : ∀ j : Int, dv s (2 ^ 52 + f) ((E : Int) - 1075) * (2 : Rat) ^ j = dv s (2 ^ 52 + f) ((E : Int) - 1075 + j) := fun j => by
      unfold dv; rw [p2_add]; grind
    have hlo : (2 : Rat) ^ (n + e + E - 1023) ≤ (x * (2 : Rat) ^ n).abs := by
      rw [hxe, abs_mul, p2_abs]
      have := Rat.mul_le_mul_of_nonneg_right d1 (Rat.le_of_lt (p2_pos (n + e)))
      rw [← p2_add, show (E : Int) - 1023 + (n + e) = n + e + E - 1023 by omega] at this
      exact this
    have hhi : (x * (2 : Rat) ^ n).abs < (2 : Rat) ^ (n + e + E - 1022) := by
      rw [hxe, abs_mul, p2_abs]
      have := Rat.mul_lt_mul_of_pos_right d2 (p2_pos (n + e))
      rw [← p2_add, show (E : Int) - 1022 + (n + e) = n + e + E - 1022 by omega] at this
      exact this
    have hex : n + e + E - 1023 < 1023 := p2_lt_of (by grind)
    have hgo : ∀ (R : Type) (k : Nat → Option R), scaleK R a n k = ldexpTail fiReal copyK ((if s then 2 ^ 63 else 0) + E * 2 ^ 52 + f) e n k := fun R k => by
      rw [hdef]
      unfold ldexpK ldexpB
      rw [forceB_eq, eqF_is h is_zero]
      simp only [hx0, decide_false]
      rw [isInfK_no h, forceB_eq]
      simp only
      rw [isNanK_no h, forceB_eq]
      simp only
      rw [hk]
    have hexpo : IntKind.i64.wrap (andI (IntKind.i64.wrap (shrU ((((if s then 2 ^ 63 else 0) + E * 2 ^ 52 + f : Nat)) : Int) 52)) 2047 - 1023) = (E : Int) - 1023 := by
      have h1 : ((if s then 2 ^ 63 else 0) + E * 2 ^ 52 + f) / 2 ^ 52 = (if s then 2048 else 0) + E := by
        cases s
        · simp only [Bool.false_eq_true, if_false]; omega
        · simp only [if_true]; omega
      rw [shrU_eq, h1, wrapI (n := (((if s then 2048 else 0) + E : Nat) : Int)) (by split <;> omega) (by split <;> omega)]
      have h2 := andI_eq (a := (if s then 2048 else 0) + E) (b := 2047) (by split <;> omega) (by decide)
      have h3 : ((if s then 2048 else 0) + E) &&& 2047 = E := by
        have := Nat.and_two_pow_sub_one_eq_mod ((if s then 2048 else 0) + E) 11
        rw [show 2 ^ 11 - 1 = 2047 by decide] at this
        rw [this]
        cases s
        · simp only [Bool.false_eq_true, if_false]; omega
        · simp only [if_true]; omega
      rw [h3, show ((2047 : Nat) : Int) = 2047 by rfl] at h2
      rw [h2, wrapI (by omega) (by omega)]
    have htail : ∀ (R : Type) (k : Nat → Option R), ldexpTail fiReal copyK ((if s then 2 ^ 63 else 0) + E * 2 ^ 52 + f) e n k =
        if n + e + E - 1023 < -1075 then copyK R 0 ((if s then 2 ^ 63 else 0) + E * 2 ^ 52 + f) k
        else if n + e + E - 1023 < -1022 then ldexpEnd fiReal ((if s then 2 ^ 63 else 0) + E * 2 ^ 52 + f) (n + e + E - 970) 4368491638549381120 k
        else ldexpEnd fiReal ((if s then 2 ^ 63 else 0) + E * 2 ^ 52 + f) (n + e + E - 1023) 4607182418800017408 k := fun R k => by
      unfold ldexpTail
      simp only [fiReal_fair R]
      rw [hexpo, wrapI (n := n + e) (by omega) (by omega), wrapI (n := n + e + ((E : Int) - 1023)) (by omega) (by omega)]
      rw [show n + e + ((E : Int) - 1023) = n + e + E - 1023 by omega]
      simp only [forceB_eq]
      by_cases c1 : n + e + E - 1023 < -1075
      · simp [c1]
      · have c2 : ¬ (n + e + E - 1023 > 1023) := by omega
        by_cases c3 : n + e + E - 1023 < -1022
        · simp only [c1, c2, c3, decide_false, decide_true, if_false, if_true]
          rw [wrapI (by omega) (by omega), show n + e + (E : Int) - 1023 + 53 = n + e + E - 970 by omega]
        · simp only [c1, c2, c3, decide_false, if_false]
    have hend : ∀ (ex : Int) (m : Nat) (R : Type) (k : Nat → Option R), -1022 ≤ ex → ex ≤ 1023 → ldexpEnd fiReal ((if s then 2 ^ 63 else 0) + E * 2 ^ 52 + f) ex m k =
        bindF (fbF .mul m ((if s then 2 ^ 63 else 0) + (ex + 1023).toNat * 2 ^ 52 + f)) k := fun ex m R k g1 g2 => by
      unfold ldexpEnd
      simp only [fiReal_fair R]
      rw [wrapI (by omega) (by omega), wrapU (by omega) (by omega), strip_eq b2 b3]
      obtain ⟨t, ht⟩ := Int.eq_ofNat_of_zero_le (show 0 ≤ ex + 1023 by omega)
      rw [ht, shlU_eq (by omega), lay_eq (by omega) b3, Int.toNat_natCast]
    by_cases c1 : n + e + E - 1023 < -1075
    · obtain ⟨w, g1, g2⟩ := copy_zero hyw
      have hsm : (x * (2 : Rat) ^ n).abs < (2 : Rat) ^ (-1075 : Int) := by
        have := p2_le (show n + e + E - 1022 ≤ -1075 by omega)
        grind
      refine ⟨w, 0, g1, ⟨.inr ?_, fun K q k1 k2 k3 => ?_⟩, fun R k => by rw [hgo, htail, if_pos c1, g2]⟩
      · rw [show (0 : Rat) - x * (2 : Rat) ^ n = -(x * (2 : Rat) ^ n) by grind, abs_neg]
        grind
      · rw [k3, abs_mul, int_abs, p2_abs] at hsm
        have hK : K.natAbs = 0 := by
          rcases Nat.eq_zero_or_pos K.natAbs with h0 | h0
          · exact h0
          · exfalso
            have f1 : ((1 : Nat) : Rat) ≤ ((K.natAbs : Nat) : Rat) := nat_cast_le h0
            have f2 := Rat.mul_le_mul_of_nonneg_right f1 (Rat.le_of_lt (p2_pos q))
            have f3 := p2_le (show (-1075 : Int) ≤ q by omega)
            have f4 : ((1 : Nat) : Rat) * (2 : Rat) ^ q = (2 : Rat) ^ q := by simp
            grind
        have : K = 0 := by omega
        rw [k3, this]
        simp
    · by_cases c3 : n + e + E - 1023 < -1022
      · have hw := fields_is (s := s) (E := (n + e + E - 970 + 1023).toNat) (f := f) (by omega) (by omega) b3
        have hval : (2 : Rat) ^ (-53 : Int) * dv s (2 ^ 52 + f) ((((n + e + E - 970 + 1023).toNat : Nat) : Int) - 1075) = x * (2 : Rat) ^ n := by
          rw [hxe, hdv, Rat.mul_comm]
          unfold dv
          rw [Rat.mul_assoc, Rat.mul_assoc, ← p2_add]
          congr 3
          omega
        obtain ⟨r, z, m1, m2, m3⟩ := mul_is is_m53 hw (by rw [hval]; exact hlt)
        rw [hval] at m3
        exact ⟨r, z, m2, m3, fun R k => by rw [hgo, htail, if_neg c1, if_pos c3, hend _ _ R k (by omega) (by omega), bindF_eq m1]⟩
      · have hw := fields_is (s := s) (E := (n + e + E - 1023 + 1023).toNat) (f := f) (by omega) (by omega) b3
        have hval : 1 * dv s (2 ^ 52 + f) ((((n + e + E - 1023 + 1023).toNat : Nat) : Int) - 1075) = x * (2 : Rat) ^ n := by
          rw [hxe, hdv, Rat.one_mul]
          congr 1
          omega
        obtain ⟨r, z, m1, m2, m3⟩ := mul_is is_one hw (by rw [hval]; exact hlt)
        rw [hval] at m3
        exact ⟨r, z, m2, m3, fun R k => by rw [hgo, htail, if_neg c1, if_neg c3, hend _ _ R k (by omega) (by omega), bindF_eq m1]⟩
end Go.Vm
namespace Go.Vm
open Ieee
set_option linter.unusedVariables false
set_option linter.unusedSimpArgs false

theorem sq_le {x m : Rat} (h : x.abs ≤ m) : x * x ≤ m * m := by
  obtain ⟨h1, h2⟩ := abs_le_iff.1 h
  have := Rat.mul_nonneg (show 0 ≤ m - x by grind) (show 0 ≤ m + x by grind)
  grind
theorem sq_nonneg (x : Rat) : 0 ≤ x * x := by
  rcases (Rat.le_total : 0 ≤ x ∨ x ≤ 0) with h | h
  · exact Rat.mul_nonneg h h
  · have := Rat.mul_nonneg (show 0 ≤ -x by grind) (show 0 ≤ -x by grind); grind
theorem sq_ge {x m : Rat} (h : m ≤ x.abs) (hm : 0 ≤ m) : m * m ≤ x * x := by
  rcases (Rat.le_total : 0 ≤ x ∨ x ≤ 0) with g | g
  · rw [Rat.abs_of_nonneg g] at h
    have h1 := Rat.mul_le_mul_of_nonneg_left h hm
    have h2 := Rat.mul_le_mul_of_nonneg_right h g
    grind
  · rw [Rat.abs_of_nonpos g] at h
    have h1 := Rat.mul_le_mul_of_nonneg_left h hm
    have h2 := Rat.mul_le_mul_of_nonneg_right h (show 0 ≤ -x by grind)
    grind

theorem e53_le : (2 : Rat) ^ (-53 : Int) ≤ 1 / 1000 := by
  have h6 := p2_le (show (-53 : Int) ≤ -10 by decide)
  have h7 : (2 : Rat) ^ (-10 : Int) * (2 : Rat) ^ (10 : Int) = 1 := by rw [← p2_add, show (-10 + 10 : Int) = 0 by decide, Rat.zpow_zero]
  have h8 : (2 : Rat) ^ (10 : Int) = 1024 := by rw [show (10 : Int) = ((10 : Nat) : Int) by rfl, p2_nat]; rfl
  rw [h8] at h7
  grind

/-- How far a rounded number is, coarsely. -/
theorem Rnd.coarse {x z : Rat} (h : Rnd x z) : (z - x).abs ≤ x.abs * (1 / 1000) + (2 : Rat) ^ (-1075 : Int) := by
  have h1 := Rat.mul_le_mul_of_nonneg_left e53_le (abs_nonneg x)
  have h2 := p2_pos (-1075)
  have h3 := abs_nonneg x
  rcases h.near with g | g <;> grind

theorem p2_small {q : Int} (h : q ≤ -53) : (2 : Rat) ^ q ≤ 1 / 1000 := Rat.le_trans (p2_le h) e53_le

theorem lt_p2_1023 {x : Rat} (h : x.abs ≤ 1000) : x.abs < (2 : Rat) ^ (1023 : Int) := by
  have h6 := p2_le (show (10 : Int) ≤ 1023 by decide)
  have h8 : (2 : Rat) ^ (10 : Int) = 1024 := by rw [show (10 : Int) = ((10 : Nat) : Int) by rfl, p2_nat]; rfl
  grind

theorem greatestK_is {a b : Nat} {x y : Rat} (ha : Is a x) (hb : Is b y) : ∃ (g : Nat) (G : Rat), Is g G ∧ x.abs ≤ G ∧ y.abs ≤ G ∧ (G = x.abs ∨ G = y.abs) ∧ ∀ (R : Type) (k : Nat → Option R), greatestK R a b k = k g := by
  have hdef : ∀ (R : Type) (k : Nat → Option R), greatestK R a b k = forceB (gtF (absW b) (absW a)) fun t => match t with
      | true => k (absW b)
      | false => k (absW a) := fun R k => rfl
  by_cases h : x.abs < y.abs
  · refine ⟨_, y.abs, abs_is hb, by grind, by grind, .inr rfl, fun R k => ?_⟩
    rw [hdef, forceB_eq, gtF_is (abs_is hb) (abs_is ha)]
    simp only [h, decide_true]
  · refine ⟨_, x.abs, abs_is ha, by grind, by grind, .inl rfl, fun R k => ?_⟩
    rw [hdef, forceB_eq, gtF_is (abs_is hb) (abs_is ha)]
    simp only [h, decide_false]

end Go.Vm
