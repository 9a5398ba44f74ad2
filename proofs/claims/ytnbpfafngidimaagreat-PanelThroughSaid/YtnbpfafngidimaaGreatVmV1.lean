/- A part of the evaluator and of what is told of floats; no conditions. A code is evaluated with its loops told by a handler of their own, round by round; no conditions. -/
import Derived.Test.YtnbpfafngidimaaGreatVmV0
import Derived.Test.YtnbpfafngidimaaGreatVmM
namespace Go.Vm
open Ieee
set_option linter.unusedVariables false
set_option linter.unusedSectionVars false
set_option linter.unusedSimpArgs false

/-! ### What comes of a piece at a place -/
section
variable {a b : Nat} {A B C : Rat}
theorem lt_1e5 {x : Rat} (h : x.abs ≤ 100000) : x.abs < (2 : Rat) ^ (1023 : Int) := by
  have : (100000 : Rat) < (2 : Rat) ^ (17 : Int) := by rw [show (17 : Int) = ((17 : Nat) : Int) by rfl, p2_nat]; decide
  have := p2_le (show (17 : Int) ≤ 1023 by decide)
  grind
theorem bw_mul (ha : Bv A a) (hb : Bv B b) (h : A * B * (1001 / 1000) + 1 / 1000 ≤ C) (hC : C ≤ 100000) : ∃ c, fbF .mul a b = some c ∧ Bv C c := by
  have hA := ha.nonneg
  have hB := hb.nonneg
  obtain ⟨x, ax, bx⟩ := ha
  obtain ⟨y, ay, by'⟩ := hb
  have hxy : (x * y).abs ≤ A * B := by rw [abs_mul]; exact mul_mono' bx by' (abs_nonneg _) hA
  have := Rat.mul_nonneg hA hB
  obtain ⟨r, z, g1, g2, g3⟩ := mul_is ax ay (lt_1e5 (by grind))
  exact ⟨r, g1, z, g2, bd_rnd g3 hxy h⟩
theorem bw_add (ha : Bv A a) (hb : Bv B b) (h : (A + B) * (1001 / 1000) + 1 / 1000 ≤ C) (hC : C ≤ 100000) : ∃ c, fbF .add a b = some c ∧ Bv C c := by
  have hA := ha.nonneg
  have hB := hb.nonneg
  obtain ⟨x, ax, bx⟩ := ha
  obtain ⟨y, ay, by'⟩ := hb
  have hxy : (x + y).abs ≤ A + B := by have := abs_add_le x y; grind
  obtain ⟨r, z, g1, g2, g3⟩ := add_is ax ay (lt_1e5 (by grind))
  exact ⟨r, g1, z, g2, bd_rnd g3 hxy h⟩
theorem bw_sub (ha : Bv A a) (hb : Bv B b) (h : (A + B) * (1001 / 1000) + 1 / 1000 ≤ C) (hC : C ≤ 100000) : ∃ c, fbF .sub a b = some c ∧ Bv C c := by
  have hA := ha.nonneg
  have hB := hb.nonneg
  obtain ⟨x, ax, bx⟩ := ha
  obtain ⟨y, ay, by'⟩ := hb
  have hxy : (x - y).abs ≤ A + B := by have := abs_add_le x (-y); rw [abs_neg, show x + -y = x - y by grind] at this; grind
  obtain ⟨r, z, g1, g2, g3⟩ := sub_is ax ay (lt_1e5 (by grind))
  exact ⟨r, g1, z, g2, bd_rnd g3 hxy h⟩
end
theorem Bv.fin {A : Rat} {w : Nat} (h : Bv A w) : Fin w := let ⟨x, h, _⟩ := h; ⟨x, h⟩
theorem Bv.le {A : Rat} {w : Nat} (h : Bv A w) : Le A w := let ⟨x, h1, h2⟩ := h; Le.of h1 h2
theorem LogOut.or {r : Nat} (h : LogOut r) : Bv 790 r ∨ Big (some r) := h.imp id fun e => by subst e; exact big_neg
/-- the end of what is asked of a piece: the two logarithms' difference, turned, over twice pi -/
def atR (c1 c2 a1 a2 b1 b2 : Nat) : Option Nat × Option Nat :=
  let v1 := opO .sub (some a1) (some b1)
  let v2 := opO .sub (some a2) (some b2)
  (opO .mul (opO .sub (opO .mul (some c1) v1) (opO .mul (some c2) v2)) (some 4594902181429758083), opO .mul (opO .add (opO .mul (some c1) v2) (opO .mul (some c2) v1)) (some 4594902181429758083))
def atX {R : Type} (p : Option Nat × Option Nat) (k : Nat → Nat → Int → Option R) : Option R := match p with
  | (some x, some y) => bif finO (some x) && finO (some y) then k x y 0 else k 0 0 6
  | _ => k 0 0 6
def AtOut (x y : Nat) (e : Int) : Prop := (e = 0 ∧ Bv 261 x ∧ Bv 261 y) ∨ (e = 6 ∧ x = 0 ∧ y = 0)
theorem atX_big {R : Type} {p : Option Nat × Option Nat} (h : Big p.1) (k : Nat → Nat → Int → Option R) : atX p k = k 0 0 6 := by
  obtain ⟨o, q⟩ := p
  cases o with
  | none => rfl
  | some x =>
    cases q with
    | none => rfl
    | some y =>
      unfold atX
      simp only
      rw [finO_big h]
      rfl
theorem atR_out {c1 c2 a1 a2 b1 b2 : Nat} (h1 : Bv (101 / 100) c1) (h2 : Bv (101 / 100) c2) (ha : LogOut a1) (ha2 : Bv 16 a2) (hb : LogOut b1) (hb2 : Bv 16 b2) :
    ∃ x y e, AtOut x y e ∧ ∀ (R : Type) (k : Nat → Nat → Int → Option R), atX (atR c1 c2 a1 a2 b1 b2) k = k x y e := by
  obtain ⟨v2, e2, q2⟩ := bw_sub ha2 hb2 (C := 33) (by grind) (by grind)
  obtain ⟨p2, f2, g2⟩ := bw_mul h2 q2 (C := 34) (by grind) (by grind)
  have E2 : opO .sub (some a2) (some b2) = some v2 := e2
  have F2 : opO .mul (some c2) (some v2) = some p2 := f2
  have big : Big (opO .sub (some a1) (some b1)) → ∃ x y e, AtOut x y e ∧ ∀ (R : Type) (k : Nat → Nat → Int → Option R), atX (atR c1 c2 a1 a2 b1 b2) k = k x y e := fun hv => by
    refine ⟨0, 0, 6, .inr ⟨rfl, rfl, rfl⟩, fun R k => atX_big ?_ k⟩
    unfold atR
    simp only
    rw [E2, F2]
    exact big_mul (big_sub (big_mul' hv h1.fin) g2.fin) tau_bv.fin
  rcases ha.or with ga | ga
  · rcases hb.or with gb | gb
    · obtain ⟨v1, e1, q1⟩ := bw_sub ga gb (C := 1582) (by grind) (by grind)
      obtain ⟨p1, f1, g1⟩ := bw_mul h1 q1 (C := 1600) (by grind) (by grind)
      obtain ⟨m1, k1, n1⟩ := bw_sub g1 g2 (C := 1636) (by grind) (by grind)
      obtain ⟨r1, s1, t1⟩ := bw_mul n1 tau_bv (C := 261) (by grind) (by grind)
      obtain ⟨p3, f3, g3⟩ := bw_mul h1 q2 (C := 34) (by grind) (by grind)
      obtain ⟨p4, f4, g4⟩ := bw_mul h2 q1 (C := 1600) (by grind) (by grind)
      obtain ⟨m2, k2, n2⟩ := bw_add g3 g4 (C := 1636) (by grind) (by grind)
      obtain ⟨r2, s2, t2⟩ := bw_mul n2 tau_bv (C := 261) (by grind) (by grind)
      refine ⟨r1, r2, 0, .inl ⟨rfl, t1, t2⟩, fun R k => ?_⟩
      have : atR c1 c2 a1 a2 b1 b2 = (some r1, some r2) := by
        unfold atR
        simp only [opO, e1, e2, f1, f2, f3, f4, k1, k2, s1, s2]
      rw [this]
      unfold atX
      simp only
      rw [finO_fin t1.fin, finO_fin t2.fin]
      rfl
    · exact big (big_sub' gb ga.fin)
  · rcases hb.or with gb | gb
    · exact big (big_sub ga gb.fin)
    · exact big (big_sub2 ga gb)
def plK : ∀ R : Type, Nat → Nat → Nat → Nat → Nat → Nat → Nat → (Nat → Nat → Int → Option R) → Option R := fun R f1 f2 u1 u2 l z1 z2 k => conjK R u1 u2 fun c1 c2 => subK R z1 z2 f1 f2 fun s1 s2 => mulK R c1 c2 s1 s2 fun d1 d2 => bindF (fbF .add d2 0) fun y => powLogK R d1 y fun a1 a2 => bindF (fbF .sub d1 l) fun x => powLogK R x y fun b1 b2 => atX (atR c1 c2 a1 a2 b1 b2) k
theorem plK_out {f1 f2 u1 u2 l z1 z2 : Nat} (hf1 : Bv 20 f1) (hf2 : Bv 20 f2) (hu1 : Bv (101 / 100) u1) (hu2 : Bv (101 / 100) u2) (hl : Bv 60 l) (hz1 : Bv 20 z1) (hz2 : Bv 20 z2) :
    ∃ x y e, AtOut x y e ∧ ∀ (R : Type) (k : Nat → Nat → Int → Option R), plK R f1 f2 u1 u2 l z1 z2 k = k x y e := by
  have hc2 := bd_neg hu2
  obtain ⟨s1, e1, q1⟩ := bw_sub hz1 hf1 (C := 41) (by grind) (by grind)
  obtain ⟨s2, e2, q2⟩ := bw_sub hz2 hf2 (C := 41) (by grind) (by grind)
  obtain ⟨p1, g1, h1⟩ := bw_mul hu1 q1 (C := 42) (by grind) (by grind)
  obtain ⟨p2, g2, h2⟩ := bw_mul hc2 q2 (C := 42) (by grind) (by grind)
  obtain ⟨d1, k1, m1⟩ := bw_sub h1 h2 (C := 85) (by grind) (by grind)
  obtain ⟨p3, g3, h3⟩ := bw_mul hu1 q2 (C := 42) (by grind) (by grind)
  obtain ⟨p4, g4, h4⟩ := bw_mul hc2 q1 (C := 42) (by grind) (by grind)
  obtain ⟨d2, k2, m2⟩ := bw_add h3 h4 (C := 85) (by grind) (by grind)
  obtain ⟨y, y1, y2⟩ := bw_add m2 (B := 0) (b := 0) ⟨0, is0, by rw [abs_zero]; grind⟩ (C := 86) (by grind) (by grind)
  obtain ⟨x, x1, x2⟩ := bw_sub m1 hl (C := 146) (by grind) (by grind)
  have lg : ∀ {a b : Nat} {A B : Rat}, Bv A a → Bv B b → A ≤ 1000 → B ≤ 1000 → ∃ r i, LogOut r ∧ Bv 16 i ∧ ∀ (R : Type) (k : Nat → Nat → Option R), powLogK R a b k = k r i := fun ha hb h1 h2 => by
    obtain ⟨x, ix, bx⟩ := ha
    obtain ⟨y, iy, by'⟩ := hb
    exact powLogK_any ix iy (by grind) (by grind)
  obtain ⟨a1, a2, A1, A2, EA⟩ := lg m1 y2 (by grind) (by grind)
  obtain ⟨b1, b2, B1, B2, EB⟩ := lg x2 y2 (by grind) (by grind)
  obtain ⟨r1, r2, e, ho, hk⟩ := atR_out hu1 hc2 A1 A2 B1 B2
  refine ⟨r1, r2, e, ho, fun R k => ?_⟩
  unfold plK conjK subK mulK
  simp only [forceN_eq, bindF_eq e1, bindF_eq e2, bindF_eq g1, bindF_eq g2, bindF_eq k1, bindF_eq g3, bindF_eq g4, bindF_eq k2, bindF_eq y1, EA, bindF_eq x1, EB, hk]
end Go.Vm
namespace Go.Vm
open Ieee
set_option linter.unusedVariables false
set_option linter.unusedSectionVars false
set_option linter.unusedSimpArgs false

/-! ### What is not nought is not too small -/
/-- nought, or at least 2 to the minus k -/
def Gz (k : Nat) (x : Rat) : Prop := x = 0 ∨ (2 : Rat) ^ (-(k : Int)) ≤ x.abs
theorem Gz.mono {k j : Nat} {x : Rat} (h : Gz k x) (hj : k ≤ j) : Gz j x := h.imp id fun h => Rat.le_trans (p2_le (by omega)) h
/-- a word's value at most B, and nought or at least 2 to the minus k -/
def Bg (B : Rat) (k : Nat) (w : Nat) : Prop := ∃ x, Is w x ∧ x.abs ≤ B ∧ Gz k x
theorem Bg.bv {B : Rat} {k w : Nat} (h : Bg B k w) : Bv B w := let ⟨x, h1, h2, _⟩ := h; ⟨x, h1, h2⟩
theorem Bg.mono {A B : Rat} {j k w : Nat} (h : Bg A j w) (hb : A ≤ B) (hk : j ≤ k) : Bg B k w := let ⟨x, h1, h2, h3⟩ := h; ⟨x, h1, Rat.le_trans h2 hb, h3.mono hk⟩
theorem gz_near {x z : Rat} {k : Nat} (hk : k ≤ 900) (h : Gz k x) (q0 : x = 0 → z = 0) (q : (z - x).abs ≤ x.abs * (1 / 1000) + (2 : Rat) ^ (-1074 : Int)) : Gz (k + 1) z := by
  rcases h with h | h
  · exact .inl (q0 h)
  · right
    have h2 : (2 : Rat) ^ (-1074 : Int) ≤ (2 : Rat) ^ (-(k : Int)) * (1 / 1000) := by
      have g1 := p2_small (show (-100 : Int) ≤ -53 by decide)
      have g2 := Rat.mul_le_mul_of_nonneg_left g1 (Rat.le_of_lt (p2_pos (-(k : Int))))
      rw [← p2_add] at g2
      exact Rat.le_trans (p2_le (by omega)) g2
    have h3 := p2_half (-(k : Int))
    rw [show (-((k + 1 : Nat) : Int)) = -(k : Int) - 1 by omega]
    have h4 := abs_add_le (x - z) z
    rw [show x - z + z = x by grind, abs_sub_comm x z] at h4
    have p0 := p2_pos (-(k : Int) - 1)
    generalize (2 : Rat) ^ (-1074 : Int) = t at *
    generalize (2 : Rat) ^ (-(k : Int) - 1) = v at *
    generalize (2 : Rat) ^ (-(k : Int)) = u at *
    grind
theorem gz_rnd {x z : Rat} {k : Nat} (hk : k ≤ 900) (h : Gz k x) (q : Rnd x z) : Gz (k + 1) z := by
  refine gz_near hk h (fun h => ?_) ?_
  · have := q.rep 0 0 (by decide) (by decide) (by rw [h]; simp)
    rw [this, h]
  · have h1 := q.coarse
    have := p2_le (show (-1075 : Int) ≤ -1074 by decide)
    grind
theorem gz_rnd2 {x z : Rat} {k : Nat} (hk : k ≤ 900) (h : Gz k x) (q : Rnd2 x z) : Gz (k + 1) z := by
  refine gz_near hk h (fun h => ?_) ?_
  · have := q.rep 0 0 (by decide) (by decide) (by rw [h]; simp)
    rw [this, h]
  · have e52 : (2 : Rat) ^ (-52 : Int) ≤ 1 / 1000 := Rat.le_trans (p2_le (show (-52 : Int) ≤ -10 by decide)) (by
      have h10 := p2_cancel 10
      have : (2 : Rat) ^ (10 : Int) = 1024 := by rw [show (10 : Int) = ((10 : Nat) : Int) by rfl, p2_nat]; rfl
      rw [this] at h10
      generalize (2 : Rat) ^ (-10 : Int) = u at *
      grind)
    have n0 := abs_nonneg x
    have p0 := p2_pos (-1074)
    rcases q.near with g | g
    · have := Rat.mul_le_mul_of_nonneg_left e52 n0
      grind
    · grind
/-- whole many of what is small -/
theorem gz_grid {w k : Nat} {x : Rat} (h : Is w x) (hx : Gz k x) : ∃ K : Int, x = K * (2 : Rat) ^ (-((k + 52 : Nat) : Int)) := by
  rcases hx with hx | hx
  · exact ⟨0, by rw [hx]; simp⟩
  · obtain ⟨K, e, k1, k2, k3, rfl⟩ := is_rep h
    have he : -((k + 52 : Nat) : Int) ≤ e := by
      refine Int.not_lt.1 fun hlt => ?_
      have h1 : e ≤ -(k : Int) - 53 := by omega
      have g1 := p2_le h1
      rw [abs_mul, p2_abs] at hx
      have hK : ((K : Rat)).abs < (2 : Rat) ^ (53 : Int) := by
        rw [show (53 : Int) = ((53 : Nat) : Int) by rfl, p2_nat]
        have := int_abs_le (n := K) (N := 2 ^ 53 - 1) (by omega)
        have h2 : (((2 ^ 53 - 1 : Nat) : Int) : Rat) < ((2 ^ 53 : Nat) : Rat) := by decide
        grind
      have g2 := Rat.mul_lt_mul_of_pos_right hK (p2_pos e)
      have g3 := Rat.mul_le_mul_of_nonneg_left g1 (Rat.le_of_lt (p2_pos 53))
      have e3 : (2 : Rat) ^ (53 : Int) * (2 : Rat) ^ (-(k : Int) - 53) = (2 : Rat) ^ (-(k : Int)) := by
        rw [← p2_add, show (53 : Int) + (-(k : Int) - 53) = -(k : Int) by omega]
      rw [e3] at g3
      grind
    refine ⟨K * ((2 ^ (e + ((k + 52 : Nat) : Int)).toNat : Nat) : Int), ?_⟩
    have e1 : e = ((e + ((k + 52 : Nat) : Int)).toNat : Int) + -((k + 52 : Nat) : Int) := by omega
    conv => lhs; rw [e1]
    rw [p2_add, p2_nat, ← Rat.mul_assoc]
    congr 1
    push_cast
    rfl
theorem gz_mul {x y : Rat} {j k : Nat} (hx : Gz j x) (hy : Gz k y) : Gz (j + k) (x * y) := by
  rcases hx with hx | hx
  · left; rw [hx]; grind
  rcases hy with hy | hy
  · left; rw [hy]; grind
  right
  rw [abs_mul, show (-((j + k : Nat) : Int)) = -(j : Int) + -(k : Int) by omega, p2_add]
  exact mul_mono' hx hy (Rat.le_of_lt (p2_pos _)) (abs_nonneg _)
theorem gz_int {K : Int} {m : Nat} : Gz m ((K : Rat) * (2 : Rat) ^ (-(m : Int))) := by
  rcases Classical.em (K = 0) with h | h
  · left; rw [h]; simp
  · right
    rw [abs_mul, p2_abs]
    have h1 : (1 : Rat) ≤ (K : Rat).abs := by
      have h1 : (1 : Int) ≤ K ∨ K ≤ -1 := by omega
      rcases h1 with h1 | h1
      · have : ((1 : Int) : Rat) ≤ (K : Rat) := by exact_mod_cast h1
        rw [show ((1 : Int) : Rat) = 1 by norm_cast] at this
        have := (abs_le_self (K : Rat)).1
        grind
      · have : (K : Rat) ≤ ((-1 : Int) : Rat) := by exact_mod_cast h1
        rw [show ((-1 : Int) : Rat) = -1 by norm_cast] at this
        have := (abs_le_self (K : Rat)).2
        grind
    have := Rat.mul_le_mul_of_nonneg_right h1 (Rat.le_of_lt (p2_pos (-(m : Int))))
    grind
theorem gz_add {a b : Nat} {x y : Rat} {k : Nat} (ha : Is a x) (hb : Is b y) (hx : Gz k x) (hy : Gz k y) : Gz (k + 52) (x + y) := by
  obtain ⟨K, rfl⟩ := gz_grid ha hx
  obtain ⟨M, rfl⟩ := gz_grid hb hy
  rw [← Rat.add_mul, ← Rat.intCast_add]
  exact gz_int
theorem gz_neg {x : Rat} {k : Nat} (h : Gz k x) : Gz k (-x) := h.imp (fun h => by rw [h]; grind) fun h => by rw [abs_neg]; exact h
section
variable {a b : Nat} {A B C : Rat} {j k : Nat}
theorem bg_mul (ha : Bg A j a) (hb : Bg B k b) (h : A * B * (1001 / 1000) + 1 / 1000 ≤ C) (hC : C ≤ 100000) (hk : j + k ≤ 900) : ∃ c, fbF .mul a b = some c ∧ Bg C (j + k + 1) c := by
  have hA := ha.bv.nonneg
  have hB := hb.bv.nonneg
  obtain ⟨x, ax, bx, gx⟩ := ha
  obtain ⟨y, ay, by', gy⟩ := hb
  have hxy : (x * y).abs ≤ A * B := by rw [abs_mul]; exact mul_mono' bx by' (abs_nonneg _) hA
  have := Rat.mul_nonneg hA hB
  obtain ⟨r, z, g1, g2, g3⟩ := mul_is ax ay (lt_1e5 (by grind))
  exact ⟨r, g1, z, g2, bd_rnd g3 hxy h, gz_rnd hk (gz_mul gx gy) g3⟩
theorem bg_add (ha : Bg A k a) (hb : Bg B k b) (h : (A + B) * (1001 / 1000) + 1 / 1000 ≤ C) (hC : C ≤ 100000) (hk : k ≤ 800) : ∃ c, fbF .add a b = some c ∧ Bg C (k + 53) c := by
  have hA := ha.bv.nonneg
  have hB := hb.bv.nonneg
  obtain ⟨x, ax, bx, gx⟩ := ha
  obtain ⟨y, ay, by', gy⟩ := hb
  have hxy : (x + y).abs ≤ A + B := by have := abs_add_le x y; grind
  obtain ⟨r, z, g1, g2, g3⟩ := add_is ax ay (lt_1e5 (by grind))
  exact ⟨r, g1, z, g2, bd_rnd g3 hxy h, gz_rnd (by omega) (gz_add ax ay gx gy) g3⟩
theorem is_neg {w : Nat} {y : Rat} (h : Is w y) : ∃ w', Is w' (-y) := ⟨_, neg_is h⟩
theorem bg_sub (ha : Bg A k a) (hb : Bg B k b) (h : (A + B) * (1001 / 1000) + 1 / 1000 ≤ C) (hC : C ≤ 100000) (hk : k ≤ 800) : ∃ c, fbF .sub a b = some c ∧ Bg C (k + 53) c := by
  have hA := ha.bv.nonneg
  have hB := hb.bv.nonneg
  obtain ⟨x, ax, bx, gx⟩ := ha
  obtain ⟨y, ay, by', gy⟩ := hb
  have hxy : (x - y).abs ≤ A + B := by have := abs_add_le x (-y); rw [abs_neg, show x + -y = x - y by grind] at this; grind
  obtain ⟨r, z, g1, g2, g3⟩ := sub_is ax ay (lt_1e5 (by grind))
  obtain ⟨w', hw'⟩ := is_neg ay
  have := gz_add ax hw' gx (gz_neg gy)
  rw [show x + -y = x - y by grind] at this
  exact ⟨r, g1, z, g2, bd_rnd g3 hxy h, gz_rnd (by omega) this g3⟩
/-- a quotient by what lies from D to 2 to the m -/
theorem bg_quo {y D Q : Rat} {m : Nat} (ha : Bg A j a) (hb : Is b y) (hD : D ≤ y.abs) (hD0 : 0 < D) (hy : y.abs ≤ (2 : Rat) ^ (m : Int)) (hQ : A ≤ Q * D) (hQ0 : 0 ≤ Q) (h : Q * (1001 / 1000) + 1 / 1000 ≤ C) (hC : C ≤ 500) (hk : j + m ≤ 900) :
    ∃ c, fbF .quo a b = some c ∧ Bg C (j + m + 1) c := by
  have hA := ha.bv.nonneg
  obtain ⟨x, ax, bx, gx⟩ := ha
  have hy0 : 0 < y.abs := by grind
  have hyn : y ≠ 0 := by rintro rfl; rw [abs_zero] at hy0; grind
  have hq : (x / y).abs * y.abs = x.abs := by
    rw [← abs_mul]
    congr 1
    rw [Rat.div_def, Rat.mul_assoc, Rat.inv_mul_cancel _ hyn, Rat.mul_one]
  have hq2 : (x / y).abs ≤ Q := by
    refine Rat.le_of_mul_le_mul_right (c := y.abs) ?_ hy0
    rw [hq]
    refine Rat.le_trans bx (Rat.le_trans hQ ?_)
    exact Rat.mul_le_mul_of_nonneg_left hD hQ0
  obtain ⟨r, z, g1, g2, g3⟩ := div_is ax hb hyn (by
    have h1 : (x / y).abs ≤ (2 : Rat) ^ (9 : Int) := by
      have : (2 : Rat) ^ (9 : Int) = 512 := by rw [show (9 : Int) = ((9 : Nat) : Int) by rfl, p2_nat]; rfl
      rw [this]; grind
    have h2 : (2 : Rat) ^ (9 + 1 : Int) ≤ (2 : Rat) ^ (1022 : Int) := p2_le (by decide)
    rw [p2_succ] at h2
    have := p2_pos 9
    grind)
  have gz : Gz (j + m) (x / y) := by
    rcases gx with gx | gx
    · left; rw [gx, Rat.div_def]; grind
    · right
      refine Rat.le_of_mul_le_mul_right (c := (2 : Rat) ^ (m : Int)) ?_ (p2_pos _)
      rw [← p2_add, show -((j + m : Nat) : Int) + (m : Int) = -(j : Int) by omega]
      have := Rat.mul_le_mul_of_nonneg_left hy (abs_nonneg (x / y))
      grind
  obtain ⟨c, c1, c2⟩ := bd_quo (C := C) ⟨x, ax, bx⟩ hb hD hD0 hQ hQ0 h hC
  have e : c = r := by rw [c1] at g1; exact Option.some.inj g1
  subst e
  obtain ⟨z', i1, i2⟩ := c2
  have : z' = z := is_fun i1 g2
  subst this
  exact ⟨c, c1, z', i1, i2, gz_rnd2 hk gz g3⟩
end
end Go.Vm
namespace Go.Vm
open Ieee
set_option linter.unusedVariables false
set_option linter.unusedSectionVars false
set_option linter.unusedSimpArgs false

/-! ### Fine bounds of single operations -/
def big200 : Rat := (2 : Rat) ^ (200 : Int)
theorem big200_lt {x : Rat} (h : x.abs ≤ big200) : x.abs < (2 : Rat) ^ (1023 : Int) := by
  have h1 := p2_le (show (201 : Int) ≤ 1023 by decide)
  have h2 := p2_half 201
  rw [show (201 - 1 : Int) = 200 by decide] at h2
  have := p2_pos 200
  unfold big200 at h
  grind
section
variable {a b : Nat} {A B : Rat}
theorem fine_mul (ha : Is a A) (hb : Is b B) (h : A.abs * B.abs ≤ big200) : ∃ c C, fbF .mul a b = some c ∧ Is c C ∧ (C - A * B).abs ≤ eps / 4 * (A.abs * B.abs) + tn ∧ (A = 0 ∨ B = 0 → C = 0) := by
  obtain ⟨c, C, g1, g2, g3⟩ := mul_is ha hb (big200_lt (by rw [abs_mul]; exact h))
  refine ⟨c, C, g1, g2, ?_, fun h0 => ?_⟩
  · have := g3.fine
    rw [abs_mul] at this
    grind
  · have e : A * B = 0 := by rcases h0 with h0 | h0 <;> rw [h0] <;> grind
    have := g3.rep 0 0 (by decide) (by decide) (by rw [e]; simp)
    rw [this, e]
theorem fine_add (ha : Is a A) (hb : Is b B) (h : A.abs + B.abs ≤ big200) : ∃ c C, fbF .add a b = some c ∧ Is c C ∧ (C - (A + B)).abs ≤ eps / 4 * (A.abs + B.abs) + tn ∧ (A + B = 0 → C = 0) ∧ (0 ≤ A + B → 0 ≤ C) := by
  have hx : (A + B).abs ≤ A.abs + B.abs := abs_add_le A B
  obtain ⟨c, C, g1, g2, g3⟩ := add_is ha hb (big200_lt (Rat.le_trans hx h))
  refine ⟨c, C, g1, g2, ?_, fun h0 => ?_, fun h0 => rnd_nonneg g2 g3 h0⟩
  · have := g3.fine
    have ep := eps_pos
    have := Rat.mul_le_mul_of_nonneg_left hx (show 0 ≤ eps / 4 by grind)
    grind
  · have := g3.rep 0 0 (by decide) (by decide) (by rw [h0]; simp)
    rw [this, h0]
end
/-- a product's imaginary part -/
theorem fine_im {a b c d : Nat} {A B C D : Rat} (ha : Is a A) (hb : Is b B) (hc : Is c C) (hd : Is d D) (h1 : A.abs ≤ (2 : Rat) ^ (90 : Int)) (h2 : B.abs ≤ (2 : Rat) ^ (90 : Int)) (h3 : C.abs ≤ 2) (h4 : D.abs ≤ 2) :
    ∃ x y Y, Is y Y ∧ (Y - (A * D + B * C)).abs ≤ eps * (A.abs * D.abs + B.abs * C.abs) + 4 * tn ∧ (A = 0 → B = 0 → Y = 0) ∧ ∀ (R : Type) (k : Nat → Nat → Option R), mulK R a b c d k = k x y := by
  have ep := eps_pos
  have el := eps_le
  have t0 := tn_pos
  have ts := tn_small
  have P := p2_pos 90
  have P92 : 4 * (2 : Rat) ^ (90 : Int) = (2 : Rat) ^ (92 : Int) := by
    have g1 := p2_succ 90
    have g2 := p2_succ 91
    rw [show (90 + 1 : Int) = 91 by decide] at g1
    rw [show (91 + 1 : Int) = 92 by decide] at g2
    rw [g2, g1]; grind
  have P93 := p2_succ 92
  rw [show (92 + 1 : Int) = 93 by decide] at P93
  have P1 := p2_le (show (93 : Int) ≤ 200 by decide)
  have P2 := one_le_p2 90
  have nA := abs_nonneg A
  have nB := abs_nonneg B
  have nC := abs_nonneg C
  have nD := abs_nonneg D
  have bd : ∀ {X Y : Rat}, X.abs ≤ (2 : Rat) ^ (90 : Int) → Y.abs ≤ 2 → X.abs * Y.abs ≤ 2 * (2 : Rat) ^ (90 : Int) := fun {X Y} g1 g2 => by
    have := mul_mono' g1 g2 (abs_nonneg Y) (Rat.le_of_lt P)
    grind
  have q1 := bd h1 h3
  have q2 := bd h1 h4
  have q3 := bd h2 h3
  have q4 := bd h2 h4
  have B200 : 8 * (2 : Rat) ^ (90 : Int) ≤ big200 := by unfold big200; grind
  generalize (2 : Rat) ^ (90 : Int) = Q90 at *
  obtain ⟨x1, X1, f1, i1, e1, z1⟩ := fine_mul ha hc (by grind)
  obtain ⟨x2, X2, f2, i2, e2, z2⟩ := fine_mul hb hd (by grind)
  obtain ⟨x3, X3, f3, i3, e3, z3⟩ := fine_mul ha hd (by grind)
  obtain ⟨x4, X4, f4, i4, e4, z4⟩ := fine_mul hb hc (by grind)
  have m1 := Rat.mul_nonneg nA nC
  have m2 := Rat.mul_nonneg nB nD
  have m3 := Rat.mul_nonneg nA nD
  have m4 := Rat.mul_nonneg nB nC
  have s1 := abs_near e1
  have s2 := abs_near e2
  have s3 := abs_near e3
  have s4 := abs_near e4
  rw [abs_mul] at s1 s2 s3 s4
  generalize hAC : A.abs * C.abs = AC at *
  generalize hBD : B.abs * D.abs = BD at *
  generalize hAD : A.abs * D.abs = AD at *
  generalize hBC : B.abs * C.abs = BC at *
  have eAC := Rat.mul_le_mul_of_nonneg_right el m1
  have eBD := Rat.mul_le_mul_of_nonneg_right el m2
  have eAD := Rat.mul_le_mul_of_nonneg_right el m3
  have eBC := Rat.mul_le_mul_of_nonneg_right el m4
  have epAD := Rat.mul_nonneg (Rat.le_of_lt ep) m3
  have epBC := Rat.mul_nonneg (Rat.le_of_lt ep) m4
  have tl : tn ≤ 1 / 1000 := by
    have := Rat.mul_le_mul_of_nonneg_right el (show (0 : Rat) ≤ 1 / 1000000 by grind)
    grind
  obtain ⟨re, RE, f5, i5⟩ : ∃ re RE, fbF .sub x1 x2 = some re ∧ Is re RE := by
    obtain ⟨re, RE, g1, g2, g3⟩ := sub_is i1 i2 (big200_lt (by
      have := abs_add_le X1 (-X2)
      rw [abs_neg, show X1 + -X2 = X1 - X2 by grind] at this
      grind))
    exact ⟨re, RE, g1, g2⟩
  obtain ⟨y, Y, f6, i6, e6, z6, _⟩ := fine_add i3 i4 (by grind)
  refine ⟨re, y, Y, i6, ?_, fun hA hB => z6 (by rw [z3 (.inl hA), z4 (.inl hB)]; grind), fun R k => ?_⟩
  · have t1 : Y - (A * D + B * C) = (Y - (X3 + X4)) + ((X3 - A * D) + (X4 - B * C)) := by grind
    rw [t1]
    have g1 := abs_add_le (Y - (X3 + X4)) ((X3 - A * D) + (X4 - B * C))
    have g2 := abs_add_le (X3 - A * D) (X4 - B * C)
    have g3 := Rat.mul_le_mul_of_nonneg_left s3 (show 0 ≤ eps / 4 by grind)
    have g4 := Rat.mul_le_mul_of_nonneg_left s4 (show 0 ≤ eps / 4 by grind)
    have g5 := Rat.mul_le_mul_of_nonneg_left eAD (Rat.le_of_lt ep)
    have g6 := Rat.mul_le_mul_of_nonneg_left eBC (Rat.le_of_lt ep)
    have g7 := Rat.mul_le_mul_of_nonneg_right el (Rat.le_of_lt t0)
    have a3 : eps / 4 * (AD + (eps / 4 * AD + tn)) = eps * AD / 4 + eps * (eps * AD) / 16 + eps * tn / 4 := by grind
    have a4 : eps / 4 * (BC + (eps / 4 * BC + tn)) = eps * BC / 4 + eps * (eps * BC) / 16 + eps * tn / 4 := by grind
    grind
  · unfold mulK
    rw [bindF_eq f1, bindF_eq f2, bindF_eq f5, bindF_eq f3, bindF_eq f4, bindF_eq f6]
end Go.Vm
namespace Go.Vm
set_option linter.unusedVariables false
set_option linter.unusedSimpArgs false

/-! ### Loops by a handler of their own -/
abbrev Hand := ∀ R : Type, Nat → Nat → Code → Env → AH → (Ex → Env → AH → Option R) → Option R
def evTop {R : Type} (C : Cx) (n : Nat) (L : Hand) (lo sz : Nat) : Code → Env → AH → (Ex → Env → AH → Option R) → Option R
  | .skip, e, H, k => k .normal e H
  | .region _ ops draw, e, H, k =>
    bif draw then bif drawOk ops then evDraw C (calAt C n) lo sz ops (masks ops) H.next 0 [] [] ops.toList e H (fun e' H' => k .normal e' H') else none
    else evOps C (calAt C n) lo sz ops ops.toList e H fun e' H' => k .normal e' H'
  | .seq a b, e, H, k => evTop C n L lo sz a e H fun ex e' H' =>
      match ex with
      | .normal => evTop C n L lo sz b e' H' k
      | ex => k ex e' H'
  | .cond x a b, e, H, k => (opd e x).bind fun v =>
      match v with
      | .bool t => bif t then evTop C n L lo sz a e H k else evTop C n L lo sz b e H k
      | _ => none
  | .block id a, e, H, k => evTop C n L lo sz a e H fun ex e' H' =>
      match ex with
      | .exit j => bif Nat.beq j id then k .normal e' H' else k (.exit j) e' H'
      | ex => k ex e' H'
  | .loop a, e, H, k => L R lo sz a e H k
  | .exit id, e, H, k => k (.exit id) e H
  | .ret, e, H, k => k .ret e H
  | _, _, _, _ => none

/-- the loops of a code that stand in no loop -/
def loopsIn : Code → List Code
  | .seq a b => loopsIn a ++ loopsIn b
  | .cond _ a b => loopsIn a ++ loopsIn b
  | .block _ a => loopsIn a
  | .loop a => [a]
  | _ => []

def LOk (P : Program) (L : Hand) (a : Code) : Prop :=
  ∀ (R : Type) (lo sz : Nat) (e : Env) (H : AH) (k : Ex → Env → AH → Option R) (r : R), L R lo sz a e H k = some r →
    ∃ ex e' H', k ex e' H' = some r ∧ CodeOk P lo sz e H ex e' H' (fun Q act w => Code.wp P (.loop a) Q act w)

/-- what is told of regions, once more, for any way to evaluate calls -/
theorem region_sound {R : Type} {C : Cx} (hC : C.Ok) (hmix : C.P.follows .mixedOrders = true) {n : Nat} {lo sz : Nat} {id : Nat} {ops : Array Oper} {draw : Bool} {e : Env} {H : AH} {k : Ex → Env → AH → Option R} {r : R}
    (h : evCode C (n + 1) lo sz (.region id ops draw) e H k = some r) : ∃ ex e' H', k ex e' H' = some r ∧ CodeOk C.P lo sz e H ex e' H' (fun Q a w => (Code.region id ops draw).wp C.P Q a w) :=
  (evCode_sound hC hmix (n + 1)).1 _ _ _ _ _ _ _ h

theorem evTop_sound {R : Type} {C : Cx} (hC : C.Ok) (hmix : C.P.follows .mixedOrders = true) {n : Nat} {L : Hand} {lo sz : Nat} : ∀ (c : Code) (_ : ∀ a ∈ loopsIn c, LOk C.P L a) (e : Env) (H : AH) (k : Ex → Env → AH → Option R) (r : R), evTop C n L lo sz c e H k = some r →
    ∃ ex e' H', k ex e' H' = some r ∧ CodeOk C.P lo sz e H ex e' H' (fun Q a w => c.wp C.P Q a w) := by
  intro c
  induction c with
  | skip => exact fun _ e H k r h => ⟨.normal, e, H, h, fun {ρ w a} hi hlo he hs Q hQ => wp_skip (hQ ρ a w (Next.refl hi) he hs rfl)⟩
  | region id ops draw => exact fun _ e H k r h => region_sound hC hmix (n := n) (id := id) (by simp only [evCode]; exact h)
  | seq x y ihx ihy =>
    intro hL e H k r h
    simp only [evTop] at h
    obtain ⟨ex, e1, H1, h1, h2⟩ := ihx (fun a ha => hL a (by simp [loopsIn, ha])) _ _ _ _ h
    cases ex with
    | normal =>
      simp only at h1
      obtain ⟨ex', e', H', g1, g2⟩ := ihy (fun a ha => hL a (by simp [loopsIn, ha])) _ _ _ _ h1
      refine ⟨ex', e', H', g1, fun {ρ w a} hi hlo he hs Q hQ => wp_seq ?_⟩
      refine h2 hi hlo he hs _ fun ρ1 a1 w1 m1 m2 m3 m4 => ?_
      exact g2 m1.inv (Nat.le_trans hlo m1.nx) m2 m3 Q fun ρ' a' w' q1 q2 q3 q4 => hQ ρ' a' w' (m1.trans q1) q2 q3 (q4.trans m4)
    | exit id => exact ⟨.exit id, e1, H1, h1, fun {ρ w a} hi hlo he hs Q hQ => wp_seq (h2 hi hlo he hs _ fun ρ1 a1 w1 m1 m2 m3 m4 => hQ ρ1 a1 w1 m1 m2 m3 m4)⟩
    | ret => exact ⟨.ret, e1, H1, h1, fun {ρ w a} hi hlo he hs Q hQ => wp_seq (h2 hi hlo he hs _ fun ρ1 a1 w1 m1 m2 m3 m4 => hQ ρ1 a1 w1 m1 m2 m3 m4)⟩
  | cond x y z ihy ihz =>
    intro hL e H k r h
    simp only [evTop] at h
    obtain ⟨v, h1, h⟩ := bind_some' h
    split at h
    · rename_i t
      have hc : ∀ {ρ : Map} {a : Act}, EnvRel ρ e a.tmps → a.eval x = .bool t := fun {ρ a} he => by
        have := opd_rel he h1
        generalize a.eval x = v' at *
        cases this
        rfl
      cases t with
      | true =>
        obtain ⟨ex, e', H', g1, g2⟩ := ihy (fun a ha => hL a (by simp [loopsIn, ha])) _ _ _ _ (by simpa using h)
        exact ⟨ex, e', H', g1, fun {ρ w a} hi hlo he hs Q hQ => wp_cond_true (hc he) (g2 hi hlo he hs Q hQ)⟩
      | false =>
        obtain ⟨ex, e', H', g1, g2⟩ := ihz (fun a ha => hL a (by simp [loopsIn, ha])) _ _ _ _ (by simpa using h)
        exact ⟨ex, e', H', g1, fun {ρ w a} hi hlo he hs Q hQ => wp_cond_false (hc he) (g2 hi hlo he hs Q hQ)⟩
    · cases h
  | block id x ihx =>
    intro hL e H k r h
    simp only [evTop] at h
    obtain ⟨ex, e1, H1, h1, h2⟩ := ihx (fun a ha => hL a (by simp [loopsIn, ha])) _ _ _ _ h
    cases ex with
    | normal => exact ⟨.normal, e1, H1, h1, fun {ρ w a} hi hlo he hs Q hQ => wp_block (h2 hi hlo he hs _ fun ρ1 a1 w1 m1 m2 m3 m4 => hQ ρ1 a1 w1 m1 m2 m3 m4)⟩
    | ret => exact ⟨.ret, e1, H1, h1, fun {ρ w a} hi hlo he hs Q hQ => wp_block (h2 hi hlo he hs _ fun ρ1 a1 w1 m1 m2 m3 m4 => hQ ρ1 a1 w1 m1 m2 m3 m4)⟩
    | exit j =>
      simp only at h1
      cases hj : Nat.beq j id with
      | true =>
        rw [hj] at h1
        have := Nat.eq_of_beq_eq_true hj
        subst this
        refine ⟨.normal, e1, H1, h1, fun {ρ w a} hi hlo he hs Q hQ => wp_block (h2 hi hlo he hs _ fun ρ1 a1 w1 m1 m2 m3 m4 => ?_)⟩
        simp only [Ex.to, Exit.inBlock, if_true]
        exact hQ ρ1 a1 w1 m1 m2 m3 m4
      | false =>
        rw [hj] at h1
        have hne : j ≠ id := fun e => by subst e; simp at hj
        refine ⟨.exit j, e1, H1, h1, fun {ρ w a} hi hlo he hs Q hQ => wp_block (h2 hi hlo he hs _ fun ρ1 a1 w1 m1 m2 m3 m4 => ?_)⟩
        simp only [Ex.to, Exit.inBlock, if_neg hne]
        exact hQ ρ1 a1 w1 m1 m2 m3 m4
  | loop x _ => exact fun hL e H k r h => hL x (by simp [loopsIn]) _ _ _ _ _ _ _ h
  | exit id => exact fun _ e H k r h => ⟨.exit id, e, H, h, fun {ρ w a} hi hlo he hs Q hQ => wp_exit (hQ ρ a w (Next.refl hi) he hs rfl)⟩
  | ret => exact fun _ e H k r h => ⟨.ret, e, H, h, fun {ρ w a} hi hlo he hs Q hQ => wp_ret (hQ ρ a w (Next.refl hi) he hs rfl)⟩
  | _ => exact fun _ e H k r h => by simp [evTop] at h

/-! ### A loop, round by round -/
/-- less may be told ahead, and less behind -/
theorem CodeOk.env {P : Program} {lo sz : Nat} {e e1 e2 e' : Env} {H H' : AH} {ex : Ex} {W : (Exit → Act → World → Prop) → Act → World → Prop} (h : CodeOk P lo sz e1 H ex e2 H' W)
    (h1 : ∀ t v, getE t e1 = some v → getE t e = some v) (h2 : ∀ t v, getE t e' = some v → getE t e2 = some v) : CodeOk P lo sz e H ex e' H' W :=
  fun {ρ w act} hi hlo he hs Q hQ => h hi hlo (fun t v hv => he t v (h1 t v hv)) hs Q fun ρ' a' w' q1 q2 q3 q4 => hQ ρ' a' w' q1 (fun t v hv => q2 t v (h2 t v hv)) q3 q4
end Go.Vm
namespace Go.Vm
set_option linter.unusedVariables false
set_option linter.unusedSimpArgs false

/-! ### Rounds that are counted -/
def noL : Hand := fun _ _ _ _ _ _ _ => none
def seqA : Code → Code | .seq a _ => a | c => c
def seqB : Code → Code | .seq _ b => b | c => c
def thenE {R : Type} (g : Env → AH → Option R) (K : Ex → Env → AH → Option R) : Ex → Env → AH → Option R := fun ex e H => match ex with
  | .normal => g e H
  | ex => K ex e H
def leaveE {R : Type} (id : Nat) (K : Ex → Env → AH → Option R) : Ex → Env → AH → Option R := fun ex e H => match ex with
  | .exit j => bif Nat.beq j id then K .normal e H else K (.exit j) e H
  | ex => K ex e H
theorem leave_then {R : Type} (id : Nat) (g : Env → AH → Option R) (K : Ex → Env → AH → Option R) (e : Env) (H : AH) : leaveE id (thenE g K) (.exit id) e H = g e H := by
  have h : Nat.beq id id = true := Nat.beq_refl id
  show (bif Nat.beq id id then g e H else K (.exit id) e H) = g e H
  rw [h]; rfl
/-- what a body leaves, and that all stands as it was -/
theorem calls_below {P : Program} {f : FuncId} {fn : Func} {c : Code} {args : List Value} {H H' : AH} {e' : Env} {ex : Ex} {vs : List Value} (hf : P.funcs[f]? = some fn) (hb : fn.body = some c) (hl : args.length ≤ fn.ntmps)
    (h : CodeOk P H.next fn.ntmps (enumE 0 args) H ex e' H' (fun Q a w => c.wp P Q a w)) (hex : ex = .normal ∨ ex = .ret) (hr : resE P e' H' fn.results.toList = some vs) (hfl : flat (oneOf vs) = true) :
    ∀ ρ w args', Inv ρ H w → VRels ρ args args' → Calls P f ⟨args'⟩ w fun e w' => e = .returned (oneOf vs) ∧ RowKit.Below w.heap.size w w' := by
  intro ρ w args' hi ha
  have hlen := ha.length
  refine calls_of_wp hf hb ?_
  refine h hi (Nat.le_refl _) (enum_rel ha _) (by simp; omega) _ fun ρ' a' w' n1 n2 n3 n4 => ?_
  obtain ⟨v', r1, r2⟩ := results_run hr n1.inv n2
  have := r2.flat_eq hfl
  subst this
  have post : a'.defers = [] ∧ ∃ v, (results fn a'.tmps).run P w' = .ok v w' ∧ Ending.returned v = .returned (oneOf vs) ∧ RowKit.Below w.heap.size w w' :=
    ⟨n4, _, r1, rfl, n1.os, n1.tape, n1.output, n1.size, fun b hb => n1.keep b hb fun k o s hk hm => absurd (hi.wf k o hm) (by omega)⟩
  rcases hex with rfl | rfl
  · exact post
  · exact post
end Go.Vm
