/- Two runs side by side: sums, products and quotients of near words are near; no conditions. -/
import Derived.Test.YtnbpfafngidimaaGreatVmP62
namespace Go.Vm
open Ieee
set_option linter.unusedVariables false
set_option linter.unusedSimpArgs false

/-! ### Two runs side by side: how far apart they come -/
def Pr (B k : Rat) (w w' : Nat) : Prop := ∃ x x', Is w x ∧ Is w' x' ∧ x.abs ≤ B ∧ x'.abs ≤ B ∧ (x - x').abs ≤ k * eps
theorem Pr.mono {B C k m : Rat} {w w' : Nat} (h : Pr B k w w') (hB : B ≤ C) (hk : k ≤ m) : Pr C m w w' := by
  obtain ⟨x, x', h1, h2, h3, h4, h5⟩ := h
  exact ⟨x, x', h1, h2, Rat.le_trans h3 hB, Rat.le_trans h4 hB, Rat.le_trans h5 (Rat.mul_le_mul_of_nonneg_right hk (Rat.le_of_lt eps_pos))⟩
theorem Pr.symm {B k : Rat} {w w' : Nat} (h : Pr B k w w') : Pr B k w' w := by
  obtain ⟨x, x', h1, h2, h3, h4, h5⟩ := h
  exact ⟨x', x, h2, h1, h4, h3, by rw [abs_sub_comm]; exact h5⟩
theorem Pr.trans {B k m : Rat} {w w' w'' : Nat} (h : Pr B k w w') (g : Pr B m w' w'') : Pr B (k + m) w w'' := by
  obtain ⟨x, x', h1, h2, h3, h4, h5⟩ := h
  obtain ⟨y, y', g1, g2, g3, g4, g5⟩ := g
  have := is_fun h2 g1
  subst this
  refine ⟨x, y', h1, g2, h3, g4, ?_⟩
  have := tri (x := x) (y := x') (z := y')
  grind
theorem pr_same {B : Rat} {w : Nat} {x : Rat} (h : Is w x) (hx : x.abs ≤ B) : Pr B 0 w w :=
  ⟨x, x, h, h, hx, hx, by rw [show x - x = 0 by grind, abs_zero]; grind⟩
theorem low_small {B : Rat} (h : 1 / 1000000 ≤ B) : (2 : Rat) ^ (-1000 : Int) ≤ B := by
  have h1 := p2_le (show (-1000 : Int) ≤ -20 by decide)
  rw [p20m] at h1
  grind
theorem near_abs {z x B : Rat} (h : (z - x).abs ≤ eps * B) (hx : x.abs ≤ B) (hB : 0 ≤ B) : z.abs ≤ B * (1001 / 1000) := by
  have h2 := abs_add_le (z - x) x
  rw [show z - x + x = z by grind] at h2
  have := Rat.mul_le_mul_of_nonneg_right eps_le hB
  grind
theorem diff3 {z z' x x' e d : Rat} (h1 : (z - x).abs ≤ e) (h2 : (z' - x').abs ≤ e) (h3 : (x - x').abs ≤ d) : (z - z').abs ≤ 2 * e + d := by
  have t1 := tri (x := z) (y := x) (z := z')
  have t2 := tri (x := x) (y := x') (z := z')
  rw [abs_sub_comm] at h2
  grind
theorem pr_add {A B C k m n : Rat} {a a' b b' : Nat} (ha : Pr A k a a') (hb : Pr B m b b') (hl : 1 / 1000000 ≤ A + B) (h : (A + B) * (1001 / 1000) ≤ C) (hC : C ≤ 1000) (hk : k + m + 2 * (A + B) ≤ n) :
    ∃ c c', fbF .add a b = some c ∧ fbF .add a' b' = some c' ∧ Pr C n c c' := by
  obtain ⟨x, x', h1, h2, h3, h4, h5⟩ := ha
  obtain ⟨y, y', g1, g2, g3, g4, g5⟩ := hb
  have s1 := abs_add_le x y
  have s2 := abs_add_le x' y'
  obtain ⟨c, z, e1, i1, r1⟩ := add_is h1 g1 (lt_p2_1023 (by grind))
  obtain ⟨c', z', e2, i2, r2⟩ := add_is h2 g2 (lt_p2_1023 (by grind))
  have l1 := r1.le (B := A + B) (by grind) (low_small hl)
  have l2 := r2.le (B := A + B) (by grind) (low_small hl)
  refine ⟨c, c', e1, e2, z, z', i1, i2, Rat.le_trans (near_abs l1 (by grind) (by grind)) h, Rat.le_trans (near_abs l2 (by grind) (by grind)) h, ?_⟩
  have d1 : (x + y - (x' + y')).abs ≤ (k + m) * eps := by
    have := abs_add_le (x - x') (y - y')
    rw [show x - x' + (y - y') = x + y - (x' + y') by grind] at this
    grind
  have d2 := diff3 l1 l2 d1
  have d3 := Rat.mul_le_mul_of_nonneg_right hk (Rat.le_of_lt eps_pos)
  grind
theorem pr_sub {A B C k m n : Rat} {a a' b b' : Nat} (ha : Pr A k a a') (hb : Pr B m b b') (hl : 1 / 1000000 ≤ A + B) (h : (A + B) * (1001 / 1000) ≤ C) (hC : C ≤ 1000) (hk : k + m + 2 * (A + B) ≤ n) :
    ∃ c c', fbF .sub a b = some c ∧ fbF .sub a' b' = some c' ∧ Pr C n c c' := by
  obtain ⟨x, x', h1, h2, h3, h4, h5⟩ := ha
  obtain ⟨y, y', g1, g2, g3, g4, g5⟩ := hb
  have s1 := abs_add_le x (-y)
  have s2 := abs_add_le x' (-y')
  rw [abs_neg, show x + -y = x - y by grind] at s1
  rw [abs_neg, show x' + -y' = x' - y' by grind] at s2
  obtain ⟨c, z, e1, i1, r1⟩ := sub_is h1 g1 (lt_p2_1023 (by grind))
  obtain ⟨c', z', e2, i2, r2⟩ := sub_is h2 g2 (lt_p2_1023 (by grind))
  have l1 := r1.le (B := A + B) (by grind) (low_small hl)
  have l2 := r2.le (B := A + B) (by grind) (low_small hl)
  refine ⟨c, c', e1, e2, z, z', i1, i2, Rat.le_trans (near_abs l1 (by grind) (by grind)) h, Rat.le_trans (near_abs l2 (by grind) (by grind)) h, ?_⟩
  have d1 : (x - y - (x' - y')).abs ≤ (k + m) * eps := by
    have := abs_add_le (x - x') (y' - y)
    rw [show x - x' + (y' - y) = x - y - (x' - y') by grind, abs_sub_comm y' y] at this
    grind
  have d2 := diff3 l1 l2 d1
  have d3 := Rat.mul_le_mul_of_nonneg_right hk (Rat.le_of_lt eps_pos)
  grind
theorem prod_diff {x x' y y' A B k m : Rat} (h3 : x.abs ≤ A) (g4 : y'.abs ≤ B) (h5 : (x - x').abs ≤ k) (g5 : (y - y').abs ≤ m) (hm : 0 ≤ m) (hB : 0 ≤ B) (hA : 0 ≤ A) (hk : 0 ≤ k) : (x * y - x' * y').abs ≤ A * m + B * k := by
  have h := abs_add_le (x * (y - y')) ((x - x') * y')
  rw [show x * (y - y') + (x - x') * y' = x * y - x' * y' by grind, abs_mul, abs_mul] at h
  have t1 := mul_mono' h3 g5 (abs_nonneg _) hA
  have t2 := mul_mono' h5 g4 (abs_nonneg _) hk
  grind
theorem pr_nonneg {B k : Rat} {w w' : Nat} (h : Pr B k w w') : 0 ≤ B ∧ 0 ≤ k * eps := by
  obtain ⟨x, x', h1, h2, h3, h4, h5⟩ := h
  have := abs_nonneg x
  have := abs_nonneg (x - x')
  exact ⟨by grind, by grind⟩
theorem pr_mul {A B C k m n : Rat} {a a' b b' : Nat} (ha : Pr A k a a') (hb : Pr B m b b') (hl : 1 / 1000000 ≤ A * B) (h : A * B * (1001 / 1000) ≤ C) (hC : C ≤ 1000) (hk : A * m + B * k + 2 * (A * B) ≤ n) :
    ∃ c c', fbF .mul a b = some c ∧ fbF .mul a' b' = some c' ∧ Pr C n c c' := by
  obtain ⟨A0, k0⟩ := pr_nonneg ha
  obtain ⟨B0, m0⟩ := pr_nonneg hb
  obtain ⟨x, x', h1, h2, h3, h4, h5⟩ := ha
  obtain ⟨y, y', g1, g2, g3, g4, g5⟩ := hb
  have s1 := abs_mul_le h3 g3
  have s2 := abs_mul_le h4 g4
  obtain ⟨c, z, e1, i1, r1⟩ := mul_is h1 g1 (lt_p2_1023 (by grind))
  obtain ⟨c', z', e2, i2, r2⟩ := mul_is h2 g2 (lt_p2_1023 (by grind))
  have l1 := r1.le s1 (low_small hl)
  have l2 := r2.le s2 (low_small hl)
  refine ⟨c, c', e1, e2, z, z', i1, i2, Rat.le_trans (near_abs l1 s1 (by grind)) h, Rat.le_trans (near_abs l2 s2 (by grind)) h, ?_⟩
  have d1 := prod_diff (y := y) (x' := x') h3 g4 h5 g5 m0 B0 A0 k0
  have d2 := diff3 l1 l2 d1
  have d3 := Rat.mul_le_mul_of_nonneg_right hk (Rat.le_of_lt eps_pos)
  have e3 : (A * m + B * k + 2 * (A * B)) * eps = 2 * (eps * (A * B)) + (A * (m * eps) + B * (k * eps)) := by grind
  rw [e3] at d3
  exact Rat.le_trans d2 d3
end Go.Vm
namespace Go.Vm
open Ieee
set_option linter.unusedVariables false
set_option linter.unusedSimpArgs false

theorem div_bound {q y x A D Q : Rat} (e : q * y = x) (hx : x.abs ≤ A) (hy : D ≤ y.abs) (hD : 0 < D) (hQ : A ≤ Q * D) (hQ0 : 0 ≤ Q) : q.abs ≤ Q := by
  have h1 : q.abs * y.abs ≤ Q * y.abs := by
    rw [← abs_mul, e]
    have := Rat.mul_le_mul_of_nonneg_left hy hQ0
    grind
  exact Rat.le_of_mul_le_mul_right h1 (by grind)
theorem pr_quo {A D Q C k m n : Rat} {a a' b b' : Nat} {B : Rat} (ha : Pr A k a a') (hb : Pr B m b b') (hy : ∀ y, Is b y → D ≤ y.abs) (hy' : ∀ y, Is b' y → D ≤ y.abs) (hD : 0 < D) (hQ : A ≤ Q * D) (hl : 1 / 1000000 ≤ Q)
    (h : Q * (1001 / 1000) ≤ C) (hC : C ≤ 500) (hk : k + Q * m ≤ (n - 2 * Q) * D) :
    ∃ c c', fbF .quo a b = some c ∧ fbF .quo a' b' = some c' ∧ Pr C n c c' := by
  obtain ⟨B0, m0⟩ := pr_nonneg hb
  obtain ⟨x, x', h1, h2, h3, h4, h5⟩ := ha
  obtain ⟨y, y', g1, g2, g3, g4, g5⟩ := hb
  have y1 := hy y g1
  have y2 := hy' y' g2
  have yn : y ≠ 0 := fun e => by rw [e, abs_zero] at y1; grind
  have yn' : y' ≠ 0 := fun e => by rw [e, abs_zero] at y2; grind
  have q1 : x / y * y = x := by rw [Rat.div_def, Rat.mul_assoc, Rat.inv_mul_cancel _ yn, Rat.mul_one]
  have q2 : x' / y' * y' = x' := by rw [Rat.div_def, Rat.mul_assoc, Rat.inv_mul_cancel _ yn', Rat.mul_one]
  have b1 := div_bound q1 h3 y1 hD hQ (by grind)
  have b2 := div_bound q2 h4 y2 hD hQ (by grind)
  have lt : ∀ {v : Rat}, v.abs ≤ Q → v.abs < (2 : Rat) ^ (1022 : Int) := fun {v} hv => by
    have h6 := p2_le (show (10 : Int) ≤ 1022 by decide)
    have h8 : (2 : Rat) ^ (10 : Int) = 1024 := by rw [show (10 : Int) = ((10 : Nat) : Int) by rfl, p2_nat]; rfl
    grind
  obtain ⟨c, z, e1, i1, r1⟩ := div_is h1 g1 yn (lt b1)
  obtain ⟨c', z', e2, i2, r2⟩ := div_is h2 g2 yn' (lt b2)
  have l1 := r1.le b1 (low_small hl)
  have l2 := r2.le b2 (low_small hl)
  refine ⟨c, c', e1, e2, z, z', i1, i2, Rat.le_trans (near_abs l1 b1 (by grind)) h, Rat.le_trans (near_abs l2 b2 (by grind)) h, ?_⟩
  have d0 : (x / y - x' / y') * y = (x - x') + x' / y' * (y' - y) := by grind
  have d1 : (x / y - x' / y').abs ≤ (n - 2 * Q) * eps := by
    have t1 : (x / y - x' / y').abs * y.abs ≤ (k + Q * m) * eps := by
      rw [← abs_mul, d0]
      have s1 := abs_add_le (x - x') (x' / y' * (y' - y))
      rw [abs_mul] at s1
      rw [abs_sub_comm] at g5
      have s2 := mul_mono' b2 g5 (abs_nonneg _) (by grind)
      grind
    have t2 := Rat.mul_le_mul_of_nonneg_left y1 (abs_nonneg (x / y - x' / y'))
    have t3 := Rat.mul_le_mul_of_nonneg_right hk (Rat.le_of_lt eps_pos)
    have t4 : (x / y - x' / y').abs * D ≤ ((n - 2 * Q) * eps) * D := by grind
    exact Rat.le_of_mul_le_mul_right t4 hD
  have d2 := diff3 l1 l2 d1
  grind
theorem add_low {a b c : Nat} {x y L : Rat} (ha : Is a x) (hb : Is b y) (hc : fbF .add a b = some c) (h : L ≤ x + y) (hL : 1 / 1000 ≤ L) (hu : x + y ≤ 1000) : ∀ z, Is c z → L * (999 / 1000) ≤ z.abs := by
  intro z hz
  obtain ⟨c', z', e, i, r⟩ := add_is ha hb (lt_p2_1023 (abs_le_iff.2 ⟨by grind, by grind⟩))
  rw [hc] at e
  cases e
  have := is_fun hz i
  subst this
  have l := r.coarse
  have t := p2_small (show (-1075 : Int) ≤ -53 by decide)
  have tt := p2_le (show (-1075 : Int) ≤ -60 by decide)
  have e60 : (2 : Rat) ^ (-60 : Int) ≤ 1 / 1000000000000 := by
    have h := p2_neg 60
    have e : ((2 ^ 60 : Nat) : Rat) = 1152921504606846976 := rfl
    rw [e] at h
    rw [show (-60 : Int) = -((60 : Nat) : Int) by rfl]
    grind
  have hn := r.le (B := x + y) (abs_le_iff.2 ⟨by grind, by grind⟩) (low_small (by grind))
  have he := Rat.mul_le_mul_of_nonneg_right (show eps ≤ 1 / 1000 from eps_le) (show (0 : Rat) ≤ x + y by grind)
  have hb' := abs_le_iff.1 hn
  have : (0 : Rat) ≤ z := by grind
  rw [Rat.abs_of_nonneg this]
  grind

/-! ### The series of the arctangent -/
theorem series_pr {z z' : Nat} {kz : Rat} (hz : Pr (9 / 50) kz z z') (hk : 0 ≤ kz) : ∀ (l : List Nat) (s s' : Nat), (∀ r ∈ l, Pr 1 0 r r) → Pr (123 / 100) (3 / 2 * kz + 8) s s' →
    ∃ t t', Pr (123 / 100) (3 / 2 * kz + 8) t t' ∧ (∀ (R : Type) (k : Nat → Option R), series z l s k = k t) ∧ ∀ (R : Type) (k : Nat → Option R), series z' l s' k = k t'
  | [], s, s', _, hs => ⟨s, s', hs, fun _ _ => rfl, fun _ _ => rfl⟩
  | r :: l, s, s', hl, hs => by
    obtain ⟨p, p', e1, e2, h1⟩ := pr_mul (n := 3 / 2 * kz + 3) hz hs (C := 222 / 1000) (by grind) (by grind) (by grind) (by grind)
    obtain ⟨q, q', g1, g2, h2⟩ := pr_sub (n := 3 / 2 * kz + 8) (hl r (by simp)) h1 (C := 123 / 100) (by grind) (by grind) (by grind) (by grind)
    obtain ⟨t, t', h3, h4, h5⟩ := series_pr hz hk l q q' (fun r hr => hl r (by simp [hr])) h2
    refine ⟨t, t', h3, fun R k => ?_, fun R k => ?_⟩
    · unfold series; rw [bindF_eq e1, bindF_eq g1]; exact h4 R k
    · unfold series; rw [bindF_eq e2, bindF_eq g2]; exact h5 R k
theorem one_pr : Pr 1 0 4607182418800017408 4607182418800017408 := pr_same l1 (by rw [show ((1 : Int) : Rat) = 1 from rfl, Rat.abs_of_nonneg (by grind)]; exact Rat.le_refl)
theorem lit_pr {e : Int} {B : Rat} {w : Nat} (h : magB e w = true) (hb : (2 : Rat) ^ e ≤ B) : Pr B 0 w w := by
  obtain ⟨x, h1, h2⟩ := mag_lit h
  exact pr_same h1 (Rat.le_trans h2 hb)
theorem core_pr : ∀ r ∈ coreList, Pr 1 0 r r := fun r hr => by
  have h : coreList.all (fun r => magB 0 r || Nat.beq r 4607182418800017408) = true := by kernel_rfl
  have h1 := List.all_eq_true.1 h r hr
  simp only [Bool.or_eq_true] at h1
  rcases h1 with h1 | h1
  · exact lit_pr h1 (by rw [Rat.zpow_zero]; exact Rat.le_refl)
  · rw [Nat.eq_of_beq_eq_true h1]; exact one_pr

/-! ### The angle whose tangent is told: near, and far -/
def coreN {R : Type} (t : Nat) (k : Nat → Option R) : Option R := bindF (fbF .mul t t) fun z => series z coreList 0 fun s => bindF (fbF .mul t s) k
def coreF {R : Type} (t : Nat) (k : Nat → Option R) : Option R := bindF (fbF .sub t 4607182418800017408) fun d => bindF (fbF .add t 4607182418800017408) fun e => bindF (fbF .quo d e) fun u =>
  coreN u fun v => bindF (fbF .add v 4359948597267291143) fun x => bindF (fbF .add 4605249457297304856 x) k
theorem coreK_def {R : Type} (t : Nat) (k : Nat → Option R) : coreK R t k = forceB (gtF t 4601130706800738304) fun far => match far with | true => coreF t k | false => coreN t k := rfl
theorem coreN_pr {t t' : Nat} {k : Rat} (h : Pr (21 / 50) k t t') (hk : 0 ≤ k) : ∃ c c', Pr (6 / 10) (9 / 5 * k + 5) c c' ∧ (∀ (R : Type) (f : Nat → Option R), coreN t f = f c) ∧ ∀ (R : Type) (f : Nat → Option R), coreN t' f = f c' := by
  obtain ⟨z, z', e1, e2, h1⟩ := pr_mul (n := (84 / 100) * k + 4 / 10) h h (C := 9 / 50) (by grind) (by grind) (by grind) (by grind)
  obtain ⟨s, s', h2, e3, e4⟩ := series_pr h1 (by grind) coreList 0 0 core_pr ((pr_same (B := 123 / 100) is_zero (by rw [show ((0 : Int) : Rat) = 0 from rfl, abs_zero]; grind)).mono Rat.le_refl (by grind))
  obtain ⟨c, c', e5, e6, h3⟩ := pr_mul (n := 9 / 5 * k + 5) h h2 (C := 6 / 10) (by grind) (by grind) (by grind) (by grind)
  refine ⟨c, c', h3, fun R f => ?_, fun R f => ?_⟩
  · unfold coreN; rw [bindF_eq e1, e3, bindF_eq e5]
  · unfold coreN; rw [bindF_eq e2, e4, bindF_eq e6]
end Go.Vm
namespace Go.Vm
open Ieee
set_option linter.unusedVariables false
set_option linter.unusedSimpArgs false

theorem pr_subv {A B C E k m n : Rat} {a a' b b' : Nat} (ha : Pr A k a a') (hb : Pr B m b b') (hE : ∀ x y, Is a x → Is b y → (x - y).abs ≤ E) (hE' : ∀ x y, Is a' x → Is b' y → (x - y).abs ≤ E)
    (hl : 1 / 1000000 ≤ E) (h : E * (1001 / 1000) ≤ C) (hC : C ≤ 1000) (hk : k + m + 2 * E ≤ n) : ∃ c c', fbF .sub a b = some c ∧ fbF .sub a' b' = some c' ∧ Pr C n c c' := by
  obtain ⟨x, x', h1, h2, h3, h4, h5⟩ := ha
  obtain ⟨y, y', g1, g2, g3, g4, g5⟩ := hb
  have s1 := hE x y h1 g1
  have s2 := hE' x' y' h2 g2
  obtain ⟨c, z, e1, i1, r1⟩ := sub_is h1 g1 (lt_p2_1023 (by grind))
  obtain ⟨c', z', e2, i2, r2⟩ := sub_is h2 g2 (lt_p2_1023 (by grind))
  have l1 := r1.le s1 (low_small hl)
  have l2 := r2.le s2 (low_small hl)
  refine ⟨c, c', e1, e2, z, z', i1, i2, Rat.le_trans (near_abs l1 s1 (by grind)) h, Rat.le_trans (near_abs l2 s2 (by grind)) h, ?_⟩
  have d1 : (x - y - (x' - y')).abs ≤ (k + m) * eps := by
    have := abs_add_le (x - x') (y' - y)
    rw [show x - x' + (y' - y) = x - y - (x' - y') by grind, abs_sub_comm y' y] at this
    grind
  have d2 := diff3 l1 l2 d1
  have d3 := Rat.mul_le_mul_of_nonneg_right hk (Rat.le_of_lt eps_pos)
  grind
/-- values lie between two bounds -/
def Vb (lo hi : Rat) (w : Nat) : Prop := ∃ x, Is w x ∧ lo ≤ x ∧ x ≤ hi
theorem Vb.val {lo hi : Rat} {w : Nat} (h : Vb lo hi w) {x : Rat} (g : Is w x) : lo ≤ x ∧ x ≤ hi := by
  obtain ⟨y, h1, h2, h3⟩ := h
  have := is_fun g h1
  subst this
  exact ⟨h2, h3⟩
theorem one_is : Is 4607182418800017408 (1 : Rat) := l1
theorem is_num {w m n : Nat} (hw : w < 2 ^ 64) (h : double.read w = .number false m (-(n : Int))) : Is w ((m : Rat) * (1 / ((2 ^ n : Nat) : Rat))) := by
  refine ⟨hw, false, m, -(n : Int), h, ?_⟩
  have e := p2_neg n
  unfold dv sg
  rw [if_neg (by decide), Rat.one_mul]
  have : ((2 ^ n : Nat) : Rat) ≠ 0 := fun z => by rw [z] at e; grind
  grind
theorem is_q : Is 4605249457297304856 (7074237752028440 / 9007199254740992 : Rat) := by
  have := is_num (w := 4605249457297304856) (m := 7074237752028440) (n := 53) (by decide) (by decide)
  have e : ((2 ^ 53 : Nat) : Rat) = 9007199254740992 := rfl
  have e2 : ((7074237752028440 : Nat) : Rat) = 7074237752028440 := rfl
  rw [e, e2] at this
  rw [show (7074237752028440 / 9007199254740992 : Rat) = 7074237752028440 * (1 / 9007199254740992) by grind]
  exact this
theorem q_pr : Pr (8 / 10) 0 4605249457297304856 4605249457297304856 := pr_same is_q (abs_le_iff.2 ⟨by grind, by grind⟩)
theorem coreF_pr {t t' : Nat} {k : Rat} (h : Pr (102 / 100) k t t') (b : Vb (41 / 100) (102 / 100) t) (b' : Vb (41 / 100) (102 / 100) t') (hk : 0 ≤ k) :
    ∃ c c', Pr (3 / 2) (37 / 20 * k + 20) c c' ∧ (∀ (R : Type) (f : Nat → Option R), coreF t f = f c) ∧ ∀ (R : Type) (f : Nat → Option R), coreF t' f = f c' := by
  have sb : ∀ {w : Nat}, Vb (41 / 100) (102 / 100) w → ∀ x y, Is w x → Is 4607182418800017408 y → (x - y).abs ≤ 59 / 100 := fun hb x y hx hy => by
    have := hb.val hx
    have e := is_fun hy one_is
    subst e
    exact abs_le_iff.2 ⟨by grind, by grind⟩
  obtain ⟨d, d', e1, e2, h1⟩ := pr_subv (n := k + 2) h one_pr (sb b) (sb b') (C := 59059 / 100000) (by grind) (by grind) (by grind) (by grind)
  obtain ⟨e, e', e3, e4, h2⟩ := pr_add (n := k + 5) h one_pr (C := 21 / 10) (by grind) (by grind) (by grind) (by grind)
  have lo : ∀ {w c : Nat}, Vb (41 / 100) (102 / 100) w → fbF .add w 4607182418800017408 = some c → ∀ z, Is c z → 140859 / 100000 ≤ z.abs := fun hb hc z hz => by
    obtain ⟨x, hx, x1, x2⟩ := hb
    have := add_low hx one_is hc (L := 141 / 100) (by grind) (by grind) (by grind) z hz
    grind
  obtain ⟨u, u', e5, e6, h3⟩ := pr_quo (n := 101 / 100 * k + 4) (D := 140859 / 100000) (Q := 4194 / 10000) h1 h2 (lo b e3) (lo b' e4) (by grind) (by grind) (by grind) (C := 21 / 50) (by grind) (by grind) (by grind)
  obtain ⟨v, v', h4, e7, e8⟩ := coreN_pr h3 (by grind)
  obtain ⟨x, x', e9, e10, h5⟩ := pr_add (n := 37 / 20 * k + 14) h4 (lit_pr (e := -10) (B := 1 / 1000) (w := 4359948597267291143) (by decide) (by
    have h := p2_neg 10
    have e : ((2 ^ 10 : Nat) : Rat) = 1024 := rfl
    rw [e] at h
    rw [show (-10 : Int) = -((10 : Nat) : Int) by rfl]
    grind)) (C := 61 / 100) (by grind) (by grind) (by grind) (by grind)
  obtain ⟨c, c', e11, e12, h6⟩ := pr_add (n := 37 / 20 * k + 20) q_pr h5 (C := 3 / 2) (by grind) (by grind) (by grind) (by grind)
  refine ⟨c, c', h6, fun R f => ?_, fun R f => ?_⟩
  · unfold coreF; rw [bindF_eq e1, bindF_eq e3, bindF_eq e5, e7, bindF_eq e9, bindF_eq e11]
  · unfold coreF; rw [bindF_eq e2, bindF_eq e4, bindF_eq e6, e8, bindF_eq e10, bindF_eq e12]
end Go.Vm
namespace Go.Vm
open Ieee
set_option linter.unusedVariables false
set_option linter.unusedSimpArgs false

theorem t0_is : Is 4601130706800738304 (53 / 128 : Rat) := by
  have := is_num (w := 4601130706800738304) (m := 7459086882832384) (n := 54) (by decide) (by decide)
  have e : ((2 ^ 54 : Nat) : Rat) = 18014398509481984 := rfl
  have e2 : ((7459086882832384 : Nat) : Rat) = 7459086882832384 := rfl
  rw [e, e2] at this
  rw [show (53 / 128 : Rat) = 7459086882832384 * (1 / 18014398509481984) by grind]
  exact this
theorem w0_is : Is 4600743534772930146 (7071914855024226 / 18014398509481984 : Rat) := by
  have := is_num (w := 4600743534772930146) (m := 7071914855024226) (n := 54) (by decide) (by decide)
  have e : ((2 ^ 54 : Nat) : Rat) = 18014398509481984 := rfl
  have e2 : ((7071914855024226 : Nat) : Rat) = 7071914855024226 := rfl
  rw [e, e2] at this
  rw [show (7071914855024226 / 18014398509481984 : Rat) = 7071914855024226 * (1 / 18014398509481984) by grind]
  exact this
theorem w1_is : Is 4600743534772930147 (7071914855024227 / 18014398509481984 : Rat) := by
  have := is_num (w := 4600743534772930147) (m := 7071914855024227) (n := 54) (by decide) (by decide)
  have e : ((2 ^ 54 : Nat) : Rat) = 18014398509481984 := rfl
  have e2 : ((7071914855024227 : Nat) : Rat) = 7071914855024227 := rfl
  rw [e, e2] at this
  rw [show (7071914855024227 / 18014398509481984 : Rat) = 7071914855024227 * (1 / 18014398509481984) by grind]
  exact this
theorem w01_pr : Pr (3 / 2) 1 4600743534772930146 4600743534772930147 :=
  ⟨_, _, w0_is, w1_is, abs_le_iff.2 ⟨by grind, by grind⟩, abs_le_iff.2 ⟨by grind, by grind⟩, by rw [eps_eq]; exact abs_le_iff.2 ⟨by grind, by grind⟩⟩
theorem coreN_t0 (R : Type) (f : Nat → Option R) : coreN 4601130706800738304 f = f 4600743534772930146 := by kernel_rfl
theorem coreF_t0 (R : Type) (f : Nat → Option R) : coreF 4601130706800738304 f = f 4600743534772930147 := by kernel_rfl
theorem Pr.tight {B C k : Rat} {w w' : Nat} (h : Pr B k w w') (b : ∀ x, Is w x → x.abs ≤ C) (b' : ∀ x, Is w' x → x.abs ≤ C) : Pr C k w w' := by
  obtain ⟨x, x', h1, h2, h3, h4, h5⟩ := h
  exact ⟨x, x', h1, h2, b x h1, b' x' h2, h5⟩
theorem some_eq {a b : Nat} (h : (some a : Option Nat) = some b) : a = b := by cases h; rfl

/-- the angle whose tangent is told, of two -/
theorem coreK_cross {t t' : Nat} {k : Rat} (h : Pr (102 / 100) k t t') (b : Vb (-1 / 100) (53 / 128) t) (b' : Vb (53 / 128) (102 / 100) t') (hk : 0 ≤ k) :
    ∃ c c', Pr (3 / 2) (37 / 20 * k + 26) c c' ∧ (∀ (R : Type) (f : Nat → Option R), coreN t f = f c) ∧ ∀ (R : Type) (f : Nat → Option R), coreF t' f = f c' := by
  obtain ⟨x, x', h1, h2, h3, h4, h5⟩ := h
  have v := b.val h1
  have v' := b'.val h2
  have d := abs_le_iff.1 h5
  have ep := eps_pos
  have split : ∀ {u : Rat}, 0 ≤ u → ∃ m, 0 ≤ m ∧ u = m * eps := fun {u} hu => ⟨u / eps, by rw [Rat.div_def]; exact Rat.mul_nonneg hu (Rat.le_of_lt (Rat.inv_pos.2 ep)), by rw [Rat.div_def, Rat.mul_assoc, Rat.inv_mul_cancel _ (by grind), Rat.mul_one]⟩
  obtain ⟨k1, k10, k11⟩ := split (u := 53 / 128 - x) (by grind)
  obtain ⟨k2, k20, k21⟩ := split (u := x' - 53 / 128) (by grind)
  have ks : k1 + k2 ≤ k := by
    refine Rat.le_of_mul_le_mul_right (c := eps) ?_ ep
    grind
  obtain ⟨c, c0, p1, e1, e2⟩ := coreN_pr (t := t) (t' := 4601130706800738304) (k := k1) ⟨x, _, h1, t0_is, abs_le_iff.2 ⟨by grind, by grind⟩, abs_le_iff.2 ⟨by grind, by grind⟩, abs_le_iff.2 ⟨by grind, by grind⟩⟩ k10
  obtain ⟨c1, c', p2, e3, e4⟩ := coreF_pr (t := 4601130706800738304) (t' := t') (k := k2) ⟨_, x', t0_is, h2, abs_le_iff.2 ⟨by grind, by grind⟩, abs_le_iff.2 ⟨by grind, by grind⟩, abs_le_iff.2 ⟨by grind, by grind⟩⟩ ⟨_, t0_is, by grind, by grind⟩ ⟨x', h2, by grind, by grind⟩ k20
  have q0 := some_eq ((e2 Nat some).symm.trans (coreN_t0 Nat some))
  have q1 := some_eq ((e3 Nat some).symm.trans (coreF_t0 Nat some))
  subst q0 q1
  refine ⟨c, c', ?_, e1, e4⟩
  exact (((p1.mono (by grind) Rat.le_refl).trans w01_pr).trans p2).mono Rat.le_refl (by grind)
theorem coreK_pr {t t' : Nat} {k : Rat} (h : Pr (102 / 100) k t t') (b : Vb (-1 / 100) (102 / 100) t) (b' : Vb (-1 / 100) (102 / 100) t') (hk : 0 ≤ k) :
    ∃ c c', Pr (3 / 2) (37 / 20 * k + 26) c c' ∧ (∀ (R : Type) (f : Nat → Option R), coreK R t f = f c) ∧ ∀ (R : Type) (f : Nat → Option R), coreK R t' f = f c' := by
  obtain ⟨x, ix, x1, x2⟩ := b
  obtain ⟨x', ix', x1', x2'⟩ := b'
  have g : gtF t 4601130706800738304 = decide ((53 / 128 : Rat) < x) := gtF_is ix t0_is
  have g' : gtF t' 4601130706800738304 = decide ((53 / 128 : Rat) < x') := gtF_is ix' t0_is
  by_cases f : (53 / 128 : Rat) < x
  · rw [decide_eq_true f] at g
    by_cases f' : (53 / 128 : Rat) < x'
    · rw [decide_eq_true f'] at g'
      obtain ⟨c, c', p, e, e'⟩ := coreF_pr h ⟨x, ix, by grind, x2⟩ ⟨x', ix', by grind, x2'⟩ hk
      exact ⟨c, c', p.mono Rat.le_refl (by grind), fun R f => by rw [coreK_def, g, forceB_eq]; exact e R f, fun R f => by rw [coreK_def, g', forceB_eq]; exact e' R f⟩
    · rw [decide_eq_false f'] at g'
      obtain ⟨c, c', p, e, e'⟩ := coreK_cross h.symm ⟨x', ix', x1', by grind⟩ ⟨x, ix, by grind, x2⟩ hk
      exact ⟨c', c, p.symm, fun R f => by rw [coreK_def, g, forceB_eq]; exact e' R f, fun R f => by rw [coreK_def, g', forceB_eq]; exact e R f⟩
  · rw [decide_eq_false f] at g
    by_cases f' : (53 / 128 : Rat) < x'
    · rw [decide_eq_true f'] at g'
      obtain ⟨c, c', p, e, e'⟩ := coreK_cross h ⟨x, ix, x1, by grind⟩ ⟨x', ix', by grind, x2'⟩ hk
      exact ⟨c, c', p, fun R f => by rw [coreK_def, g, forceB_eq]; exact e R f, fun R f => by rw [coreK_def, g', forceB_eq]; exact e' R f⟩
    · rw [decide_eq_false f'] at g'
      obtain ⟨c, c', p, e, e'⟩ := coreN_pr (h.tight (C := 21 / 50) (fun y hy => by have := is_fun hy ix; subst this; exact abs_le_iff.2 ⟨by grind, by grind⟩) (fun y hy => by have := is_fun hy ix'; subst this; exact abs_le_iff.2 ⟨by grind, by grind⟩)) hk
      exact ⟨c, c', p.mono (by grind) (by grind), fun R f => by rw [coreK_def, g, forceB_eq]; exact e R f, fun R f => by rw [coreK_def, g', forceB_eq]; exact e' R f⟩
end Go.Vm
namespace Go.Vm
open Ieee
set_option linter.unusedVariables false
set_option linter.unusedSimpArgs false

theorem pr_quov {A B D Q C k m n : Rat} {a a' b b' : Nat} (ha : Pr A k a a') (hb : Pr B m b b') (hy : ∀ y, Is b y → D ≤ y.abs) (hy' : ∀ y, Is b' y → D ≤ y.abs) (hD : 0 < D)
    (hq : ∀ x y, Is a x → Is b y → x.abs ≤ Q * y.abs) (hq' : ∀ x y, Is a' x → Is b' y → x.abs ≤ Q * y.abs) (hl : 1 / 1000000 ≤ Q)
    (h : Q * (1001 / 1000) ≤ C) (hC : C ≤ 500) (hk : k + Q * m ≤ (n - 2 * Q) * D) :
    ∃ c c', fbF .quo a b = some c ∧ fbF .quo a' b' = some c' ∧ Pr C n c c' := by
  obtain ⟨x, x', h1, h2, h3, h4, h5⟩ := ha
  obtain ⟨y, y', g1, g2, g3, g4, g5⟩ := hb
  have y1 := hy y g1
  have y2 := hy' y' g2
  have yn : y ≠ 0 := fun e => by rw [e, abs_zero] at y1; grind
  have yn' : y' ≠ 0 := fun e => by rw [e, abs_zero] at y2; grind
  have q1 : x / y * y = x := by rw [Rat.div_def, Rat.mul_assoc, Rat.inv_mul_cancel _ yn, Rat.mul_one]
  have q2 : x' / y' * y' = x' := by rw [Rat.div_def, Rat.mul_assoc, Rat.inv_mul_cancel _ yn', Rat.mul_one]
  have b1 := div_bound (Q := Q) q1 Rat.le_refl (Rat.le_refl (a := y.abs)) (by grind) (hq x y h1 g1) (by grind)
  have b2 := div_bound (Q := Q) q2 Rat.le_refl (Rat.le_refl (a := y'.abs)) (by grind) (hq' x' y' h2 g2) (by grind)
  have lt : ∀ {v : Rat}, v.abs ≤ Q → v.abs < (2 : Rat) ^ (1022 : Int) := fun {v} hv => by
    have h6 := p2_le (show (10 : Int) ≤ 1022 by decide)
    have h8 : (2 : Rat) ^ (10 : Int) = 1024 := by rw [show (10 : Int) = ((10 : Nat) : Int) by rfl, p2_nat]; rfl
    grind
  obtain ⟨c, z, e1, i1, r1⟩ := div_is h1 g1 yn (lt b1)
  obtain ⟨c', z', e2, i2, r2⟩ := div_is h2 g2 yn' (lt b2)
  have l1 := r1.le b1 (low_small hl)
  have l2 := r2.le b2 (low_small hl)
  refine ⟨c, c', e1, e2, z, z', i1, i2, Rat.le_trans (near_abs l1 b1 (by grind)) h, Rat.le_trans (near_abs l2 b2 (by grind)) h, ?_⟩
  have d0 : (x / y - x' / y') * y = (x - x') + x' / y' * (y' - y) := by grind
  have d1 : (x / y - x' / y').abs ≤ (n - 2 * Q) * eps := by
    have t1 : (x / y - x' / y').abs * y.abs ≤ (k + Q * m) * eps := by
      rw [← abs_mul, d0]
      have s1 := abs_add_le (x - x') (x' / y' * (y' - y))
      rw [abs_mul] at s1
      rw [abs_sub_comm] at g5
      have s2 := mul_mono' b2 g5 (abs_nonneg _) (by grind)
      grind
    have t2 := Rat.mul_le_mul_of_nonneg_left y1 (abs_nonneg (x / y - x' / y'))
    have t3 := Rat.mul_le_mul_of_nonneg_right hk (Rat.le_of_lt eps_pos)
    have t4 : (x / y - x' / y').abs * D ≤ ((n - 2 * Q) * eps) * D := by grind
    exact Rat.le_of_mul_le_mul_right t4 hD
  have d2 := diff3 l1 l2 d1
  grind
theorem abs_diff (x y : Rat) : (x.abs - y.abs).abs ≤ (x - y).abs := by
  have h1 := abs_add_le (x - y) y
  have h2 := abs_add_le (y - x) x
  rw [show x - y + y = x by grind] at h1
  rw [show y - x + x = y by grind, abs_sub_comm y x] at h2
  exact abs_le_iff.2 ⟨by grind, by grind⟩
theorem Pr.absW {B k : Rat} {w w' : Nat} (h : Pr B k w w') : Pr B k (absW w) (absW w') := by
  obtain ⟨x, x', h1, h2, h3, h4, h5⟩ := h
  exact ⟨_, _, abs_is h1, abs_is h2, by rw [Rat.abs_of_nonneg (abs_nonneg x)]; exact h3, by rw [Rat.abs_of_nonneg (abs_nonneg x')]; exact h4, Rat.le_trans (abs_diff x x') h5⟩
theorem Pr.neg {B k : Rat} {w w' : Nat} (h : Pr B k w w') : Pr B k (Op.negFloat .f64 w) (Op.negFloat .f64 w') := by
  obtain ⟨x, x', h1, h2, h3, h4, h5⟩ := h
  exact ⟨_, _, neg_is h1, neg_is h2, by rw [abs_neg]; exact h3, by rw [abs_neg]; exact h4, by rw [show -x - -x' = -(x - x') by grind, abs_neg]; exact h5⟩
/-- the quotient of what is not greater lies between 0 and 1 -/
theorem quo_vb {p q c : Nat} {P Q : Rat} (hp : Is p P) (hq : Is q Q) (h0 : 0 ≤ P) (h1 : P ≤ Q) (h2 : 0 < Q) (hc : fbF .quo p q = some c) : Vb (-1 / 100) (102 / 100) c := by
  have qn : Q ≠ 0 := by grind
  have q1 : P / Q * Q = P := by rw [Rat.div_def, Rat.mul_assoc, Rat.inv_mul_cancel _ qn, Rat.mul_one]
  have b0 : 0 ≤ P / Q := by rw [Rat.div_def]; exact Rat.mul_nonneg h0 (Rat.le_of_lt (Rat.inv_pos.2 h2))
  have b1 : P / Q ≤ 1 := by
    refine Rat.le_of_mul_le_mul_right (c := Q) ?_ h2
    rw [q1]; grind
  have ab : (P / Q).abs ≤ 1 := abs_le_iff.2 ⟨by grind, by grind⟩
  obtain ⟨c', z, e, i, r⟩ := div_is hp hq qn (by
    have h6 := p2_le (show (10 : Int) ≤ 1022 by decide)
    have h8 : (2 : Rat) ^ (10 : Int) = 1024 := by rw [show (10 : Int) = ((10 : Nat) : Int) by rfl, p2_nat]; rfl
    grind)
  rw [hc] at e
  cases e
  have l := r.le ab m1000_one
  have l2 := abs_le_iff.1 l
  have := eps_le
  exact ⟨z, i, by grind, by grind⟩
end Go.Vm
namespace Go.Vm
open Ieee
set_option linter.unusedVariables false
set_option linter.unusedSimpArgs false

/-! ### The angle by the parts' sizes alone -/
def baseL {R : Type} (p q : Nat) (f : Nat → Option R) : Option R := bindF (fbF .quo p q) fun t => coreK R t f
def baseG {R : Type} (p q : Nat) (f : Nat → Option R) : Option R := bindF (fbF .quo q p) fun t => coreK R t fun c => bindF (fbF .sub c 4364452196894661639) fun d => bindF (fbF .sub 4609753056924675352 d) f
theorem two_runs {A k m : Rat} {p p' q q' : Nat} (hp : Pr A k p p') (hq : Pr A m q q') (hk : 0 ≤ k) (hm : 0 ≤ m) (b : ∀ x y, Is p x → Is q y → 0 ≤ x ∧ x ≤ y ∧ 7 / 20 ≤ y) (b' : ∀ x y, Is p' x → Is q' y → 0 ≤ x ∧ x ≤ y ∧ 7 / 20 ≤ y) :
    ∃ t t' c c', fbF .quo p q = some t ∧ fbF .quo p' q' = some t' ∧ Pr (3 / 2) (53 / 10 * (k + m) + 30) c c' ∧ (∀ (R : Type) (f : Nat → Option R), coreK R t f = f c) ∧ ∀ (R : Type) (f : Nat → Option R), coreK R t' f = f c' := by
  have hp0 := hp
  have hq0 := hq
  obtain ⟨x, x', h1, h2, _⟩ := hp
  obtain ⟨y, y', g1, g2, _⟩ := hq
  have v := b x y h1 g1
  have v' := b' x' y' h2 g2
  have lo : ∀ {w : Nat} {u : Rat}, Is w u → 7 / 20 ≤ u → ∀ z, Is w z → (7 / 20 : Rat) ≤ z.abs := fun hu h3 z hz => by
    have := is_fun hz hu
    subst this
    rw [Rat.abs_of_nonneg (by grind)]
    exact h3
  have qb : ∀ {w w' : Nat} {u u' : Rat}, Is w u → Is w' u' → 0 ≤ u → u ≤ u' → ∀ a b, Is w a → Is w' b → a.abs ≤ 1 * b.abs := fun hu hu' h0 h1 a b ha hb => by
    have e1 := is_fun ha hu
    have e2 := is_fun hb hu'
    subst e1 e2
    rw [Rat.abs_of_nonneg h0, Rat.abs_of_nonneg (by grind)]
    grind
  obtain ⟨t, t', e1, e2, h⟩ := pr_quov (n := 20 / 7 * (k + m) + 2) (D := 7 / 20) (Q := 1) (C := 102 / 100) hp0 hq0 (lo g1 v.2.2) (lo g2 v'.2.2) (by grind) (qb h1 g1 v.1 v.2.1) (qb h2 g2 v'.1 v'.2.1) (by grind) (by grind) (by grind) (by grind)
  obtain ⟨c, c', p1, f1, f2⟩ := coreK_pr h (quo_vb h1 g1 v.1 v.2.1 (by grind) e1) (quo_vb h2 g2 v'.1 v'.2.1 (by grind) e2) (by grind)
  exact ⟨t, t', c, c', e1, e2, p1.mono Rat.le_refl (by grind), f1, f2⟩
theorem baseL_pr {A k m : Rat} {p p' q q' : Nat} (hp : Pr A k p p') (hq : Pr A m q q') (hk : 0 ≤ k) (hm : 0 ≤ m) (b : ∀ x y, Is p x → Is q y → 0 ≤ x ∧ x ≤ y ∧ 7 / 20 ≤ y) (b' : ∀ x y, Is p' x → Is q' y → 0 ≤ x ∧ x ≤ y ∧ 7 / 20 ≤ y) :
    ∃ c c', Pr (16 / 5) (53 / 10 * (k + m) + 40) c c' ∧ (∀ (R : Type) (f : Nat → Option R), baseL p q f = f c) ∧ ∀ (R : Type) (f : Nat → Option R), baseL p' q' f = f c' := by
  obtain ⟨t, t', c, c', e1, e2, h, f1, f2⟩ := two_runs hp hq hk hm b b'
  exact ⟨c, c', h.mono (by grind) (by grind), fun R f => by unfold baseL; rw [bindF_eq e1, f1], fun R f => by unfold baseL; rw [bindF_eq e2, f2]⟩
theorem h2_is : Is 4609753056924675352 (7074237752028440 / 4503599627370496 : Rat) := by
  have := is_num (w := 4609753056924675352) (m := 7074237752028440) (n := 52) (by decide) (by decide)
  have e : ((2 ^ 52 : Nat) : Rat) = 4503599627370496 := rfl
  have e2 : ((7074237752028440 : Nat) : Rat) = 7074237752028440 := rfl
  rw [e, e2] at this
  rw [show (7074237752028440 / 4503599627370496 : Rat) = 7074237752028440 * (1 / 4503599627370496) by grind]
  exact this
theorem h2_pr : Pr (16 / 10) 0 4609753056924675352 4609753056924675352 := pr_same h2_is (abs_le_iff.2 ⟨by grind, by grind⟩)
theorem m10 : (2 : Rat) ^ (-10 : Int) ≤ 1 / 1000 := by
  have h := p2_neg 10
  have e : ((2 ^ 10 : Nat) : Rat) = 1024 := rfl
  rw [e] at h
  rw [show (-10 : Int) = -((10 : Nat) : Int) by rfl]
  grind
theorem baseG_pr {A k m : Rat} {p p' q q' : Nat} (hp : Pr A k p p') (hq : Pr A m q q') (hk : 0 ≤ k) (hm : 0 ≤ m) (b : ∀ x y, Is q x → Is p y → 0 ≤ x ∧ x ≤ y ∧ 7 / 20 ≤ y) (b' : ∀ x y, Is q' x → Is p' y → 0 ≤ x ∧ x ≤ y ∧ 7 / 20 ≤ y) :
    ∃ c c', Pr (16 / 5) (53 / 10 * (k + m) + 40) c c' ∧ (∀ (R : Type) (f : Nat → Option R), baseG p q f = f c) ∧ ∀ (R : Type) (f : Nat → Option R), baseG p' q' f = f c' := by
  obtain ⟨t, t', c, c', e1, e2, h, f1, f2⟩ := two_runs hq hp hm hk b b'
  obtain ⟨d, d', e3, e4, h1⟩ := pr_sub (n := 53 / 10 * (k + m) + 67 / 2) h (lit_pr (e := -10) (B := 1 / 1000) (w := 4364452196894661639) (by decide) m10) (C := 151 / 100) (by grind) (by grind) (by grind) (by grind)
  obtain ⟨g, g', e5, e6, h3⟩ := pr_sub (n := 53 / 10 * (k + m) + 40) h2_pr h1 (C := 16 / 5) (by grind) (by grind) (by grind) (by grind)
  exact ⟨g, g', h3, fun R f => by unfold baseG; rw [bindF_eq e1, f1, bindF_eq e3, bindF_eq e5], fun R f => by unfold baseG; rw [bindF_eq e2, f2, bindF_eq e4, bindF_eq e6]⟩
theorem quo_self {q : Nat} {Q : Rat} (h : Is q Q) (h0 : 7 / 20 ≤ Q) : fbF .quo q q = some 4607182418800017408 := by
  have qn : Q ≠ 0 := by grind
  have e1 : Q / Q = 1 := by rw [Rat.div_def, Rat.mul_inv_cancel _ qn]
  obtain ⟨c, z, e, i, r⟩ := div_is h h qn (by
    rw [e1, Rat.abs_of_nonneg (by grind)]
    have h6 := p2_le (show (10 : Int) ≤ 1022 by decide)
    have h8 : (2 : Rat) ^ (10 : Int) = 1024 := by rw [show (10 : Int) = ((10 : Nat) : Int) by rfl, p2_nat]; rfl
    grind)
  have z1 := r.rep 1 0 (by decide) (by decide) (by rw [e1, Rat.zpow_zero, show ((1 : Int) : Rat) = 1 from rfl]; grind)
  rw [e1] at z1
  subst z1
  rw [e, word_of (n := 1) i l1 (by decide)]
theorem coreK_one (R : Type) (f : Nat → Option R) : coreK R 4607182418800017408 f = f 4605249457297304856 := by kernel_rfl
theorem baseL_one {q : Nat} {Q : Rat} (h : Is q Q) (h0 : 7 / 20 ≤ Q) (R : Type) (f : Nat → Option R) : baseL q q f = f 4605249457297304856 := by
  unfold baseL
  rw [bindF_eq (quo_self h h0)]
  exact coreK_one R f
theorem coreK_one2 (R : Type) (f : Nat → Option R) : (coreK R 4607182418800017408 fun c => bindF (fbF .sub c 4364452196894661639) fun d => bindF (fbF .sub 4609753056924675352 d) f) = f 4605249457297304857 := by kernel_rfl
theorem baseG_one {q : Nat} {Q : Rat} (h : Is q Q) (h0 : 7 / 20 ≤ Q) (R : Type) (f : Nat → Option R) : baseG q q f = f 4605249457297304857 := by
  unfold baseG
  rw [bindF_eq (quo_self h h0)]
  exact coreK_one2 R f
theorem q1_is : Is 4605249457297304857 (7074237752028441 / 9007199254740992 : Rat) := by
  have := is_num (w := 4605249457297304857) (m := 7074237752028441) (n := 53) (by decide) (by decide)
  have e : ((2 ^ 53 : Nat) : Rat) = 9007199254740992 := rfl
  have e2 : ((7074237752028441 : Nat) : Rat) = 7074237752028441 := rfl
  rw [e, e2] at this
  rw [show (7074237752028441 / 9007199254740992 : Rat) = 7074237752028441 * (1 / 9007199254740992) by grind]
  exact this
theorem q01_pr : Pr (16 / 5) 1 4605249457297304856 4605249457297304857 :=
  ⟨_, _, is_q, q1_is, abs_le_iff.2 ⟨by grind, by grind⟩, abs_le_iff.2 ⟨by grind, by grind⟩, by rw [eps_eq]; exact abs_le_iff.2 ⟨by grind, by grind⟩⟩
/-- one with the way up not longer, one with the way up longer -/
theorem cross_pr {A k : Rat} {p p' q q' : Nat} (hp : Pr A k p p') (hq : Pr A k q q') (hk : 0 ≤ k) (b : ∀ x y, Is p x → Is q y → 0 ≤ x ∧ x ≤ y ∧ 7 / 20 ≤ y) (b' : ∀ x y, Is q' x → Is p' y → 0 ≤ x ∧ x ≤ y ∧ 7 / 20 ≤ y) :
    ∃ c c', Pr (16 / 5) (53 / 5 * k + 81) c c' ∧ (∀ (R : Type) (f : Nat → Option R), baseL p q f = f c) ∧ ∀ (R : Type) (f : Nat → Option R), baseG p' q' f = f c' := by
  obtain ⟨x, x', h1, h2, h3, h4, h5⟩ := hp
  obtain ⟨y, y', g1, g2, g3, g4, g5⟩ := hq
  have v := b x y h1 g1
  have v' := b' y' x' g2 h2
  have d1 := abs_le_iff.1 h5
  have d2 := abs_le_iff.1 g5
  have ep := eps_pos
  have split : ∀ {u : Rat}, 0 ≤ u → ∃ m, 0 ≤ m ∧ u = m * eps := fun {u} hu => ⟨u / eps, by rw [Rat.div_def]; exact Rat.mul_nonneg hu (Rat.le_of_lt (Rat.inv_pos.2 ep)), by rw [Rat.div_def, Rat.mul_assoc, Rat.inv_mul_cancel _ (by grind), Rat.mul_one]⟩
  obtain ⟨k1, k10, k11⟩ := split (u := y - x) (by grind)
  obtain ⟨k2, k20, k21⟩ := split (u := x' - y') (by grind)
  have ks : k1 + k2 ≤ 2 * k := by
    refine Rat.le_of_mul_le_mul_right (c := eps) ?_ ep
    grind
  have s1 : (x - y).abs ≤ k1 * eps := abs_le_iff.2 ⟨by grind, by grind⟩
  have s2 : (y' - x').abs ≤ k2 * eps := abs_le_iff.2 ⟨by grind, by grind⟩
  have fn : ∀ {w : Nat} {u : Rat}, Is w u → 7 / 20 ≤ u → ∀ a b, Is w a → Is w b → 0 ≤ a ∧ a ≤ b ∧ 7 / 20 ≤ b := fun hu h0 a b ha hb => by
    have e1 := is_fun ha hu
    have e2 := is_fun hb hu
    subst e1 e2
    exact ⟨by grind, Rat.le_refl, h0⟩
  obtain ⟨c, c0, p1, e1, e2⟩ := baseL_pr (A := A) (k := k1) (m := 0) (p := p) (p' := q) (q := q) (q' := q) ⟨x, y, h1, g1, h3, g3, s1⟩ (pr_same g1 g3) k10 (by grind) b (fn g1 v.2.2)
  obtain ⟨c', c1, p2, e3, e4⟩ := baseG_pr (A := A) (k := 0) (m := k2) (p := p') (p' := p') (q := q') (q' := p') (pr_same h2 h4) ⟨y', x', g2, h2, g4, h4, s2⟩ (by grind) k20 b' (fn h2 v'.2.2)
  have q0 := some_eq ((e2 Nat some).symm.trans (baseL_one g1 v.2.2 Nat some))
  have q1 := some_eq ((e4 Nat some).symm.trans (baseG_one h2 v'.2.2 Nat some))
  subst q0 q1
  exact ⟨c, c', ((p1.trans q01_pr).trans p2.symm).mono Rat.le_refl (by grind), e1, e3⟩
end Go.Vm
