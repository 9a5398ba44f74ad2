/- One round of the loop of Border as an equation; no conditions. Products, sums and quotients of words of bounded magnitude come and are bounded; no conditions. The series of the arctangent and the logarithm come; no conditions. What Potential, Speed and Slope compute, by kind and power, in Lean; no conditions. The word of a whole number from 1 on is the only one of its value; no conditions. -/
import Derived.Test.YtnbpfafngidimaaGreatVmZK
import Derived.Test.YtnbpfafngidimaaGreatVmF0
import Derived.Test.YtnbpfafngidimaaGreatVmP6
import Derived.Test.YtnbpfafngidimaaGreatVmLP
import Derived.Test.YtnbpfafngidimaaGreatVmP12
import Derived.Test.YtnbpfafngidimaaGreatVmP1
namespace Go.Vm
open Go.Proofs
set_option linter.unusedVariables false
set_option maxRecDepth 1000000

/-! ### A round of Border's loop -/
abbrev KFFC := ∀ R : Type, Nat → Nat → (Nat → Nat → Option R) → Option R
def sJk (g : KMZC) : Sum := fun R args k => match args with
  | [v, .complex .f64 a b] => oneM v fun i m => bif i == 2 then g R m a b fun x y => k (.tuple ⟨[.complex .f64 x y, .int .i64 0]⟩) else none
  | _ => none
def sPl (g : KFFC) : Sum := fun R args k => match args with
  | [.float .f64 a, .float .f64 b] => g R a b fun x y => k (.complex .f64 x y)
  | _ => none
noncomputable def borderCode : Code := match Tryz.prog.funcs[73]? with
  | none => .skip
  | some fn => match fn.body with
    | some c => c
    | none => .skip
noncomputable def borderLoop : Code := match loopsIn borderCode with | a :: _ => a | _ => .skip
def borderS : List Value := [.complex .f64 13817043656772681728 4593671619917905920, .float .f64 4607182418800017408, .complex .f64 4611686018427387904 13821547256400052224,
  .float .f64 4607041681311662080, .float .f64 4605985873102402911, .int .u8 2, .complex .f64 4605985873102402911 0, .complex .f64 0 0, .complex .f64 0 0, .complex .f64 0 0, .float .f64 0,
  .func (.func 232) #[] #[.pointer (some ⟨5, 0, none⟩), .pointer (some ⟨2, 0, none⟩), .pointer (some ⟨3, 0, none⟩)]]
def borderO : Objs := [(4, .cells borderS 0), (5, .cells [.pointer (some ⟨4, 0, none⟩)] 0), (3, .cells [.float .f64 4607182418800017408] 0), (2, .cells [.complex .f64 13817043656772681728 4593671619917905920] 0)]
def borderE (k : Int) : Env := [(24, .int .i64 k), (23, .int .i64 4096), (8, .slice (some ⟨6, 0, none⟩) k.toNat 4096), (7, .pointer (some ⟨4, 0, none⟩)), (1, .int .i64 4096)]
def borderH (cs : List Value) : AH := ⟨7, (6, .cells cs 0) :: borderO⟩
def borderM : Mp := { a1 := 4605985873102402911, a2 := 0, b1 := 0, b2 := 0, c1 := 0, c2 := 0, d1 := 0, d2 := 0, p := 0 }
/-- the first place, and the next ones -/
def round0 {R : Type} (at_ : KMZC) (k : Nat → Nat → Option R) : Option R := at_ R borderM 4605985873102402911 0 k
def roundB {R : Type} (pl : KFFC) (sub add : KCCC) (an : KFFF) (at_ : KMZC) (n : Nat) (k : Nat → Nat → Nat → Nat → Nat → Option R) : Option R :=
  bindF (fbF .mul 4618760256179416344 n) fun a => bindF (fbF .quo a 4661225614328463360) fun t =>
  sub R 4605985873102402911 0 13817043656772681728 4593671619917905920 fun x y => an R y x fun o => bindF (fbF .add o t) fun u => pl R 4607182418800017408 u fun x y => add R 13817043656772681728 4593671619917905920 x y fun z1 z2 =>
  at_ R borderM z1 z2 fun w1 w2 => k t z1 z2 w1 w2
def borderE' (k m : Int) (v : Value) (n t z1 z2 w1 w2 : Nat) (l : Env) : Env := [(24, .int .i64 m), (56, .int .i64 m), (8, v), (55, v), (54, .slice (some ⟨7, 0, none⟩) 1 1), (53, .complex .f64 w1 w2),
  (52, .slice (some ⟨6, 0, none⟩) k.toNat 4096), (50, .bool false), (49, .int .i64 0), (12, .int .i64 0), (11, .complex .f64 w1 w2), (48, .int .i64 0), (47, .complex .f64 w1 w2),
  (40, .tuple ⟨[.complex .f64 w1 w2, .int .i64 0]⟩), (46, .tuple ⟨[.complex .f64 w1 w2, .int .i64 0]⟩), (45, .complex .f64 z1 z2),
  (44, .agg ⟨[.int .u8 2, .complex .f64 4605985873102402911 0, .complex .f64 0 0, .complex .f64 0 0, .complex .f64 0 0, .float .f64 0]⟩),
  (43, .pointer (some ⟨4, 5, none⟩)), (42, .pointer (some ⟨4, 0, none⟩)), (41, .pointer (some ⟨4, 0, none⟩))] ++ l
def borderL (k : Int) (n t z1 z2 : Nat) : Env := [(10, .complex .f64 z1 z2), (39, .complex .f64 z1 z2), (38, .float .f64 t), (37, .int .i64 4096), (36, .float .f64 n), (35, .int .i64 k),
  (34, .func (.func 232) #[] #[.pointer (some ⟨5, 0, none⟩), .pointer (some ⟨2, 0, none⟩), .pointer (some ⟨3, 0, none⟩)]),
  (33, .pointer (some ⟨4, 11, none⟩)), (32, .pointer (some ⟨4, 0, none⟩)), (31, .pointer (some ⟨4, 0, none⟩)), (30, .bool true), (29, .int .i64 k)]
def borderL' (k : Int) : Env := [(10, .complex .f64 4605985873102402911 0), (28, .complex .f64 4605985873102402911 0), (27, .pointer (some ⟨4, 0, none⟩)), (9, .int .i64 k), (26, .int .i64 k), (25, .bool true)]
def borderT (pl : KFFC) (sub add : KCCC) (an : KFFF) (at_ : KMZC) : List (Nat × Sum) := [(21, sCCC sub), (84, sCCC add), (233, sFFF an), (162, sPl pl), (26, sJk at_), (118, sFF sqrtK), (53, sFF absK)]
theorem border_round (R : Type) (pl : KFFC) (sub add : KCCC) (an : KFFF) (at_ : KMZC) (k : Int) (cs : List Value) (K : Ex → Env → AH → Option R) :
    evCode (cx Tryz.prog (borderT pl sub add an at_)) 60 0 58 borderLoop (borderE k) (borderH cs) K =
    bif decide (k < 4096) then
      bif decide (k > 0) then
        forceN (floatOfInt .f64 k) fun n => roundB pl sub add an at_ n fun t z1 z2 w1 w2 =>
          appendX Tryz.prog 0 ⟨8, (7, .cells [.complex .f64 w1 w2] 0) :: (6, .cells cs 0) :: borderO⟩ [78, 78] (.slice (some ⟨6, 0, none⟩) k.toNat 4096) (.slice (some ⟨7, 0, none⟩) 1 1) fun v H =>
            fiReal R (IntKind.i64.wrap (k + 1)) fun m => K .normal (borderE' k m v n t z1 z2 w1 w2 (borderL k n t z1 z2 ++ borderL' k ++ borderE k)) H
      else round0 at_ fun w1 w2 => 
          appendX Tryz.prog 0 ⟨8, (7, .cells [.complex .f64 w1 w2] 0) :: (6, .cells cs 0) :: borderO⟩ [78, 78] (.slice (some ⟨6, 0, none⟩) k.toNat 4096) (.slice (some ⟨7, 0, none⟩) 1 1) fun v H =>
            fiReal R (IntKind.i64.wrap (k + 1)) fun m => K .normal (borderE' k m v 0 0 4605985873102402911 0 w1 w2 ([(30, .bool false), (29, .int .i64 k)] ++ borderL' k ++ borderE k)) H
    else K (.exit 0) ((25, .bool false) :: borderE k) (borderH cs) := by kernel_rfl
def foilV : Value := .agg ⟨[.complex .f64 13817043656772681728 4593671619917905920, .float .f64 4607182418800017408, .complex .f64 4611686018427387904 13821547256400052224]⟩
def border0E : Env := [(24, .int .i64 0), (23, .int .i64 4096), (8, .slice (some ⟨6, 0, none⟩) 0 4096), (22, .slice (some ⟨6, 0, none⟩) 0 4096), (21, .int .i64 4096), (7, .pointer (some ⟨4, 0, none⟩)), (20, .pointer (some ⟨4, 0, none⟩)),
  (19, foilV), (17, .bool false), (16, .int .i64 0), (6, .int .i64 0), (15, .int .i64 0), (14, .int .i64 4096), (13, foilV), (5, .int .i64 0), (4, .slice none 0 0), (2, .pointer (some ⟨0, 0, none⟩)), (0, foilV), (1, .int .i64 4096)]
def foilC : List Value := [.complex .f64 13817043656772681728 4593671619917905920, .float .f64 4607182418800017408, .complex .f64 4611686018427387904 13821547256400052224]
def border0H : AH := ⟨7, (6, .cells (repeatE [.complex .f64 0 0] 4096) 0) :: (borderO ++ [(1, .cells foilC 0), (0, .cells foilC 0)])⟩
noncomputable def restOf : Code → Code
  | .seq _ (.seq _ (.seq _ (.seq _ (.seq _ r)))) => r
  | _ => .skip
def after {R : Type} (g : Env → AH → Option R) (K : Ex → Env → AH → Option R) : Ex → Env → AH → Option R := fun ex e H => match ex with
  | .normal => g e H
  | ex => K ex e H
def leave {R : Type} (id : Nat) (K : Ex → Env → AH → Option R) : Ex → Env → AH → Option R := fun ex e H => match ex with
  | .exit j => bif Nat.beq j id then K .normal e H else K (.exit j) e H
  | ex => K ex e H
theorem border_top (L : Hand) (R : Type) (pl : KFFC) (sub add : KCCC) (an : KFFF) (at_ : KMZC) (K : Ex → Env → AH → Option R) :
    evTop (cx Tryz.prog (borderT pl sub add an at_)) 100 L 0 58 borderCode (enumE 0 [foilV, .int .i64 4096]) ⟨0, []⟩ K =
    L R 0 58 borderLoop border0E border0H (leave 0 (after (fun e H => evTop (cx Tryz.prog (borderT pl sub add an at_)) 100 L 0 58 (restOf borderCode) e H K) K)) := by kernel_rfl
end Go.Vm
namespace Go.Vm
open Ieee
set_option linter.unusedVariables false
set_option linter.unusedSimpArgs false

/-! ### Magnitudes: floats that are at most a power of two -/
def Mag (e : Int) (w : Nat) : Prop := ∃ x, Is w x ∧ x.abs ≤ (2 : Rat) ^ e

theorem Mag.mono {e f : Int} {w : Nat} (h : Mag e w) (hf : e ≤ f) : Mag f w := let ⟨x, h1, h2⟩ := h; ⟨x, h1, Rat.le_trans h2 (p2_le hf)⟩

theorem mul_mono' {x y a b : Rat} (h1 : x ≤ a) (h2 : y ≤ b) (hy : 0 ≤ y) (ha : 0 ≤ a) : x * y ≤ a * b :=
  Rat.le_trans (Rat.mul_le_mul_of_nonneg_right h1 hy) (Rat.mul_le_mul_of_nonneg_left h2 ha)

/-- what is rounded stays below twice the power -/
theorem rnd_mag {x z : Rat} {e : Int} (h : Rnd x z) (hx : x.abs ≤ (2 : Rat) ^ e) (he : -500 ≤ e) : z.abs ≤ (2 : Rat) ^ (e + 1) := by
  have h1 : (z - x).abs ≤ (2 : Rat) ^ e := by
    rcases h.near with h | h
    · have : x.abs * (2 : Rat) ^ (-53 : Int) ≤ (2 : Rat) ^ e * 1 := mul_mono' hx (by have := p2_le (p := -53) (q := 0) (by decide); simpa using this) (Rat.le_of_lt (p2_pos _)) (Rat.le_of_lt (p2_pos _))
      grind
    · exact Rat.le_trans h (p2_le (by omega))
  have h2 := abs_near h1
  rw [p2_succ]
  grind

theorem lt_1023_of {x : Rat} {e : Int} (h : x.abs ≤ (2 : Rat) ^ e) (he : e ≤ 1000) : x.abs < (2 : Rat) ^ (1023 : Int) := by
  have h1 := p2_le he
  have h2 : (2 : Rat) ^ (1000 : Int) < (2 : Rat) ^ (1023 : Int) := by
    have : (2 : Rat) ^ (1000 + 1 : Int) ≤ (2 : Rat) ^ (1023 : Int) := p2_le (by decide)
    rw [p2_succ] at this
    have := p2_pos 1000
    grind
  grind

theorem mag_mul {a b : Nat} {e f : Int} (ha : Mag e a) (hb : Mag f b) (h1 : -500 ≤ e + f) (h2 : e + f ≤ 1000) : ∃ c, fbF .mul a b = some c ∧ Mag (e + f + 1) c := by
  obtain ⟨x, ax, bx⟩ := ha
  obtain ⟨y, ay, by'⟩ := hb
  have hxy : (x * y).abs ≤ (2 : Rat) ^ (e + f) := by
    rw [abs_mul, p2_add]
    exact mul_mono' bx by' (abs_nonneg _) (Rat.le_of_lt (p2_pos _))
  obtain ⟨r, z, g1, g2, g3⟩ := mul_is ax ay (lt_1023_of hxy h2)
  exact ⟨r, g1, z, g2, rnd_mag g3 hxy h1⟩

theorem mag_add {a b : Nat} {e f g : Int} (ha : Mag e a) (hb : Mag f b) (he : e ≤ g) (hf : f ≤ g) (h1 : -500 ≤ g) (h2 : g ≤ 900) : ∃ c, fbF .add a b = some c ∧ Mag (g + 2) c := by
  obtain ⟨x, ax, bx⟩ := ha.mono he
  obtain ⟨y, ay, by'⟩ := hb.mono hf
  have hxy : (x + y).abs ≤ (2 : Rat) ^ (g + 1) := by
    have := abs_add_le x y
    rw [p2_succ]
    grind
  obtain ⟨r, z, g1, g2, g3⟩ := add_is ax ay (lt_1023_of hxy (by omega))
  exact ⟨r, g1, z, g2, (by have := rnd_mag g3 hxy (by omega); rw [show g + 2 = g + 1 + 1 by omega]; exact this)⟩

theorem mag_sub {a b : Nat} {e f g : Int} (ha : Mag e a) (hb : Mag f b) (he : e ≤ g) (hf : f ≤ g) (h1 : -500 ≤ g) (h2 : g ≤ 900) : ∃ c, fbF .sub a b = some c ∧ Mag (g + 2) c := by
  obtain ⟨x, ax, bx⟩ := ha.mono he
  obtain ⟨y, ay, by'⟩ := hb.mono hf
  have hxy : (x - y).abs ≤ (2 : Rat) ^ (g + 1) := by
    have := abs_add_le x (-y)
    rw [abs_neg, show x + -y = x - y by grind] at this
    rw [p2_succ]
    grind
  obtain ⟨r, z, g1, g2, g3⟩ := sub_is ax ay (lt_1023_of hxy (by omega))
  exact ⟨r, g1, z, g2, (by have := rnd_mag g3 hxy (by omega); rw [show g + 2 = g + 1 + 1 by omega]; exact this)⟩

theorem mag_quo {a b : Nat} {e f : Int} {y : Rat} (ha : Mag e a) (hb : Is b y) (hf : (2 : Rat) ^ f ≤ y.abs) (h1 : -500 ≤ e - f) (h2 : e - f ≤ 900) : ∃ c, fbF .quo a b = some c ∧ Mag (e - f + 1) c := by
  obtain ⟨x, ax, bx⟩ := ha
  have hy0 : 0 < y.abs := by have := p2_pos f; grind
  have hy : y ≠ 0 := by rintro rfl; rw [abs_zero] at hy0; grind
  have hq : (x / y).abs * y.abs = x.abs := by
    rw [← abs_mul]
    congr 1
    rw [Rat.div_def, Rat.mul_assoc, Rat.inv_mul_cancel _ hy, Rat.mul_one]
  have hq2 : (x / y).abs ≤ (2 : Rat) ^ (e - f) := by
    refine Rat.le_of_mul_le_mul_right (c := y.abs) ?_ hy0
    rw [hq]
    refine Rat.le_trans bx ?_
    rw [show (2 : Rat) ^ e = (2 : Rat) ^ (e - f) * (2 : Rat) ^ f by rw [← p2_add]; congr 1; omega]
    exact Rat.mul_le_mul_of_nonneg_left hf (Rat.le_of_lt (p2_pos _))
  obtain ⟨r, z, g1, g2, g3⟩ := div_is ax hb hy (by
    have h3 := p2_le (p := e - f) (q := 900) h2
    have h4 : (2 : Rat) ^ (900 + 1 : Int) ≤ (2 : Rat) ^ (1022 : Int) := p2_le (by decide)
    rw [p2_succ] at h4
    have := p2_pos 900
    grind)
  refine ⟨r, g1, z, g2, ?_⟩
  have h1' : (z - x / y).abs ≤ (2 : Rat) ^ (e - f) := by
    rcases g3.near with h | h
    · have : (x / y).abs * (2 : Rat) ^ (-52 : Int) ≤ (2 : Rat) ^ (e - f) * 1 := mul_mono' hq2 (by have := p2_le (p := -52) (q := 0) (by decide); simpa using this) (Rat.le_of_lt (p2_pos _)) (Rat.le_of_lt (p2_pos _))
      grind
    · exact Rat.le_trans h (p2_le (by omega))
  have h2' := abs_near h1'
  rw [p2_succ]
  grind

/-- a word that is written out -/
theorem mag_word {w : Nat} {e : Int} (h1 : w < 2 ^ 64) (h2 : w % 2 ^ 63 < 2047 * 2 ^ 52) (h3 : ((w % 2 ^ 63 / 2 ^ 52 : Nat) : Int) - 1022 ≤ e) (h4 : -1022 ≤ e) : Mag e w := by
  have e1 : double.signWeight = 2 ^ 63 := by decide
  have e2 : double.binade = 2 ^ 52 := by decide
  have e3 : double.infRung = 2047 * 2 ^ 52 := by decide
  have e4 : double.leastPlace = -1074 := by decide
  by_cases hs : w % 2 ^ 63 < 2 ^ 52
  · refine ⟨dv (w / 2 ^ 63 % 2 == 1) (w % 2 ^ 63) (-1074), ⟨h1, _, _, _, ?_, rfl⟩, ?_⟩
    · unfold Format.read
      simp only [e1, e2, e3, e4]
      rw [if_pos hs]
    · rw [dv_abs]
      have : ((w % 2 ^ 63 : Nat) : Rat) * (2 : Rat) ^ (-1074 : Int) ≤ ((2 ^ 52 : Nat) : Rat) * (2 : Rat) ^ (-1074 : Int) := Rat.mul_le_mul_of_nonneg_right (nat_cast_le (Nat.le_of_lt hs)) (Rat.le_of_lt (p2_pos _))
      rw [← p2_nat, ← p2_add] at this
      exact Rat.le_trans this (p2_le (by omega))
  · refine ⟨dv (w / 2 ^ 63 % 2 == 1) (2 ^ 52 + w % 2 ^ 63 % 2 ^ 52) (-1074 + (w % 2 ^ 63 / 2 ^ 52 - 1 : Nat)), ⟨h1, _, _, _, ?_, rfl⟩, ?_⟩
    · unfold Format.read
      simp only [e1, e2, e3, e4]
      rw [if_neg hs, if_pos h2]
    · rw [dv_abs]
      have hlt : 2 ^ 52 + w % 2 ^ 63 % 2 ^ 52 ≤ 2 ^ 53 := by have := Nat.mod_lt (w % 2 ^ 63) (show 0 < 2 ^ 52 by decide); omega
      have := Rat.mul_le_mul_of_nonneg_right (nat_cast_le hlt) (Rat.le_of_lt (p2_pos (-1074 + (w % 2 ^ 63 / 2 ^ 52 - 1 : Nat))))
      rw [← p2_nat, ← p2_add] at this
      exact Rat.le_trans this (p2_le (by omega))

def magB (e : Int) (w : Nat) : Bool := decide (w < 2 ^ 64) && decide (w % 2 ^ 63 < 2047 * 2 ^ 52) && decide (((w % 2 ^ 63 / 2 ^ 52 : Nat) : Int) - 1022 ≤ e) && decide (-1022 ≤ e)
theorem mag_lit {e : Int} {w : Nat} (h : magB e w = true) : Mag e w := by
  unfold magB at h
  simp only [Bool.and_eq_true, decide_eq_true_eq] at h
  exact mag_word h.1.1.1 h.1.1.2 h.1.2 h.2
theorem mag_lits {e : Int} {l : List Nat} (h : l.all (magB e) = true) : ∀ r ∈ l, Mag e r := fun r hr => mag_lit (List.all_eq_true.1 h r hr)

/-! ### Series -/
theorem series_mag {z : Nat} {f : Int} (hz : Mag f z) (hf : 0 ≤ f) : ∀ (l : List Nat) (s : Nat) (e : Int), (∀ r ∈ l, Mag 1 r) → Mag e s → 0 ≤ e → e + (f + 3) * l.length ≤ 800 →
    ∃ s', Mag (e + (f + 3) * l.length) s' ∧ ∀ (R : Type) (k : Nat → Option R), series z l s k = k s'
  | [], s, e, _, hs, _, _ => ⟨s, by simpa using hs, fun R k => rfl⟩
  | r :: l, s, e, hl, hs, he, hb => by
    have hlen : ((r :: l).length : Int) = l.length + 1 := by simp
    rw [hlen] at hb ⊢
    have hnn : 0 ≤ (f + 3) * (l.length : Int) := Int.mul_nonneg (by omega) (by omega)
    rw [Int.mul_add, Int.mul_one] at hb ⊢
    obtain ⟨p, p1, p2⟩ := mag_mul hz hs (by omega) (by omega)
    obtain ⟨q, q1, q2⟩ := mag_sub (hl r (by simp)) p2 (g := f + e + 1) (by omega) (by omega) (by omega) (by omega)
    obtain ⟨s', h1, h2⟩ := series_mag hz hf l q (f + e + 3) (fun r hr => hl r (by simp [hr])) (by rw [show f + e + 3 = f + e + 1 + 2 by omega]; exact q2) (by omega) (by omega)
    refine ⟨s', by rw [show e + ((f + 3) * (l.length : Int) + (f + 3)) = f + e + 3 + (f + 3) * (l.length : Int) by omega]; exact h1, fun R k => ?_⟩
    show bindF (fbF .mul z s) (fun p => bindF (fbF .sub r p) fun s => series z l s k) = k s'
    rw [bindF_eq p1, bindF_eq q1, h2]

theorem seriesP_mag {z : Nat} {f : Int} (hz : Mag f z) (hf : 0 ≤ f) : ∀ (l : List Nat) (s : Nat) (e : Int), (∀ r ∈ l, Mag 1 r) → Mag e s → 0 ≤ e → e + (f + 3) * l.length ≤ 800 →
    ∃ s', Mag (e + (f + 3) * l.length) s' ∧ ∀ (R : Type) (k : Nat → Option R), seriesP z l s k = k s'
  | [], s, e, _, hs, _, _ => ⟨s, by simpa using hs, fun R k => rfl⟩
  | r :: l, s, e, hl, hs, he, hb => by
    have hlen : ((r :: l).length : Int) = l.length + 1 := by simp
    rw [hlen] at hb ⊢
    have hnn : 0 ≤ (f + 3) * (l.length : Int) := Int.mul_nonneg (by omega) (by omega)
    rw [Int.mul_add, Int.mul_one] at hb ⊢
    obtain ⟨p, p1, p2⟩ := mag_mul hz hs (by omega) (by omega)
    obtain ⟨q, q1, q2⟩ := mag_add (hl r (by simp)) p2 (g := f + e + 1) (by omega) (by omega) (by omega) (by omega)
    obtain ⟨s', h1, h2⟩ := seriesP_mag hz hf l q (f + e + 3) (fun r hr => hl r (by simp [hr])) (by rw [show f + e + 3 = f + e + 1 + 2 by omega]; exact q2) (by omega) (by omega)
    refine ⟨s', by rw [show e + ((f + 3) * (l.length : Int) + (f + 3)) = f + e + 3 + (f + 3) * (l.length : Int) by omega]; exact h1, fun R k => ?_⟩
    show bindF (fbF .mul z s) (fun p => bindF (fbF .add r p) fun s => seriesP z l s k) = k s'
    rw [bindF_eq p1, bindF_eq q1, h2]
end Go.Vm
namespace Go.Vm
open Ieee
set_option linter.unusedVariables false
set_option linter.unusedSimpArgs false

/-! ### Angles always come -/
theorem core_all : coreList.all (magB 1) = true := by kernel_rfl
theorem odd_all : oddList.all (magB 1) = true := by kernel_rfl
theorem core_len : coreList.length = 25 := rfl
theorem odd_len : oddList.length = 11 := rfl

theorem mag_zero {e : Int} (he : -1022 ≤ e) : Mag e 0 := mag_word (by decide) (by decide) (by simp; omega) he

/-- one more than what is not below nought -/
theorem add_one {t : Nat} {x : Rat} (ht : Is t x) (h0 : 0 ≤ x) (h1 : x ≤ 4) : ∃ e z, fbF .add t 4607182418800017408 = some e ∧ Is e z ∧ (2 : Rat) ^ (-1 : Int) ≤ z.abs := by
  have i1 : Is 4607182418800017408 ((1 : Int) : Rat) := by
    have := ofInt_is (n := 1) (by decide)
    rw [show floatOfInt .f64 1 = 4607182418800017408 by decide] at this
    exact this
  have hx : (x + ((1 : Int) : Rat)).abs ≤ (2 : Rat) ^ (3 : Int) := by
    rw [Rat.abs_of_nonneg (by push_cast; grind)]
    have : (2 : Rat) ^ (3 : Int) = 8 := by decide
    rw [this]; push_cast; grind
  obtain ⟨e, z, g1, g2, g3⟩ := add_is ht i1 (lt_1023_of hx (by decide))
  refine ⟨e, z, g1, g2, ?_⟩
  have hc := g3.coarse
  rw [Rat.abs_of_nonneg (x := x + ((1 : Int) : Rat)) (by push_cast; grind)] at hc
  have hs : (2 : Rat) ^ (-1075 : Int) ≤ 1 / 1000 := p2_small (by decide)
  have h2 := abs_le_iff.1 hc
  have hh : (1 : Rat) = 2 * (2 : Rat) ^ (-1 : Int) := by have := p2_half 0; simpa using this
  have h3 := abs_le_self z
  have h4 : ((1 : Int) : Rat) = 1 := by norm_cast
  rw [h4] at h2
  generalize (2 : Rat) ^ (-1075 : Int) = q at *
  generalize (2 : Rat) ^ (-1 : Int) = q2 at *
  clear g1 g2 g3 hc i1 ht hx
  grind

theorem coreK_tot {t : Nat} {x : Rat} (ht : Is t x) (h0 : 0 ≤ x) (h1 : x ≤ 4) : ∃ c, Mag 700 c ∧ ∀ (R : Type) (k : Nat → Option R), coreK R t k = k c := by
  have mt : Mag 2 t := ⟨x, ht, by rw [Rat.abs_of_nonneg h0, show (2 : Rat) ^ (2 : Int) = 4 by decide]; exact h1⟩
  cases hg : gtF t 4601130706800738304 with
  | true =>
    obtain ⟨d, d1, d2⟩ := mag_sub (b := 4607182418800017408) mt (mag_lit (e := 1) (by decide)) (g := 2) (by decide) (by decide) (by decide) (by decide)
    obtain ⟨e, z, e1, e2, e3⟩ := add_one ht h0 h1
    obtain ⟨u, u1, u2⟩ := mag_quo d2 e2 e3 (by decide) (by decide)
    obtain ⟨s2, s1, s3⟩ := mag_mul u2 u2 (by decide) (by decide)
    obtain ⟨s, q1, q2⟩ := series_mag s3 (by decide) coreList 0 0 (mag_lits core_all) (mag_zero (by decide)) (by decide) (by rw [core_len]; decide)
    rw [core_len] at q1
    obtain ⟨v, v1, v2⟩ := mag_mul u2 q1 (by decide) (by decide)
    obtain ⟨y, y1, y2⟩ := mag_add (b := 4359948597267291143) v2 (mag_lit (e := 1) (by decide)) (g := 600) (by decide) (by decide) (by decide) (by decide)
    obtain ⟨c, c1, c2⟩ := mag_add (a := 4605249457297304856) (mag_lit (e := 1) (by decide)) y2 (g := 650) (by decide) (by decide) (by decide) (by decide)
    refine ⟨c, c2.mono (by decide), fun R k => ?_⟩
    unfold coreK
    rw [hg, forceB_eq]
    simp only
    rw [bindF_eq d1, bindF_eq e1, bindF_eq u1, bindF_eq s1, q2, bindF_eq v1, bindF_eq y1, bindF_eq c1]
  | false =>
    obtain ⟨s2, s1, s3⟩ := mag_mul mt mt (by decide) (by decide)
    obtain ⟨s, q1, q2⟩ := series_mag s3 (by decide) coreList 0 0 (mag_lits core_all) (mag_zero (by decide)) (by decide) (by rw [core_len]; decide)
    rw [core_len] at q1
    obtain ⟨v, v1, v2⟩ := mag_mul mt q1 (by decide) (by decide)
    refine ⟨v, v2.mono (by decide), fun R k => ?_⟩
    unfold coreK
    rw [hg, forceB_eq]
    simp only
    rw [bindF_eq s1, q2, bindF_eq v1]

theorem oddK_tot {t : Nat} (mt : Mag 3 t) : ∃ c, Mag 300 c ∧ ∀ (R : Type) (k : Nat → Option R), oddK R t k = k c := by
  obtain ⟨s, s1, s3⟩ := mag_mul mt mt (by decide) (by decide)
  obtain ⟨q, q1, q2⟩ := seriesP_mag s3 (by decide) oddList 4585925428558828667 1 (mag_lits odd_all) (mag_lit (by decide)) (by decide) (by rw [odd_len]; decide)
  rw [odd_len] at q1
  obtain ⟨a, a1, a2⟩ := mag_mul (a := 4611686018427387904) (mag_lit (e := 2) (by decide)) mt (by decide) (by decide)
  obtain ⟨x, x1, x2⟩ := mag_mul s3 q1 (by decide) (by decide)
  obtain ⟨y, y1, y2⟩ := mag_mul a2 x2 (by decide) (by decide)
  obtain ⟨c, c1, c2⟩ := mag_add a2 y2 (g := 250) (by decide) (by decide) (by decide) (by decide)
  refine ⟨c, c2.mono (by decide), fun R k => ?_⟩
  unfold oddK
  rw [bindF_eq s1, q2, bindF_eq a1, bindF_eq x1, bindF_eq y1, bindF_eq c1]
end Go.Vm
namespace Go.Vm
set_option linter.unusedVariables false

/-! ### ElementMoved: what stands in its functions' places -/
def roundK (way : Ieee.Toward) : KFF := fun R x k => match Ieee.double.read x with
  | .nan _ _ => none
  | d => forceN (Ieee.double.write (d.integral way)) k
def wholeB (tr : KFF) : KFB := fun R p k => tr R p fun y => forceB (eqF y p) fun t => k t
def wholeK : KFB := wholeB (roundK .zero)
def checkE : KEI := checkB placeK withinK noughtK wholeK
def wyK : ∀ R : Type, Nat → Option R → Option R := fun R p x => wholeK R p fun t => match t with | true => x | false => none
def wnK : ∀ R : Type, Nat → Option R → Option R := fun R p x => wholeK R p fun t => match t with | true => none | false => x
def smM : KGB := fun R x y k => forceB (decide (x ≥ -1000)) fun t => match t with
  | false => k false
  | true => forceB (decide (x ≤ 1000)) fun t => match t with
    | false => k false
    | true => forceB (decide (y ≥ -1000)) fun t => match t with
      | false => k false
      | true => forceB (decide (y ≤ 1000)) fun t => k t
def fitK : KFB := fun R x k => withinK R x 4697254411347427328 fun t => forceB t fun t => k t
def quarterK : KFFI2 := quarterB fiReal fitK (roundK .even) lessK
def turnK : KFF2 := turnB quarterK stepsK
def expK : KFF := expB fiReal (roundK .even) risingK scaleK
def cexpK : KCC := cexpB expK turnK
def realK : KCFC := realB powLogK sclK cexpK
/-- whole powers from 0 to 10 -/
def wpowK : KW := fun R a b n k =>
  bif n == 0 then k 4607182418800017408 0 else bif n == 1 then k a b else bif n == 2 then wsteps mulK a b (wbits 2) a b k else bif n == 3 then wsteps mulK a b (wbits 3) a b k
  else bif n == 4 then wsteps mulK a b (wbits 4) a b k else bif n == 5 then wsteps mulK a b (wbits 5) a b k else bif n == 6 then wsteps mulK a b (wbits 6) a b k
  else bif n == 7 then wsteps mulK a b (wbits 7) a b k else bif n == 8 then wsteps mulK a b (wbits 8) a b k else bif n == 9 then wsteps mulK a b (wbits 9) a b k
  else bif n == 10 then wsteps mulK a b (wbits 10) a b k else none
def movT : KMov := fun R kind a1 a2 s1 s2 p b1 b2 er ok => movB checkE placeK addK R kind a1 a2 s1 s2 p b1 b2 (fun _ => none) ok

/-! ### Potential, Speed, Slope -/
def vS0 {R : Type} (a1 a2 s1 s2 p z1 z2 : Nat) (er : Int → Option R) (ok : Nat → Nat → Option R) : Option R := valP (checkB placeK withinK noughtK wholeK) placeK noughtK subK 1 p (fun x => x) a1 a2 s1 s2 z1 z2 er (fun d1 d2 => mulK R s1 s2 z1 z2 (toldE FiniteK er ok)) (fun d1 d2 => mulK R s1 s2 z1 z2 (toldE FiniteK er ok))
def vO0 {R : Type} (a1 a2 s1 s2 p z1 z2 : Nat) (er : Int → Option R) (ok : Nat → Nat → Option R) : Option R := valO (checkB placeK withinK noughtK wholeK) placeK noughtK subK sclK a1 a2 s1 s2 p z1 z2 er (fun c1 c2 d1 d2 => powLogK R d1 d2 fun l1 l2 => mulK R c1 c2 l1 l2 (toldE FiniteK er ok))
def vD0_1 {R : Type} (a1 a2 s1 s2 p z1 z2 : Nat) (er : Int → Option R) (ok : Nat → Nat → Option R) : Option R := valP (checkB placeK withinK noughtK wholeK) placeK noughtK subK 3 4607182418800017408 (fun x => x) a1 a2 s1 s2 z1 z2 er (fun _ _ => er 6) (fun d1 d2 => leafD divK sclK wpowK none 1 s1 s2 d1 d2 (toldE FiniteK er ok))
def vD0_2 {R : Type} (a1 a2 s1 s2 p z1 z2 : Nat) (er : Int → Option R) (ok : Nat → Nat → Option R) : Option R := valP (checkB placeK withinK noughtK wholeK) placeK noughtK subK 3 4611686018427387904 (fun x => x) a1 a2 s1 s2 z1 z2 er (fun _ _ => er 6) (fun d1 d2 => leafD divK sclK wpowK none 2 s1 s2 d1 d2 (toldE FiniteK er ok))
def vD0_3 {R : Type} (a1 a2 s1 s2 p z1 z2 : Nat) (er : Int → Option R) (ok : Nat → Nat → Option R) : Option R := valP (checkB placeK withinK noughtK wholeK) placeK noughtK subK 3 4613937818241073152 (fun x => x) a1 a2 s1 s2 z1 z2 er (fun _ _ => er 6) (fun d1 d2 => leafD divK sclK wpowK none 3 s1 s2 d1 d2 (toldE FiniteK er ok))
def vD0_4 {R : Type} (a1 a2 s1 s2 p z1 z2 : Nat) (er : Int → Option R) (ok : Nat → Nat → Option R) : Option R := valP (checkB placeK withinK noughtK wholeK) placeK noughtK subK 3 4616189618054758400 (fun x => x) a1 a2 s1 s2 z1 z2 er (fun _ _ => er 6) (fun d1 d2 => leafD divK sclK wpowK none 4 s1 s2 d1 d2 (toldE FiniteK er ok))
def vD0_5 {R : Type} (a1 a2 s1 s2 p z1 z2 : Nat) (er : Int → Option R) (ok : Nat → Nat → Option R) : Option R := valP (checkB placeK withinK noughtK wholeK) placeK noughtK subK 3 4617315517961601024 (fun x => x) a1 a2 s1 s2 z1 z2 er (fun _ _ => er 6) (fun d1 d2 => leafD divK sclK wpowK none 5 s1 s2 d1 d2 (toldE FiniteK er ok))
def vD0_6 {R : Type} (a1 a2 s1 s2 p z1 z2 : Nat) (er : Int → Option R) (ok : Nat → Nat → Option R) : Option R := valP (checkB placeK withinK noughtK wholeK) placeK noughtK subK 3 4618441417868443648 (fun x => x) a1 a2 s1 s2 z1 z2 er (fun _ _ => er 6) (fun d1 d2 => leafD divK sclK wpowK none 6 s1 s2 d1 d2 (toldE FiniteK er ok))
def vD0_7 {R : Type} (a1 a2 s1 s2 p z1 z2 : Nat) (er : Int → Option R) (ok : Nat → Nat → Option R) : Option R := valP (checkB placeK withinK noughtK wholeK) placeK noughtK subK 3 4619567317775286272 (fun x => x) a1 a2 s1 s2 z1 z2 er (fun _ _ => er 6) (fun d1 d2 => leafD divK sclK wpowK none 7 s1 s2 d1 d2 (toldE FiniteK er ok))
def vD0_8 {R : Type} (a1 a2 s1 s2 p z1 z2 : Nat) (er : Int → Option R) (ok : Nat → Nat → Option R) : Option R := valP (checkB placeK withinK noughtK wholeK) placeK noughtK subK 3 4620693217682128896 (fun x => x) a1 a2 s1 s2 z1 z2 er (fun _ _ => er 6) (fun d1 d2 => leafD divK sclK wpowK none 8 s1 s2 d1 d2 (toldE FiniteK er ok))
def vC0_1 {R : Type} (a1 a2 s1 s2 p z1 z2 : Nat) (er : Int → Option R) (ok : Nat → Nat → Option R) : Option R := valP (checkB placeK withinK noughtK wholeK) placeK noughtK subK 4 4607182418800017408 (wyK R 4607182418800017408) a1 a2 s1 s2 z1 z2 er (fun d1 d2 => leafC mulK sclK wpowK none 1 s1 s2 d1 d2 (toldE FiniteK er ok)) (fun d1 d2 => leafC mulK sclK wpowK none 1 s1 s2 d1 d2 (toldE FiniteK er ok))
def vC0_2 {R : Type} (a1 a2 s1 s2 p z1 z2 : Nat) (er : Int → Option R) (ok : Nat → Nat → Option R) : Option R := valP (checkB placeK withinK noughtK wholeK) placeK noughtK subK 4 4611686018427387904 (wyK R 4611686018427387904) a1 a2 s1 s2 z1 z2 er (fun d1 d2 => leafC mulK sclK wpowK none 2 s1 s2 d1 d2 (toldE FiniteK er ok)) (fun d1 d2 => leafC mulK sclK wpowK none 2 s1 s2 d1 d2 (toldE FiniteK er ok))
def vC0_3 {R : Type} (a1 a2 s1 s2 p z1 z2 : Nat) (er : Int → Option R) (ok : Nat → Nat → Option R) : Option R := valP (checkB placeK withinK noughtK wholeK) placeK noughtK subK 4 4613937818241073152 (wyK R 4613937818241073152) a1 a2 s1 s2 z1 z2 er (fun d1 d2 => leafC mulK sclK wpowK none 3 s1 s2 d1 d2 (toldE FiniteK er ok)) (fun d1 d2 => leafC mulK sclK wpowK none 3 s1 s2 d1 d2 (toldE FiniteK er ok))
def vC0_4 {R : Type} (a1 a2 s1 s2 p z1 z2 : Nat) (er : Int → Option R) (ok : Nat → Nat → Option R) : Option R := valP (checkB placeK withinK noughtK wholeK) placeK noughtK subK 4 4616189618054758400 (wyK R 4616189618054758400) a1 a2 s1 s2 z1 z2 er (fun d1 d2 => leafC mulK sclK wpowK none 4 s1 s2 d1 d2 (toldE FiniteK er ok)) (fun d1 d2 => leafC mulK sclK wpowK none 4 s1 s2 d1 d2 (toldE FiniteK er ok))
def vB0 {R : Type} (a1 a2 s1 s2 p z1 z2 : Nat) (er : Int → Option R) (ok : Nat → Nat → Option R) : Option R := valP (checkB placeK withinK noughtK wholeK) placeK noughtK subK 4 p (wnK R p) a1 a2 s1 s2 z1 z2 er (fun _ _ => midB 0 p er) (fun d1 d2 => leafB0 mulK realK p s1 s2 d1 d2 (toldE FiniteK er ok))
def vD0 {R : Type} (a1 a2 s1 s2 p z1 z2 : Nat) (er : Int → Option R) (ok : Nat → Nat → Option R) : Option R :=
  bif Nat.beq p 4607182418800017408 then vD0_1 a1 a2 s1 s2 p z1 z2 er ok
  else bif Nat.beq p 4611686018427387904 then vD0_2 a1 a2 s1 s2 p z1 z2 er ok
  else bif Nat.beq p 4613937818241073152 then vD0_3 a1 a2 s1 s2 p z1 z2 er ok
  else bif Nat.beq p 4616189618054758400 then vD0_4 a1 a2 s1 s2 p z1 z2 er ok
  else bif Nat.beq p 4617315517961601024 then vD0_5 a1 a2 s1 s2 p z1 z2 er ok
  else bif Nat.beq p 4618441417868443648 then vD0_6 a1 a2 s1 s2 p z1 z2 er ok
  else bif Nat.beq p 4619567317775286272 then vD0_7 a1 a2 s1 s2 p z1 z2 er ok
  else bif Nat.beq p 4620693217682128896 then vD0_8 a1 a2 s1 s2 p z1 z2 er ok
  else none
def vC0 {R : Type} (a1 a2 s1 s2 p z1 z2 : Nat) (er : Int → Option R) (ok : Nat → Nat → Option R) : Option R :=
  bif Nat.beq p 4607182418800017408 then vC0_1 a1 a2 s1 s2 p z1 z2 er ok
  else bif Nat.beq p 4611686018427387904 then vC0_2 a1 a2 s1 s2 p z1 z2 er ok
  else bif Nat.beq p 4613937818241073152 then vC0_3 a1 a2 s1 s2 p z1 z2 er ok
  else bif Nat.beq p 4616189618054758400 then vC0_4 a1 a2 s1 s2 p z1 z2 er ok
  else vB0 a1 a2 s1 s2 p z1 z2 er ok
def potK' {R : Type} (kind : Int) (a1 a2 s1 s2 p z1 z2 : Nat) (er : Int → Option R) (ok : Nat → Nat → Option R) : Option R :=
  bif kind == 1 then vS0 a1 a2 s1 s2 p z1 z2 er ok else bif kind == 2 then vO0 a1 a2 s1 s2 p z1 z2 er ok else bif kind == 3 then vD0 a1 a2 s1 s2 p z1 z2 er ok else bif kind == 4 then vC0 a1 a2 s1 s2 p z1 z2 er ok else none
def potK : KVal := fun R kind a1 a2 s1 s2 p z1 z2 k => potK' kind a1 a2 s1 s2 p z1 z2 (fun e => k 0 0 e) (fun x y => k x y 0)
def vS1 {R : Type} (a1 a2 s1 s2 p z1 z2 : Nat) (er : Int → Option R) (ok : Nat → Nat → Option R) : Option R := valP (checkB placeK withinK noughtK wholeK) placeK noughtK subK 1 p (fun x => x) a1 a2 s1 s2 z1 z2 er (fun d1 d2 => (toldE FiniteK er ok) s1 s2) (fun d1 d2 => (toldE FiniteK er ok) s1 s2)
def vO1 {R : Type} (a1 a2 s1 s2 p z1 z2 : Nat) (er : Int → Option R) (ok : Nat → Nat → Option R) : Option R := valO (checkB placeK withinK noughtK wholeK) placeK noughtK subK sclK a1 a2 s1 s2 p z1 z2 er (fun c1 c2 d1 d2 => divK R c1 c2 d1 d2 (toldE FiniteK er ok))
def vD1_1 {R : Type} (a1 a2 s1 s2 p z1 z2 : Nat) (er : Int → Option R) (ok : Nat → Nat → Option R) : Option R := valP (checkB placeK withinK noughtK wholeK) placeK noughtK subK 3 4607182418800017408 (fun x => x) a1 a2 s1 s2 z1 z2 er (fun _ _ => er 6) (fun d1 d2 => leafD divK sclK wpowK (some 13830554455654793216) 2 s1 s2 d1 d2 (toldE FiniteK er ok))
def vD1_2 {R : Type} (a1 a2 s1 s2 p z1 z2 : Nat) (er : Int → Option R) (ok : Nat → Nat → Option R) : Option R := valP (checkB placeK withinK noughtK wholeK) placeK noughtK subK 3 4611686018427387904 (fun x => x) a1 a2 s1 s2 z1 z2 er (fun _ _ => er 6) (fun d1 d2 => leafD divK sclK wpowK (some 13835058055282163712) 3 s1 s2 d1 d2 (toldE FiniteK er ok))
def vD1_3 {R : Type} (a1 a2 s1 s2 p z1 z2 : Nat) (er : Int → Option R) (ok : Nat → Nat → Option R) : Option R := valP (checkB placeK withinK noughtK wholeK) placeK noughtK subK 3 4613937818241073152 (fun x => x) a1 a2 s1 s2 z1 z2 er (fun _ _ => er 6) (fun d1 d2 => leafD divK sclK wpowK (some 13837309855095848960) 4 s1 s2 d1 d2 (toldE FiniteK er ok))
def vD1_4 {R : Type} (a1 a2 s1 s2 p z1 z2 : Nat) (er : Int → Option R) (ok : Nat → Nat → Option R) : Option R := valP (checkB placeK withinK noughtK wholeK) placeK noughtK subK 3 4616189618054758400 (fun x => x) a1 a2 s1 s2 z1 z2 er (fun _ _ => er 6) (fun d1 d2 => leafD divK sclK wpowK (some 13839561654909534208) 5 s1 s2 d1 d2 (toldE FiniteK er ok))
def vD1_5 {R : Type} (a1 a2 s1 s2 p z1 z2 : Nat) (er : Int → Option R) (ok : Nat → Nat → Option R) : Option R := valP (checkB placeK withinK noughtK wholeK) placeK noughtK subK 3 4617315517961601024 (fun x => x) a1 a2 s1 s2 z1 z2 er (fun _ _ => er 6) (fun d1 d2 => leafD divK sclK wpowK (some 13840687554816376832) 6 s1 s2 d1 d2 (toldE FiniteK er ok))
def vD1_6 {R : Type} (a1 a2 s1 s2 p z1 z2 : Nat) (er : Int → Option R) (ok : Nat → Nat → Option R) : Option R := valP (checkB placeK withinK noughtK wholeK) placeK noughtK subK 3 4618441417868443648 (fun x => x) a1 a2 s1 s2 z1 z2 er (fun _ _ => er 6) (fun d1 d2 => leafD divK sclK wpowK (some 13841813454723219456) 7 s1 s2 d1 d2 (toldE FiniteK er ok))
def vD1_7 {R : Type} (a1 a2 s1 s2 p z1 z2 : Nat) (er : Int → Option R) (ok : Nat → Nat → Option R) : Option R := valP (checkB placeK withinK noughtK wholeK) placeK noughtK subK 3 4619567317775286272 (fun x => x) a1 a2 s1 s2 z1 z2 er (fun _ _ => er 6) (fun d1 d2 => leafD divK sclK wpowK (some 13842939354630062080) 8 s1 s2 d1 d2 (toldE FiniteK er ok))
def vD1_8 {R : Type} (a1 a2 s1 s2 p z1 z2 : Nat) (er : Int → Option R) (ok : Nat → Nat → Option R) : Option R := valP (checkB placeK withinK noughtK wholeK) placeK noughtK subK 3 4620693217682128896 (fun x => x) a1 a2 s1 s2 z1 z2 er (fun _ _ => er 6) (fun d1 d2 => leafD divK sclK wpowK (some 13844065254536904704) 9 s1 s2 d1 d2 (toldE FiniteK er ok))
def vC1_1 {R : Type} (a1 a2 s1 s2 p z1 z2 : Nat) (er : Int → Option R) (ok : Nat → Nat → Option R) : Option R := valP (checkB placeK withinK noughtK wholeK) placeK noughtK subK 4 4607182418800017408 (wyK R 4607182418800017408) a1 a2 s1 s2 z1 z2 er (fun d1 d2 => leafC mulK sclK wpowK (some 4607182418800017408) 0 s1 s2 d1 d2 (toldE FiniteK er ok)) (fun d1 d2 => leafC mulK sclK wpowK (some 4607182418800017408) 0 s1 s2 d1 d2 (toldE FiniteK er ok))
def vC1_2 {R : Type} (a1 a2 s1 s2 p z1 z2 : Nat) (er : Int → Option R) (ok : Nat → Nat → Option R) : Option R := valP (checkB placeK withinK noughtK wholeK) placeK noughtK subK 4 4611686018427387904 (wyK R 4611686018427387904) a1 a2 s1 s2 z1 z2 er (fun d1 d2 => leafC mulK sclK wpowK (some 4611686018427387904) 1 s1 s2 d1 d2 (toldE FiniteK er ok)) (fun d1 d2 => leafC mulK sclK wpowK (some 4611686018427387904) 1 s1 s2 d1 d2 (toldE FiniteK er ok))
def vC1_3 {R : Type} (a1 a2 s1 s2 p z1 z2 : Nat) (er : Int → Option R) (ok : Nat → Nat → Option R) : Option R := valP (checkB placeK withinK noughtK wholeK) placeK noughtK subK 4 4613937818241073152 (wyK R 4613937818241073152) a1 a2 s1 s2 z1 z2 er (fun d1 d2 => leafC mulK sclK wpowK (some 4613937818241073152) 2 s1 s2 d1 d2 (toldE FiniteK er ok)) (fun d1 d2 => leafC mulK sclK wpowK (some 4613937818241073152) 2 s1 s2 d1 d2 (toldE FiniteK er ok))
def vC1_4 {R : Type} (a1 a2 s1 s2 p z1 z2 : Nat) (er : Int → Option R) (ok : Nat → Nat → Option R) : Option R := valP (checkB placeK withinK noughtK wholeK) placeK noughtK subK 4 4616189618054758400 (wyK R 4616189618054758400) a1 a2 s1 s2 z1 z2 er (fun d1 d2 => leafC mulK sclK wpowK (some 4616189618054758400) 3 s1 s2 d1 d2 (toldE FiniteK er ok)) (fun d1 d2 => leafC mulK sclK wpowK (some 4616189618054758400) 3 s1 s2 d1 d2 (toldE FiniteK er ok))
def vB1 {R : Type} (a1 a2 s1 s2 p z1 z2 : Nat) (er : Int → Option R) (ok : Nat → Nat → Option R) : Option R := valP (checkB placeK withinK noughtK wholeK) placeK noughtK subK 4 p (wnK R p) a1 a2 s1 s2 z1 z2 er (fun _ _ => midB 4607182418800017408 p er) (fun d1 d2 => leafB1 mulK sclK realK p s1 s2 d1 d2 (toldE FiniteK er ok))
def vD1 {R : Type} (a1 a2 s1 s2 p z1 z2 : Nat) (er : Int → Option R) (ok : Nat → Nat → Option R) : Option R :=
  bif Nat.beq p 4607182418800017408 then vD1_1 a1 a2 s1 s2 p z1 z2 er ok
  else bif Nat.beq p 4611686018427387904 then vD1_2 a1 a2 s1 s2 p z1 z2 er ok
  else bif Nat.beq p 4613937818241073152 then vD1_3 a1 a2 s1 s2 p z1 z2 er ok
  else bif Nat.beq p 4616189618054758400 then vD1_4 a1 a2 s1 s2 p z1 z2 er ok
  else bif Nat.beq p 4617315517961601024 then vD1_5 a1 a2 s1 s2 p z1 z2 er ok
  else bif Nat.beq p 4618441417868443648 then vD1_6 a1 a2 s1 s2 p z1 z2 er ok
  else bif Nat.beq p 4619567317775286272 then vD1_7 a1 a2 s1 s2 p z1 z2 er ok
  else bif Nat.beq p 4620693217682128896 then vD1_8 a1 a2 s1 s2 p z1 z2 er ok
  else none
def vC1 {R : Type} (a1 a2 s1 s2 p z1 z2 : Nat) (er : Int → Option R) (ok : Nat → Nat → Option R) : Option R :=
  bif Nat.beq p 4607182418800017408 then vC1_1 a1 a2 s1 s2 p z1 z2 er ok
  else bif Nat.beq p 4611686018427387904 then vC1_2 a1 a2 s1 s2 p z1 z2 er ok
  else bif Nat.beq p 4613937818241073152 then vC1_3 a1 a2 s1 s2 p z1 z2 er ok
  else bif Nat.beq p 4616189618054758400 then vC1_4 a1 a2 s1 s2 p z1 z2 er ok
  else vB1 a1 a2 s1 s2 p z1 z2 er ok
def spdK' {R : Type} (kind : Int) (a1 a2 s1 s2 p z1 z2 : Nat) (er : Int → Option R) (ok : Nat → Nat → Option R) : Option R :=
  bif kind == 1 then vS1 a1 a2 s1 s2 p z1 z2 er ok else bif kind == 2 then vO1 a1 a2 s1 s2 p z1 z2 er ok else bif kind == 3 then vD1 a1 a2 s1 s2 p z1 z2 er ok else bif kind == 4 then vC1 a1 a2 s1 s2 p z1 z2 er ok else none
def spdK : KVal := fun R kind a1 a2 s1 s2 p z1 z2 k => spdK' kind a1 a2 s1 s2 p z1 z2 (fun e => k 0 0 e) (fun x y => k x y 0)
def vS2 {R : Type} (a1 a2 s1 s2 p z1 z2 : Nat) (er : Int → Option R) (ok : Nat → Nat → Option R) : Option R := valP (checkB placeK withinK noughtK wholeK) placeK noughtK subK 1 p (fun x => x) a1 a2 s1 s2 z1 z2 er (fun d1 d2 => (toldE FiniteK er ok) 0 0) (fun d1 d2 => (toldE FiniteK er ok) 0 0)
def vO2 {R : Type} (a1 a2 s1 s2 p z1 z2 : Nat) (er : Int → Option R) (ok : Nat → Nat → Option R) : Option R := valO (checkB placeK withinK noughtK wholeK) placeK noughtK subK sclK a1 a2 s1 s2 p z1 z2 er (fun c1 c2 d1 d2 => negK R c1 c2 fun c1 c2 => wpowK R d1 d2 2 fun w1 w2 => divK R c1 c2 w1 w2 (toldE FiniteK er ok))
def vD2_1 {R : Type} (a1 a2 s1 s2 p z1 z2 : Nat) (er : Int → Option R) (ok : Nat → Nat → Option R) : Option R := valP (checkB placeK withinK noughtK wholeK) placeK noughtK subK 3 4607182418800017408 (fun x => x) a1 a2 s1 s2 z1 z2 er (fun _ _ => er 6) (fun d1 d2 => leafD divK sclK wpowK (some 4611686018427387904) 3 s1 s2 d1 d2 (toldE FiniteK er ok))
def vD2_2 {R : Type} (a1 a2 s1 s2 p z1 z2 : Nat) (er : Int → Option R) (ok : Nat → Nat → Option R) : Option R := valP (checkB placeK withinK noughtK wholeK) placeK noughtK subK 3 4611686018427387904 (fun x => x) a1 a2 s1 s2 z1 z2 er (fun _ _ => er 6) (fun d1 d2 => leafD divK sclK wpowK (some 4618441417868443648) 4 s1 s2 d1 d2 (toldE FiniteK er ok))
def vD2_3 {R : Type} (a1 a2 s1 s2 p z1 z2 : Nat) (er : Int → Option R) (ok : Nat → Nat → Option R) : Option R := valP (checkB placeK withinK noughtK wholeK) placeK noughtK subK 3 4613937818241073152 (fun x => x) a1 a2 s1 s2 z1 z2 er (fun _ _ => er 6) (fun d1 d2 => leafD divK sclK wpowK (some 4622945017495814144) 5 s1 s2 d1 d2 (toldE FiniteK er ok))
def vD2_4 {R : Type} (a1 a2 s1 s2 p z1 z2 : Nat) (er : Int → Option R) (ok : Nat → Nat → Option R) : Option R := valP (checkB placeK withinK noughtK wholeK) placeK noughtK subK 3 4616189618054758400 (fun x => x) a1 a2 s1 s2 z1 z2 er (fun _ _ => er 6) (fun d1 d2 => leafD divK sclK wpowK (some 4626322717216342016) 6 s1 s2 d1 d2 (toldE FiniteK er ok))
def vD2_5 {R : Type} (a1 a2 s1 s2 p z1 z2 : Nat) (er : Int → Option R) (ok : Nat → Nat → Option R) : Option R := valP (checkB placeK withinK noughtK wholeK) placeK noughtK subK 3 4617315517961601024 (fun x => x) a1 a2 s1 s2 z1 z2 er (fun _ _ => er 6) (fun d1 d2 => leafD divK sclK wpowK (some 4629137466983448576) 7 s1 s2 d1 d2 (toldE FiniteK er ok))
def vD2_6 {R : Type} (a1 a2 s1 s2 p z1 z2 : Nat) (er : Int → Option R) (ok : Nat → Nat → Option R) : Option R := valP (checkB placeK withinK noughtK wholeK) placeK noughtK subK 3 4618441417868443648 (fun x => x) a1 a2 s1 s2 z1 z2 er (fun _ _ => er 6) (fun d1 d2 => leafD divK sclK wpowK (some 4631107791820423168) 8 s1 s2 d1 d2 (toldE FiniteK er ok))
def vD2_7 {R : Type} (a1 a2 s1 s2 p z1 z2 : Nat) (er : Int → Option R) (ok : Nat → Nat → Option R) : Option R := valP (checkB placeK withinK noughtK wholeK) placeK noughtK subK 3 4619567317775286272 (fun x => x) a1 a2 s1 s2 z1 z2 er (fun _ _ => er 6) (fun d1 d2 => leafD divK sclK wpowK (some 4633078116657397760) 9 s1 s2 d1 d2 (toldE FiniteK er ok))
def vD2_8 {R : Type} (a1 a2 s1 s2 p z1 z2 : Nat) (er : Int → Option R) (ok : Nat → Nat → Option R) : Option R := valP (checkB placeK withinK noughtK wholeK) placeK noughtK subK 3 4620693217682128896 (fun x => x) a1 a2 s1 s2 z1 z2 er (fun _ _ => er 6) (fun d1 d2 => leafD divK sclK wpowK (some 4634766966517661696) 10 s1 s2 d1 d2 (toldE FiniteK er ok))
def vC2_1 {R : Type} (a1 a2 s1 s2 p z1 z2 : Nat) (er : Int → Option R) (ok : Nat → Nat → Option R) : Option R := valP (checkB placeK withinK noughtK wholeK) placeK noughtK subK 4 4607182418800017408 (wyK R 4607182418800017408) a1 a2 s1 s2 z1 z2 er (fun d1 d2 => (toldE FiniteK er ok) 0 0) (fun d1 d2 => (toldE FiniteK er ok) 0 0)
def vC2_2 {R : Type} (a1 a2 s1 s2 p z1 z2 : Nat) (er : Int → Option R) (ok : Nat → Nat → Option R) : Option R := valP (checkB placeK withinK noughtK wholeK) placeK noughtK subK 4 4611686018427387904 (wyK R 4611686018427387904) a1 a2 s1 s2 z1 z2 er (fun d1 d2 => leafC mulK sclK wpowK (some 4611686018427387904) 0 s1 s2 d1 d2 (toldE FiniteK er ok)) (fun d1 d2 => leafC mulK sclK wpowK (some 4611686018427387904) 0 s1 s2 d1 d2 (toldE FiniteK er ok))
def vC2_3 {R : Type} (a1 a2 s1 s2 p z1 z2 : Nat) (er : Int → Option R) (ok : Nat → Nat → Option R) : Option R := valP (checkB placeK withinK noughtK wholeK) placeK noughtK subK 4 4613937818241073152 (wyK R 4613937818241073152) a1 a2 s1 s2 z1 z2 er (fun d1 d2 => leafC mulK sclK wpowK (some 4618441417868443648) 1 s1 s2 d1 d2 (toldE FiniteK er ok)) (fun d1 d2 => leafC mulK sclK wpowK (some 4618441417868443648) 1 s1 s2 d1 d2 (toldE FiniteK er ok))
def vC2_4 {R : Type} (a1 a2 s1 s2 p z1 z2 : Nat) (er : Int → Option R) (ok : Nat → Nat → Option R) : Option R := valP (checkB placeK withinK noughtK wholeK) placeK noughtK subK 4 4616189618054758400 (wyK R 4616189618054758400) a1 a2 s1 s2 z1 z2 er (fun d1 d2 => leafC mulK sclK wpowK (some 4622945017495814144) 2 s1 s2 d1 d2 (toldE FiniteK er ok)) (fun d1 d2 => leafC mulK sclK wpowK (some 4622945017495814144) 2 s1 s2 d1 d2 (toldE FiniteK er ok))
def vB2 {R : Type} (a1 a2 s1 s2 p z1 z2 : Nat) (er : Int → Option R) (ok : Nat → Nat → Option R) : Option R := valP (checkB placeK withinK noughtK wholeK) placeK noughtK subK 4 p (wnK R p) a1 a2 s1 s2 z1 z2 er (fun _ _ => midB 4611686018427387904 p er) (fun d1 d2 => leafB2 mulK sclK realK p s1 s2 d1 d2 (toldE FiniteK er ok))
def vD2 {R : Type} (a1 a2 s1 s2 p z1 z2 : Nat) (er : Int → Option R) (ok : Nat → Nat → Option R) : Option R :=
  bif Nat.beq p 4607182418800017408 then vD2_1 a1 a2 s1 s2 p z1 z2 er ok
  else bif Nat.beq p 4611686018427387904 then vD2_2 a1 a2 s1 s2 p z1 z2 er ok
  else bif Nat.beq p 4613937818241073152 then vD2_3 a1 a2 s1 s2 p z1 z2 er ok
  else bif Nat.beq p 4616189618054758400 then vD2_4 a1 a2 s1 s2 p z1 z2 er ok
  else bif Nat.beq p 4617315517961601024 then vD2_5 a1 a2 s1 s2 p z1 z2 er ok
  else bif Nat.beq p 4618441417868443648 then vD2_6 a1 a2 s1 s2 p z1 z2 er ok
  else bif Nat.beq p 4619567317775286272 then vD2_7 a1 a2 s1 s2 p z1 z2 er ok
  else bif Nat.beq p 4620693217682128896 then vD2_8 a1 a2 s1 s2 p z1 z2 er ok
  else none
def vC2 {R : Type} (a1 a2 s1 s2 p z1 z2 : Nat) (er : Int → Option R) (ok : Nat → Nat → Option R) : Option R :=
  bif Nat.beq p 4607182418800017408 then vC2_1 a1 a2 s1 s2 p z1 z2 er ok
  else bif Nat.beq p 4611686018427387904 then vC2_2 a1 a2 s1 s2 p z1 z2 er ok
  else bif Nat.beq p 4613937818241073152 then vC2_3 a1 a2 s1 s2 p z1 z2 er ok
  else bif Nat.beq p 4616189618054758400 then vC2_4 a1 a2 s1 s2 p z1 z2 er ok
  else vB2 a1 a2 s1 s2 p z1 z2 er ok
def slpK' {R : Type} (kind : Int) (a1 a2 s1 s2 p z1 z2 : Nat) (er : Int → Option R) (ok : Nat → Nat → Option R) : Option R :=
  bif kind == 1 then vS2 a1 a2 s1 s2 p z1 z2 er ok else bif kind == 2 then vO2 a1 a2 s1 s2 p z1 z2 er ok else bif kind == 3 then vD2 a1 a2 s1 s2 p z1 z2 er ok else bif kind == 4 then vC2 a1 a2 s1 s2 p z1 z2 er ok else none
def slpK : KVal := fun R kind a1 a2 s1 s2 p z1 z2 k => slpK' kind a1 a2 s1 s2 p z1 z2 (fun e => k 0 0 e) (fun x y => k x y 0)
end Go.Vm
namespace Go.Vm
open Ieee
set_option linter.unusedVariables false
set_option linter.unusedSimpArgs false

/-! ### Words of numbers that are not small are the only ones -/
theorem dv_sign {s : Bool} {m : Nat} {i : Int} (h : 0 < dv s m i) : s = false := by
  cases s with
  | false => rfl
  | true =>
    have h1 : dv true m i ≤ 0 := by
      unfold dv sg
      have := Rat.mul_nonneg (show (0 : Rat) ≤ (m : Rat) by exact_mod_cast Nat.zero_le m) (Rat.le_of_lt (p2_pos i))
      simp only [if_true]
      grind
    grind
theorem dv_sign' {s : Bool} {m : Nat} {i : Int} (h : dv s m i < 0) : s = true := by
  cases s with
  | true => rfl
  | false =>
    have h1 : 0 ≤ dv false m i := by
      unfold dv sg
      have := Rat.mul_nonneg (show (0 : Rat) ≤ (m : Rat) by exact_mod_cast Nat.zero_le m) (Rat.le_of_lt (p2_pos i))
      simp only [Bool.false_eq_true, if_false]
      grind
    grind

theorem is_unique {a b : Nat} {x : Rat} (ha : Is a x) (hb : Is b x) (hx : 1 ≤ x.abs) : a = b := by
  have hlow : (2 : Rat) ^ (-1022 : Int) ≤ x.abs := Rat.le_trans (Rat.le_trans (p2_le (show (-1022 : Int) ≤ 0 by decide)) (by rw [show (2 : Rat) ^ (0 : Int) = 1 by simp]; exact Rat.le_refl)) hx
  obtain ⟨s, E, f, rfl, e1, e2, e3, hv⟩ := normal_fields ha hlow
  obtain ⟨t, F, g, rfl, f1, f2, f3, hw⟩ := normal_fields hb hlow
  have hst : s = t := by
    rcases Rat.le_total (a := x) (b := 0) with h | h
    · have hn : x < 0 := by
        rw [Rat.abs_of_nonpos h] at hx
        grind
      rw [dv_sign' (s := s) (m := 2 ^ 52 + f) (i := (E : Int) - 1075) (by rw [← hv]; exact hn), dv_sign' (s := t) (m := 2 ^ 52 + g) (i := (F : Int) - 1075) (by rw [← hw]; exact hn)]
    · have hn : 0 < x := by
        rw [Rat.abs_of_nonneg h] at hx
        grind
      rw [dv_sign (s := s) (m := 2 ^ 52 + f) (i := (E : Int) - 1075) (by rw [← hv]; exact hn), dv_sign (s := t) (m := 2 ^ 52 + g) (i := (F : Int) - 1075) (by rw [← hw]; exact hn)]
  subst hst
  obtain ⟨d1, d2⟩ := dv_band (s := s) (E := E) e3
  obtain ⟨d3, d4⟩ := dv_band (s := s) (E := F) f3
  rw [← hv] at d1 d2
  rw [← hw] at d3 d4
  have h1 := p2_lt_of (show (2 : Rat) ^ ((E : Int) - 1023) < (2 : Rat) ^ ((F : Int) - 1022) by grind)
  have h2 := p2_lt_of (show (2 : Rat) ^ ((F : Int) - 1023) < (2 : Rat) ^ ((E : Int) - 1022) by grind)
  have hEF : E = F := by omega
  subst hEF
  have habs : ((2 ^ 52 + f : Nat) : Rat) * (2 : Rat) ^ ((E : Int) - 1075) = ((2 ^ 52 + g : Nat) : Rat) * (2 : Rat) ^ ((E : Int) - 1075) := by
    have := congrArg Rat.abs (hv.symm.trans hw)
    rwa [dv_abs, dv_abs] at this
  have hfg : ((2 ^ 52 + f : Nat) : Rat) = ((2 ^ 52 + g : Nat) : Rat) := by
    have hp := p2_pos ((E : Int) - 1075)
    exact Rat.le_antisymm (Rat.le_of_mul_le_mul_right (by rw [habs]; exact Rat.le_refl) hp) (Rat.le_of_mul_le_mul_right (by rw [habs]; exact Rat.le_refl) hp)
  have : 2 ^ 52 + f = 2 ^ 52 + g := by exact_mod_cast hfg
  have : f = g := by omega
  subst this
  rfl

/-! ### Sums that come to nought -/
theorem total_zero {s t : Bool} {m n : Nat} {i j : Int} (h : dv s m i + dv t n j = 0) :
    signed s m (i - min i j).toNat + signed t n (j - min i j).toNat = 0 := by
  have e1 := signed_val s m (i - min i j).toNat
  have e2 := signed_val t n (j - min i j).toNat
  have k1 : (((i - min i j).toNat : Nat) : Int) = i - min i j := Int.toNat_of_nonneg (by omega)
  have k2 : (((j - min i j).toNat : Nat) : Int) = j - min i j := Int.toNat_of_nonneg (by omega)
  rw [k1] at e1
  rw [k2] at e2
  have p1 : (2 : Rat) ^ i = (2 : Rat) ^ (i - min i j) * (2 : Rat) ^ (min i j) := by rw [← p2_add]; congr 1; omega
  have p2 : (2 : Rat) ^ j = (2 : Rat) ^ (j - min i j) * (2 : Rat) ^ (min i j) := by rw [← p2_add]; congr 1; omega
  have hs : ((signed s m (i - min i j).toNat + signed t n (j - min i j).toNat : Int) : Rat) * (2 : Rat) ^ (min i j) = 0 * (2 : Rat) ^ (min i j) := by
    rw [Rat.zero_mul, ← h]
    unfold dv
    rw [p1, p2]
    push_cast
    rw [e1, e2]
    grind
  have hp := p2_pos (min i j)
  have h0 : ((signed s m (i - min i j).toNat + signed t n (j - min i j).toNat : Int) : Rat) = 0 :=
    Rat.le_antisymm (Rat.le_of_mul_le_mul_right (by rw [hs]; exact Rat.le_refl) hp) (Rat.le_of_mul_le_mul_right (by rw [hs]; exact Rat.le_refl) hp)
  exact_mod_cast h0

theorem sum_nought {s t : Bool} {m n : Nat} {i j : Int} (h : dv s m i + dv t n j = 0) (hst : (s && t) = false) :
    ((Datum.number s m i).sum (Datum.number t n j)).map double.write = some 0 := by
  have h0 := total_zero h
  simp only [Datum.sum, h0, if_true, hst, Option.map_some]
  rfl

theorem sub_nought {a b : Nat} {x : Rat} (ha : Is a x) (hb : Is b x) (h0 : x = 0 → a = 0) : fbF .sub a b = some 0 := by
  obtain ⟨_, s, m, i, h1, h2⟩ := ha
  obtain ⟨_, t, n, j, h3, h4⟩ := hb
  rw [fbF_eq]
  show ((double.read a).sum (double.read b).opposite).map double.write = some 0
  rw [h1, h3]
  show ((Datum.number s m i).sum (Datum.number (!t) n j)).map double.write = some 0
  refine sum_nought ?_ ?_
  · have : dv (!t) n j = - dv t n j := by unfold dv; rw [sg_not]; grind
    rw [this, h2, h4]; grind
  · by_cases hx : x = 0
    · have := h0 hx
      subst this
      have : double.read 0 = .number false 0 (-1074) := by decide
      rw [this] at h1
      injection h1 with q1 q2 q3
      rw [← q1]; rfl
    · rcases Rat.le_total (a := x) (b := 0) with h | h
      · have hn : x < 0 := by grind
        rw [dv_sign' (s := t) (m := n) (i := j) (by rw [h4]; exact hn)]
        simp
      · have hn : 0 < x := by grind
        rw [dv_sign (s := s) (m := m) (i := i) (by rw [h2]; exact hn)]
        rfl

theorem add_nought {a b : Nat} {x y : Rat} (ha : Is a x) (hb : Is b y) (hxy : x + y = 0) (h0 : x = 0 → a = 0) : fbF .add a b = some 0 := by
  obtain ⟨_, s, m, i, h1, h2⟩ := ha
  obtain ⟨_, t, n, j, h3, h4⟩ := hb
  rw [fbF_eq]
  show ((double.read a).sum (double.read b)).map double.write = some 0
  rw [h1, h3]
  refine sum_nought (by rw [h2, h4]; exact hxy) ?_
  by_cases hx : x = 0
  · have := h0 hx
    subst this
    have : double.read 0 = .number false 0 (-1074) := by decide
    rw [this] at h1
    injection h1 with q1 q2 q3
    rw [← q1]; rfl
  · rcases Rat.le_total (a := x) (b := 0) with h | h
    · have hn : 0 < y := by grind
      rw [dv_sign (s := t) (m := n) (i := j) (by rw [h4]; exact hn)]
      simp
    · have hn : 0 < x := by grind
      rw [dv_sign (s := s) (m := m) (i := i) (by rw [h2]; exact hn)]
      rfl

/-- a whole number's word, nought without a sign -/
def Wd (w : Nat) (n : Int) : Prop := Is w n ∧ (n = 0 → w = 0)
theorem wd_eq {a b : Nat} {n : Int} (ha : Wd a n) (hb : Wd b n) : a = b := by
  by_cases h : n = 0
  · rw [ha.2 h, hb.2 h]
  · refine is_unique ha.1 hb.1 ?_
    have h1 : (1 : Int) ≤ n ∨ n ≤ -1 := by omega
    rcases h1 with h1 | h1
    · have : (1 : Rat) ≤ (n : Rat) := by exact_mod_cast h1
      have := (abs_le_self (n : Rat)).1
      grind
    · have : (n : Rat) ≤ ((-1 : Int) : Rat) := by exact_mod_cast h1
      rw [show ((-1 : Int) : Rat) = -1 by norm_cast] at this
      have := (abs_le_self (n : Rat)).2
      grind
theorem wd_ofInt {n : Int} (h : n.natAbs < 2 ^ 53) : Wd (floatOfInt .f64 n) n := ⟨ofInt_is h, fun h => by subst h; decide⟩
theorem wd_add {a b : Nat} {x y : Int} (ha : Wd a x) (hb : Wd b y) (h : (x + y).natAbs < 2 ^ 53) : ∃ r, fbF .add a b = some r ∧ Wd r (x + y) := by
  obtain ⟨r, h1, h2⟩ := add_int ha.1 hb.1 h
  refine ⟨r, h1, h2, fun h0 => ?_⟩
  have := add_nought ha.1 hb.1 (by rw [← Rat.intCast_add, h0]; rfl) (fun hx => ha.2 (by exact_mod_cast hx))
  rw [h1] at this
  exact Option.some.inj this
theorem wd_sub {a b : Nat} {x y : Int} (ha : Wd a x) (hb : Wd b y) (h : (x - y).natAbs < 2 ^ 53) : ∃ r, fbF .sub a b = some r ∧ Wd r (x - y) := by
  obtain ⟨r, h1, h2⟩ := sub_int ha.1 hb.1 h
  refine ⟨r, h1, h2, fun h0 => ?_⟩
  have hxy : x = y := by omega
  subst hxy
  have := sub_nought ha.1 hb.1 (fun hx => ha.2 (by exact_mod_cast hx))
  rw [h1] at this
  exact Option.some.inj this
end Go.Vm
