/- A part of the evaluator and of what is told of floats; no conditions. Two runs side by side: sums, products and quotients of near words are near; no conditions. The share of a circulation times a stream, on words; no conditions. Two runs side by side: logarithms of near lengths are near; no conditions. What PanelHalves and its small functions compute, in Lean; no conditions. Lengths and units of ways by halves, finely rounded; no conditions. Points seen from a panel: how near the words come, how far the points lie, and how near the logarithms of two sights are; no conditions. Sums, products, quotients of complex words are near to those of their numbers; no conditions. -/
import Derived.Test.YtnbpfafngidimaaGreatVmU1
import Derived.Test.YtnbpfafngidimaaGreatVmP29
import Derived.Test.YtnbpfafngidimaaGreatVmP7
namespace Go.Vm
open Ieee
set_option linter.unusedVariables false
set_option linter.unusedSimpArgs false

/-! ### Numbers, or what is no number -/
def nnB {R : Type} (op : BinOp) (a b : Nat) (k : Option Nat → Option R) : Option R := match fbF op a b with
  | some n => forceN n fun n => k (some n)
  | none => k none
def nnV {R : Type} (op : BinOp) (p q : Option Nat) (k : Option Nat → Option R) : Option R := match p with
  | some a => (match q with
    | some b => nnB op a b k
    | none => k none)
  | none => k none
def opO (op : BinOp) (p q : Option Nat) : Option Nat := match p with
  | some a => (match q with
    | some b => fbF op a b
    | none => none)
  | none => none
theorem nnV_eq {R : Type} {op : BinOp} {p q : Option Nat} {k : Option Nat → Option R} : nnV op p q k = k (opO op p q) := by
  unfold nnV opO
  cases p with
  | none => rfl
  | some a =>
    cases q with
    | none => rfl
    | some b =>
      simp only
      unfold nnB
      cases h : fbF op a b with
      | none => rfl
      | some n => simp only [forceN_eq]
/-- no number, or beyond all -/
def Big (o : Option Nat) : Prop := ∀ w, o = some w → ∃ s, w < 2 ^ 64 ∧ double.read w = .infinity s
theorem big_none : Big none := fun w h => by cases h
theorem big_neg : Big (some 18442240474082181120) := fun w h => by cases h; exact ⟨true, by decide, by decide⟩
theorem write_inf (s : Bool) : double.read (double.write (.infinity s)) = .infinity s := by cases s <;> decide
theorem write_inf_lt (s : Bool) : double.write (.infinity s) < 2 ^ 64 := by cases s <;> decide
theorem big_write {d : Option Datum} (h : ∀ x, d = some x → ∃ s, x = .infinity s) : Big (d.map double.write) := fun w hw => by
  cases d with
  | none => cases hw
  | some x =>
    obtain ⟨s, rfl⟩ := h x rfl
    cases hw
    exact ⟨s, write_inf_lt s, write_inf s⟩
theorem big_opO {op : BinOp} {a b : Nat} {d : Option Datum} (h : fbF op a b = d.map double.write) (hd : ∀ x, d = some x → ∃ s, x = .infinity s) : Big (fbF op a b) := by rw [h]; exact big_write hd
theorem big_sub {p : Option Nat} {b : Nat} (hp : Big p) (hb : Fin b) : Big (opO .sub p (some b)) := by
  unfold opO
  cases p with
  | none => exact big_none
  | some a =>
    obtain ⟨s, _, ha⟩ := hp a rfl
    obtain ⟨y, _, t, m, i, hb, _⟩ := hb
    refine big_opO (d := (double.read a).sum (double.read b).opposite) (fbF_eq _ _ _) fun x hx => ?_
    rw [ha, hb] at hx
    cases hx
    exact ⟨_, rfl⟩
theorem big_sub' {p : Option Nat} {b : Nat} (hp : Big p) (hb : Fin b) : Big (opO .sub (some b) p) := by
  unfold opO
  cases p with
  | none => exact big_none
  | some a =>
    obtain ⟨s, _, ha⟩ := hp a rfl
    obtain ⟨y, _, t, m, i, hb, _⟩ := hb
    refine big_opO (d := (double.read b).sum (double.read a).opposite) (fbF_eq _ _ _) fun x hx => ?_
    rw [ha, hb] at hx
    cases hx
    exact ⟨_, rfl⟩
theorem big_sub2 {p q : Option Nat} (hp : Big p) (hq : Big q) : Big (opO .sub p q) := by
  unfold opO
  cases p with
  | none => exact big_none
  | some a =>
    cases q with
    | none => exact big_none
    | some b =>
      obtain ⟨s, _, ha⟩ := hp a rfl
      obtain ⟨t, _, hb⟩ := hq b rfl
      refine big_opO (d := (double.read a).sum (double.read b).opposite) (fbF_eq _ _ _) fun x hx => ?_
      rw [ha, hb] at hx
      simp only [Datum.opposite, Datum.sum] at hx
      split at hx
      · cases hx; exact ⟨_, rfl⟩
      · cases hx
theorem big_mul {p : Option Nat} {b : Nat} (hp : Big p) (hb : Fin b) : Big (opO .mul p (some b)) := by
  unfold opO
  cases p with
  | none => exact big_none
  | some a =>
    obtain ⟨s, _, ha⟩ := hp a rfl
    obtain ⟨y, _, t, m, i, hb, _⟩ := hb
    refine big_opO (d := (double.read a).product (double.read b)) (fbF_eq _ _ _) fun x hx => ?_
    rw [ha, hb] at hx
    simp only [Datum.product] at hx
    split at hx
    · cases hx
    · cases hx; exact ⟨_, rfl⟩
theorem big_mul' {p : Option Nat} {b : Nat} (hp : Big p) (hb : Fin b) : Big (opO .mul (some b) p) := by
  unfold opO
  cases p with
  | none => exact big_none
  | some a =>
    obtain ⟨s, _, ha⟩ := hp a rfl
    obtain ⟨y, _, t, m, i, hb, _⟩ := hb
    refine big_opO (d := (double.read b).product (double.read a)) (fbF_eq _ _ _) fun x hx => ?_
    rw [ha, hb] at hx
    simp only [Datum.product] at hx
    split at hx
    · cases hx
    · cases hx; exact ⟨_, rfl⟩
/-- whether it is finite -/
def finO (o : Option Nat) : Bool := match o with
  | some w => leF (absW w) 9218868437227405311
  | none => false
theorem finO_fin {w : Nat} (h : Fin w) : finO (some w) = true := by
  have := finiteK_yes (vl_is h) (R := Bool) some
  unfold finiteK finiteB absK at this
  have h2 : forceB (leF (absW w) 9218868437227405311) (fun t => some t) = some true := this
  rw [forceB_eq] at h2
  exact Option.some.inj h2
theorem finO_big {o : Option Nat} (h : Big o) : finO o = false := by
  cases o with
  | none => rfl
  | some w =>
    obtain ⟨s, h1, h2⟩ := h w rfl
    have hw : w = 2047 * 2 ^ 52 ∨ w = 2 ^ 63 + 2047 * 2 ^ 52 := by
      have e1 : double.signWeight = 2 ^ 63 := by decide
      have e2 : double.binade = 2 ^ 52 := by decide
      have e3 : double.infRung = 2047 * 2 ^ 52 := by decide
      unfold Format.read at h2
      simp only [e1, e2, e3] at h2
      split at h2
      · cases h2
      · split at h2
        · cases h2
        · split at h2
          · omega
          · cases h2
    rcases hw with rfl | rfl
    · decide
    · decide

/-! ### Logarithms of whatever is above nought -/
theorem lit_bv {E f : Nat} {p q : Nat} (hE1 : 1 ≤ E) (hE2 : E ≤ 1075) (hf : f < 2 ^ 52) (hq : 0 < q) (h : q * (2 ^ 52 + f) ≤ p * 2 ^ (1075 - E)) : Bv ((p : Rat) / (q : Rat)) (E * 2 ^ 52 + f) := by
  have hi := fields_is (s := false) (E := E) (f := f) hE1 (by omega) hf
  simp only [Bool.false_eq_true, if_false, Nat.zero_add] at hi
  refine ⟨_, hi, ?_⟩
  have e : (dv false (2 ^ 52 + f) ((E : Int) - 1075)) = ((2 ^ 52 + f : Nat) : Rat) * (2 : Rat) ^ (-((1075 - E : Nat) : Int)) := by
    unfold dv sg
    rw [show ((E : Int) - 1075) = -((1075 - E : Nat) : Int) by omega]
    simp
  rw [e]
  have p0 := p2_pos (-((1075 - E : Nat) : Int))
  have n0 : (0 : Rat) ≤ ((2 ^ 52 + f : Nat) : Rat) := by exact_mod_cast Nat.zero_le _
  have c := p2_cancel ((1075 - E : Nat) : Int)
  rw [p2_nat] at c
  rw [Rat.abs_of_nonneg (Rat.mul_nonneg n0 (Rat.le_of_lt p0))]
  have h' : ((q : Nat) : Rat) * ((2 ^ 52 + f : Nat) : Rat) ≤ ((p : Nat) : Rat) * ((2 ^ (1075 - E) : Nat) : Rat) := by exact_mod_cast h
  have q0 : (0 : Rat) < (q : Rat) := by exact_mod_cast hq
  have m := Rat.mul_le_mul_of_nonneg_right h' (Rat.le_of_lt p0)
  have e2 : ((2 ^ (1075 - E) : Nat) : Rat) * (2 : Rat) ^ (-((1075 - E : Nat) : Int)) = 1 := by
    exact c
  rw [Rat.mul_assoc, Rat.mul_assoc, e2, Rat.mul_one] at m
  rw [Rat.div_def]
  refine Rat.le_of_mul_le_mul_right (c := (q : Rat)) ?_ q0
  have e3 : (p : Rat) * (q : Rat)⁻¹ * (q : Rat) = (p : Rat) := by rw [Rat.mul_assoc, Rat.inv_mul_cancel _ (by grind), Rat.mul_one]
  rw [e3, Rat.mul_comm]
  exact m
theorem ln2_bv : Bv (7 / 10) 4604418534311723008 := by
  have := lit_bv (E := 1022) (f := 4604418534311723008 - 1022 * 2 ^ 52) (p := 7) (q := 10) (by decide) (by decide) (by decide) (by decide) (by decide)
  rw [show 1022 * 2 ^ 52 + (4604418534311723008 - 1022 * 2 ^ 52) = 4604418534311723008 by decide] at this
  exact this.mono (by rw [show ((7 : Nat) : Rat) = 7 from rfl, show ((10 : Nat) : Rat) = 10 from rfl]; exact Rat.le_refl)
theorem tau_bv : Bv (1592 / 10000) 4594902181429758083 := by
  have := lit_bv (E := 1020) (f := 4594902181429758083 - 1020 * 2 ^ 52) (p := 1592) (q := 10000) (by decide) (by decide) (by decide) (by decide) (by decide)
  rw [show 1020 * 2 ^ 52 + (4594902181429758083 - 1020 * 2 ^ 52) = 4594902181429758083 by decide] at this
  exact this.mono (by rw [show ((1592 : Nat) : Rat) = 1592 from rfl, show ((10000 : Nat) : Rat) = 10000 from rfl]; exact Rat.le_refl)
theorem restL_any {m : Nat} {v : Rat} {e : Int} (hm : Is m v) (h1 : 499 / 1000 ≤ v) (h2 : v ≤ 2004 / 1000) (he1 : -1101 ≤ e) (he2 : e ≤ 1101) : ∃ c, Bv 790 c ∧ ∀ (R : Type) (k : Nat → Option R), restL m e k = k c := by
  have bn : Bv 1101 (floatOfInt .f64 e) := ⟨e, ofInt_is (by omega), by have := int_abs_le (N := 1101) (n := e) (by omega); simpa using this⟩
  obtain ⟨h, g1, g2⟩ := bd_mul (b := 4604418534311723008) bn ln2_bv (C := 772) (by grind) (by grind)
  obtain ⟨l, l1, l2⟩ := bd_mul (b := 4461442080421002358) bn (bd_lit (e := -20) (B := 1 / 1000000) (by decide) (by
    have c := p2_cancel 20
    have : (2 : Rat) ^ (20 : Int) = 1048576 := by rw [show (20 : Int) = ((20 : Nat) : Int) by rfl, p2_nat]; rfl
    rw [this] at c
    generalize (2 : Rat) ^ (-20 : Int) = q at *
    grind)) (C := 1 / 100) (by grind) (by grind)
  obtain ⟨p, z, p1, p2, p3⟩ := sub_is hm is_oneI (lt_p2_1023 (x := v - ((1 : Int) : Rat)) (by rw [show ((1 : Int) : Rat) = 1 by norm_cast]; exact abs_le_iff.2 ⟨by grind, by grind⟩))
  have bp : Bv (1007 / 1000) p := ⟨z, p2, bd_rnd (A := 1004 / 1000) p3 (by rw [show ((1 : Int) : Rat) = 1 by norm_cast]; exact abs_le_iff.2 ⟨by grind, by grind⟩) (by grind)⟩
  obtain ⟨q, y, q1, q2, q3⟩ := add_is hm is_oneI (lt_p2_1023 (x := v + ((1 : Int) : Rat)) (by rw [show ((1 : Int) : Rat) = 1 by norm_cast]; exact abs_le_iff.2 ⟨by grind, by grind⟩))
  have hy : 1496 / 1000 ≤ y.abs := by
    have hc := q3.coarse
    have hs : (2 : Rat) ^ (-1075 : Int) ≤ 1 / 1000 := p2_small (by decide)
    rw [show ((1 : Int) : Rat) = 1 by norm_cast, Rat.abs_of_nonneg (x := v + 1) (by grind)] at hc
    have h2 := abs_le_iff.1 hc
    have h3 := (abs_le_self y).1
    generalize (2 : Rat) ^ (-1075 : Int) = q at *
    grind
  obtain ⟨f, f1, f2⟩ := bd_quo bp q2 hy (by grind) (Q := 674 / 1000) (C := 68 / 100) (by grind) (by grind) (by grind) (by grind)
  obtain ⟨o, o1, o2⟩ := oddK_val f2
  obtain ⟨x, x1, x2⟩ := bd_add l2 o1 (C := 9) (by grind) (by grind)
  obtain ⟨c, c1, c2⟩ := bd_add g2 x2 (C := 790) (by grind) (by grind)
  refine ⟨c, c2, fun R k => ?_⟩
  unfold restL
  rw [forceN_eq, bindF_eq g1, bindF_eq l1, bindF_eq p1, bindF_eq q1, bindF_eq f1, o2, bindF_eq x1, bindF_eq c1]
theorem logK_any {a : Nat} {x : Rat} (h : Is a x) (hx : 0 < x) : ∃ c, Bv 790 c ∧ ∀ (R : Type) (k : Nat → Option R), logK R a k = k c := by
  obtain ⟨w, n, v, iw, v1, v2, n1, n2, m1, m2, hf⟩ := frexpK_val h hx
  have start : ∀ (R : Type) (k : Nat → Option R), logK R a k = forceB (ltF w 4604544271217802189) fun t => match t with
      | true => bindF (fbF .mul 4611686018427387904 w) fun m => fiReal R (IntKind.i64.wrap (n - 1)) fun e => restL m e k
      | false => restL w n k := fun R k => by
    rw [logK_def, forceB_eq, neF_is h h]
    simp only [decide_true, Bool.not_true]
    rw [isInfPK_no h, forceB_eq]
    simp only
    rw [forceB_eq, ltF_is h is0, decide_eq_false (by grind)]
    simp only
    rw [forceB_eq, eqF_is h is0, decide_eq_false (by grind)]
    simp only
    rw [hf]
    rfl
  cases hl : ltF w 4604544271217802189 with
  | true =>
    have i2 : Is 4611686018427387904 ((2 : Int) : Rat) := by
      have := ofInt_is (n := 2) (by decide)
      rw [show floatOfInt .f64 2 = 4611686018427387904 by decide] at this
      exact this
    obtain ⟨m, u, m1', m2', m3⟩ := mul_is i2 iw (lt_p2_1023 (by rw [show ((2 : Int) : Rat) = 2 by norm_cast]; exact abs_le_iff.2 ⟨by grind, by grind⟩))
    have hc := m3.coarse
    have hs : (2 : Rat) ^ (-1075 : Int) ≤ 1 / 1000 := p2_small (by decide)
    rw [show ((2 : Int) : Rat) = 2 by norm_cast, Rat.abs_of_nonneg (x := 2 * v) (by grind)] at hc
    have h3 := abs_le_iff.1 hc
    obtain ⟨c, c1, c2⟩ := restL_any (e := n - 1) m2' (by generalize (2 : Rat) ^ (-1075 : Int) = q at *; grind) (by generalize (2 : Rat) ^ (-1075 : Int) = q at *; grind) (by omega) (by omega)
    refine ⟨c, c1, fun R k => ?_⟩
    rw [start, forceB_eq, hl]
    simp only
    rw [bindF_eq m1', fiReal_fair, wrapI (by omega) (by omega), c2]
  | false =>
    obtain ⟨c, c1, c2⟩ := restL_any (e := n) iw (by grind) (by grind) (by omega) (by omega)
    refine ⟨c, c1, fun R k => ?_⟩
    rw [start, forceB_eq, hl]
    simp only
    rw [c2]
theorem logK_zero {a : Nat} (h : Is a 0) {R : Type} (k : Nat → Option R) : logK R a k = k 18442240474082181120 := by
  rw [logK_def, forceB_eq, neF_is h h]
  simp only [decide_true, Bool.not_true]
  rw [isInfPK_no h, forceB_eq]
  simp only
  rw [forceB_eq, ltF_is h is0, decide_eq_false (by grind)]
  simp only
  rw [forceB_eq, eqF_is h is0, decide_eq_true rfl]
/-- a complex number's logarithm: its length's is a number, or that of nought -/
def LogOut (r : Nat) : Prop := Bv 790 r ∨ r = 18442240474082181120
theorem powLogK_any {a b : Nat} {x y : Rat} (ha : Is a x) (hb : Is b y) (hx : x.abs ≤ 1000) (hy : y.abs ≤ 1000) :
    ∃ r i, LogOut r ∧ Bv 16 i ∧ ∀ (R : Type) (k : Nat → Nat → Option R), powLogK R a b k = k r i := by
  obtain ⟨l, L, l1, l0, l2, l3, l4, l5⟩ := lengthK_pos ha hb hx hy (Rat.le_trans (p2_small (by decide)) (by grind)) (by
    have : (1000 : Rat) ≤ (2 : Rat) ^ (10 : Int) := by rw [show (10 : Int) = ((10 : Nat) : Int) by rfl, p2_nat]; decide
    exact Rat.le_trans this (p2_le (by decide)))
  obtain ⟨i, i1, i2⟩ := angleK_val hb ha
  by_cases hL : L = 0
  · subst hL
    refine ⟨_, i, .inr rfl, i1, fun R k => ?_⟩
    show lengthK R a b (fun l => logK R l fun x => angleK R b a fun y => k x y) = k _ i
    rw [l5, logK_zero l1, i2]
  · obtain ⟨r, r1, r2⟩ := logK_any l1 (by grind)
    refine ⟨r, i, .inl r1, i1, fun R k => ?_⟩
    show lengthK R a b (fun l => logK R l fun x => angleK R b a fun y => k x y) = k r i
    rw [l5, r2, i2]
end Go.Vm
namespace Go.Vm
open Ieee
set_option linter.unusedVariables false
set_option linter.unusedSimpArgs false

theorem div_bound {q y x A D Q : Rat} (e : q * y = x) (hx : x.abs ≤ A) (hy : D ≤ y.abs) (hD : 0 < D) (hQ : A ≤ Q * D) (hQ0 : 0 ≤ Q) : q.abs ≤ Q := by
  have h1 : q.abs * y.abs ≤ Q * y.abs := by
    rw [← abs_mul, e]
    have := Rat.mul_le_mul_of_nonneg_left hy hQ0
    grind
  exact Rat.le_of_mul_le_mul_right h1 (by grind)
/-! ### The series of the arctangent -/
/-! ### The angle whose tangent is told: near, and far -/
end Go.Vm
namespace Go.Vm
open Ieee
set_option linter.unusedVariables false
set_option linter.unusedSimpArgs false

theorem is_num {w m n : Nat} (hw : w < 2 ^ 64) (h : double.read w = .number false m (-(n : Int))) : Is w ((m : Rat) * (1 / ((2 ^ n : Nat) : Rat))) := by
  refine ⟨hw, false, m, -(n : Int), h, ?_⟩
  have e := p2_neg n
  unfold dv sg
  rw [if_neg (by decide), Rat.one_mul]
  have : ((2 ^ n : Nat) : Rat) ≠ 0 := fun z => by rw [z] at e; grind
  grind
end Go.Vm
namespace Go.Vm
open Ieee
set_option linter.unusedVariables false
set_option linter.unusedSimpArgs false

theorem int_le {n : Int} {N : Nat} {B : Rat} (h : n.natAbs ≤ N) (hB : ((N : Int) : Rat) = B) : ((n : Rat)).abs ≤ B := by rw [← hB]; exact int_abs_le h
/-! ### The share of the circulation times the stream -/
end Go.Vm
namespace Go.Vm
open Ieee
set_option linter.unusedVariables false
set_option linter.unusedSimpArgs false

theorem p2_m2 : (2 : Rat) ^ (-2 : Int) = 1 / 4 := by
  have h := p2_neg 2
  have e : ((2 ^ 2 : Nat) : Rat) = 4 := rfl
  rw [e] at h
  rw [show (-2 : Int) = -((2 : Nat) : Int) by rfl]
  grind
end Go.Vm
namespace Go.Vm
open Ieee
set_option linter.unusedVariables false

/-! ### PanelHalves -/
abbrev KCF1 := ∀ R : Type, Nat → Nat → Nat → Option R → Option R
def sCFB1 (g : KCF1) : Sum := fun R args k => match args with
  | [.complex .f64 a b, .float .f64 m] => g R a b m (k (.bool true))
  | _ => none
abbrev KFF1 := ∀ R : Type, Nat → Nat → Option R → Option R
def sFFB1 (g : KFF1) : Sum := fun R args k => match args with
  | [.float .f64 a, .float .f64 m] => g R a m (k (.bool true))
  | _ => none
abbrev KUn := ∀ R : Type, Nat → Nat → (Nat → Nat → Bool → Option R) → Option R
def sUn (g : KUn) : Sum := fun R args k => match args with
  | [.complex .f64 a b] => g R a b fun x y t => k (.tuple ⟨[.complex .f64 x y, .bool t]⟩)
  | _ => none
def sUnit (g : KCC) : Sum := fun R args k => match args with
  | [.complex .f64 a b] => g R a b fun x y => k (.tuple ⟨[.complex .f64 x y, .bool true]⟩)
  | _ => none
def unitB (fC : KC1) (gr : KCF) (scd : KCCI) (sq : KCF) (rt : KFF) : KUn := fun R a b k => fC R a b <| gr R a b fun g => forceB (eqF g 0) fun t => match t with
  | true => k 0 0 false
  | false => scd R a b fun x y _ => sq R x y fun s => rt R s fun l => bindF (fbF .quo x l) fun u => bindF (fbF .quo y l) fun v => k u v true
def whole17B (fi : Fi) : KIF := fun R n k => fi R (n.tmod 17) fun m => forceN (floatOfInt .f64 m) k
def whole17 : KIF := whole17B fiReal
def cfT (g : KCFB) : KCF1 := fun R a b m X => g R a b m (yesB X)
def ffT (g : KFFB) : KFF1 := fun R a m X => g R a m (yesB X)
def unT (g : KUn) : KCC := fun R a b k => g R a b fun x y t => match t with | true => k x y | false => none
end Go.Vm
namespace Go.Vm
open Ieee
set_option linter.unusedVariables false
set_option linter.unusedSimpArgs false

/-! ### Lengths, finely -/
def tn : Rat := (2 : Rat) ^ (-1074 : Int)
theorem tn_pos : 0 < tn := p2_pos _
theorem tn_small : tn ≤ eps * (1 / 1000000) := by
  unfold tn eps
  have h := p2_le (show (-1074 : Int) ≤ -51 + -20 by decide)
  rw [p2_add, p20m] at h
  have := p2_pos (-51)
  grind
theorem q4 : (2 : Rat) ^ (-53 : Int) = eps / 4 := by
  unfold eps
  have h1 := p2_half (-51)
  have h2 := p2_half (-52)
  rw [show (-51 - 1 : Int) = -52 by decide] at h1
  rw [show (-52 - 1 : Int) = -53 by decide] at h2
  grind
theorem Rnd.fine {x z : Rat} (h : Rnd x z) : (z - x).abs ≤ x.abs * (eps / 4) + tn := by
  have t := tn_pos
  have n := abs_nonneg x
  have m := Rat.mul_nonneg n (show 0 ≤ eps / 4 by have := eps_pos; grind)
  rcases h.near with g | g
  · rw [q4] at g; grind
  · have := p2_le (show (-1075 : Int) ≤ -1074 by decide)
    unfold tn at *
    grind
theorem Rnd2.fine {x z : Rat} (h : Rnd2 x z) : (z - x).abs ≤ x.abs * (eps / 2) + tn := by
  have t := tn_pos
  have n := abs_nonneg x
  have m := Rat.mul_nonneg n (show 0 ≤ eps / 2 by have := eps_pos; grind)
  have e : (2 : Rat) ^ (-52 : Int) = eps / 2 := by
    unfold eps
    have h1 := p2_half (-51)
    rw [show (-51 - 1 : Int) = -52 by decide] at h1
    grind
  rcases h.near with g | g
  · rw [e] at g; grind
  · unfold tn at *; grind
theorem sq_abs (x : Rat) : (x * x).abs = x * x := Rat.abs_of_nonneg (sq_nonneg x)
theorem sq_root {b1 b2 : Nat} {X Y : Rat} (h1 : Is b1 X) (h2 : Is b2 Y) (bx : X.abs ≤ 101 / 100) (by' : Y.abs ≤ 101 / 100) (lo : 2 / 5 ≤ X.abs ∨ 2 / 5 ≤ Y.abs) :
    ∃ s l T, (∀ (R : Type) (k : Nat → Option R), squareK R b1 b2 k = k s) ∧ (∀ (R : Type) (k : Nat → Option R), sqrtK R s k = k l) ∧ Is l T ∧ 0 < T ∧ (T * T - (X * X + Y * Y)).abs ≤ 8 / 5 * eps * (X * X + Y * Y) ∧ 4 / 25 ≤ X * X + Y * Y ∧ X * X + Y * Y ≤ 21 / 10 := by
  have sX := sq_le bx
  have sY := sq_le by'
  have nX := sq_nonneg X
  have nY := sq_nonneg Y
  have low : 4 / 25 ≤ X * X + Y * Y := by
    rcases lo with h | h
    · have := sq_ge h (by grind); grind
    · have := sq_ge h (by grind); grind
  obtain ⟨p, P, e1, i1, r1⟩ := mul_is h1 h1 (lt_big (by rw [sq_abs]; grind))
  obtain ⟨q, Q, e2, i2, r2⟩ := mul_is h2 h2 (lt_big (by rw [sq_abs]; grind))
  have f1 := r1.fine
  have f2 := r2.fine
  rw [sq_abs] at f1 f2
  have ep := eps_pos
  have el := eps_le
  have ts := tn_small
  have tp := tn_pos
  generalize hA : X * X = A at *
  generalize hB : Y * Y = B at *
  have eA := Rat.mul_le_mul_of_nonneg_left el nX
  have eB := Rat.mul_le_mul_of_nonneg_left el nY
  have a1 := abs_le_iff.1 f1
  have a2 := abs_le_iff.1 f2
  have aPQ : (P + Q).abs = P + Q := Rat.abs_of_nonneg (by grind)
  obtain ⟨s, S, e3, i3, r3⟩ := add_is i1 i2 (lt_big (by rw [aPQ]; grind))
  have f3 := r3.fine
  rw [aPQ] at f3
  have ePQ := Rat.mul_le_mul_of_nonneg_left el (show 0 ≤ P + Q by grind)
  have a3 := abs_le_iff.1 f3
  have hS1 : 1 / 10 ≤ S := by grind
  have hS2 : S ≤ 3 := by grind
  obtain ⟨l, T, e4, i4, t0, t1⟩ := sqrt_is i3 (by grind) (by
    have h6 := p2_le (show (10 : Int) ≤ 1000 by decide)
    have h8 : (2 : Rat) ^ (10 : Int) = 1024 := by rw [show (10 : Int) = ((10 : Nat) : Int) by rfl, p2_nat]; rfl
    grind) (by have := p2_small (show (-1000 : Int) ≤ -53 by decide); grind)
  have t1' : (T * T - S).abs ≤ S * eps := t1
  have a4 := abs_le_iff.1 t1'
  have eP : eps * P ≤ eps * (A * (1001 / 1000) + tn) := Rat.mul_le_mul_of_nonneg_left (by grind) (Rat.le_of_lt ep)
  have eQ : eps * Q ≤ eps * (B * (1001 / 1000) + tn) := Rat.mul_le_mul_of_nonneg_left (by grind) (Rat.le_of_lt ep)
  have eS : eps * S ≤ eps * ((A + B) * (1003 / 1000) + 4 * tn) := Rat.mul_le_mul_of_nonneg_left (by grind) (Rat.le_of_lt ep)
  have eT := Rat.mul_le_mul_of_nonneg_right el (Rat.le_of_lt tp)
  have eAB := Rat.mul_le_mul_of_nonneg_left low (Rat.le_of_lt ep)
  refine ⟨s, l, T, fun R k => ?_, fun R k => ?_, i4, t0, abs_le_iff.2 ⟨by grind, by grind⟩, low, by grind⟩
  · unfold squareK
    rw [bindF_eq e1, bindF_eq e2, bindF_eq e3]
  · unfold sqrtK
    rw [bindF_eq e4]
end Go.Vm
namespace Go.Vm
open Ieee
set_option linter.unusedVariables false
set_option linter.unusedSimpArgs false

theorem scaled_is {a b : Nat} {x y : Rat} (ha : Is a x) (hb : Is b y) (bx : x.abs ≤ 100) (by' : y.abs ≤ 100) (lo : 7 / 20 ≤ x.abs ∨ 7 / 20 ≤ y.abs) :
    ∃ (n : Int) (b1 b2 : Nat) (X Y : Rat), -1 ≤ n ∧ n ≤ 7 ∧ Is b1 X ∧ Is b2 Y ∧ Rnd (x * (2 : Rat) ^ (-n)) X ∧ Rnd (y * (2 : Rat) ^ (-n)) Y ∧ (x * (2 : Rat) ^ (-n)).abs ≤ 1 ∧ (y * (2 : Rat) ^ (-n)).abs ≤ 1 ∧
      (1 / 2 ≤ (x * (2 : Rat) ^ (-n)).abs ∨ 1 / 2 ≤ (y * (2 : Rat) ^ (-n)).abs) ∧ (∀ (R : Type) (k : Nat → Nat → Int → Option R), scaledK R a b k = k b1 b2 n) ∧
      ∃ g G, Is g G ∧ G ≠ 0 ∧ ∀ (R : Type) (k : Nat → Option R), greatestK R a b k = k g := by
  obtain ⟨g, G, hg, gx, gy, hG, hgk⟩ := greatestK_is ha hb
  have nx := abs_nonneg x
  have ny := abs_nonneg y
  have hG1 : 7 / 20 ≤ G := by rcases lo with h | h <;> grind
  have hG2 : G ≤ 100 := by rcases hG with h | h <;> grind
  have hG0 : G ≠ 0 := by grind
  have hGa : G.abs = G := Rat.abs_of_nonneg (by grind)
  obtain ⟨w, n, n1, n2, n3, n4, hfr⟩ := frexpK_is hg hG0
  rw [hGa] at n1 n2
  have n7 : n ≤ 7 := by
    refine Int.not_lt.1 fun h => ?_
    have h1 := p2_le (show (7 : Int) ≤ n - 1 by omega)
    have e7 : (2 : Rat) ^ (7 : Int) = 128 := by rw [show (7 : Int) = ((7 : Nat) : Int) by rfl, p2_nat]; rfl
    grind
  have nm : -1 ≤ n := by
    refine Int.not_lt.1 fun h => ?_
    have h1 := p2_le (show n ≤ -2 by omega)
    rw [p2_m2] at h1
    grind
  have pn := p2_pos (-n)
  have hcan : (2 : Rat) ^ n * (2 : Rat) ^ (-n) = 1 := p2_cancel n
  have hhalf : (2 : Rat) ^ (n - 1) * (2 : Rat) ^ (-n) = 1 / 2 := by
    have := p2_half n
    have h3 : (2 : Rat) ^ n * (2 : Rat) ^ (-n) = 2 * ((2 : Rat) ^ (n - 1) * (2 : Rat) ^ (-n)) := by rw [this]; grind
    grind
  have up : ∀ {u : Rat}, u.abs ≤ G → (u * (2 : Rat) ^ (-n)).abs ≤ 1 := fun {u} h1 => by
    rw [abs_mul, p2_abs]
    have g1 := Rat.mul_le_mul_of_nonneg_right (show u.abs ≤ (2 : Rat) ^ n by grind) (Rat.le_of_lt pn)
    rw [hcan] at g1
    exact g1
  have ux := up gx
  have uy := up gy
  have hlow : 1 / 2 ≤ (x * (2 : Rat) ^ (-n)).abs ∨ 1 / 2 ≤ (y * (2 : Rat) ^ (-n)).abs := by
    have := Rat.mul_le_mul_of_nonneg_right n1 (Rat.le_of_lt pn)
    rw [hhalf] at this
    rcases hG with h | h
    · left; rw [abs_mul, p2_abs, ← h]; exact this
    · right; rw [abs_mul, p2_abs, ← h]; exact this
  obtain ⟨r1, X, i1, q1, s1⟩ := scaleK_is (n := -n) ha (by omega) (by omega) (lt_p2_1023 (by grind))
  obtain ⟨r2, Y, i2, q2, s2⟩ := scaleK_is (n := -n) hb (by omega) (by omega) (lt_p2_1023 (by grind))
  refine ⟨n, r1, r2, X, Y, nm, n7, i1, i2, q1, q2, ux, uy, hlow, fun R k => ?_, g, G, hg, hG0, hgk⟩
  unfold scaledK scaledB
  rw [hgk, hfr]
  rw [show (0 - n) = -n by omega, wrapI (by omega) (by omega), s1, s2]
end Go.Vm
namespace Go.Vm
open Ieee
set_option linter.unusedVariables false
set_option linter.unusedSimpArgs false

theorem lengthK_pre {a b : Nat} {x y : Rat} (ha : Is a x) (hb : Is b y) {g : Nat} {G : Rat} (hg : Is g G) (hG0 : G ≠ 0) (hgk : ∀ (R : Type) (k : Nat → Option R), greatestK R a b k = k g) (R : Type) (k : Nat → Option R) :
    lengthK R a b k = scaledK R a b fun x y e => squareK R x y fun s => sqrtK R s fun r => scaleK R r e k := by
  unfold lengthK lengthB
  rw [isInfK_no ha, forceB_eq]
  simp only
  rw [isInfK_no hb, forceB_eq]
  simp only
  rw [isNanK_no ha, forceB_eq]
  simp only
  rw [isNanK_no hb, forceB_eq]
  simp only
  rw [hgk, forceB_eq, eqF_is hg is_zero, show ((0 : Int) : Rat) = 0 from rfl, decide_eq_false hG0]
theorem scale_ex {l : Nat} {T : Rat} {n : Int} (h : Is l T) (n1 : -1 ≤ n) (n2 : n ≤ 7) (h1 : 1 / 10 ≤ T) (h2 : T ≤ 2) : ∃ r, Is r (T * (2 : Rat) ^ n) ∧ ∀ (R : Type) (k : Nat → Option R), scaleK R l n k = k r := by
  have e7 : (2 : Rat) ^ (7 : Int) = 128 := by rw [show (7 : Int) = ((7 : Nat) : Int) by rfl, p2_nat]; rfl
  have p7 := p2_le n2
  rw [e7] at p7
  have pp := p2_pos n
  have tb := Rat.mul_le_mul_of_nonneg_left p7 (show 0 ≤ T by grind)
  have t0 := Rat.mul_nonneg (show 0 ≤ T by grind) (Rat.le_of_lt pp)
  obtain ⟨r, z, i, q, s⟩ := scaleK_is (n := n) h (by omega) (by omega) (lt_p2_1023 (abs_le_iff.2 ⟨by grind, by grind⟩))
  obtain ⟨K, e, k1, k2, k3, rfl⟩ := is_rep h
  have ke : -1073 ≤ e := by
    refine Int.not_lt.1 fun hc => ?_
    have g1 := p2_le (show e ≤ -1074 by omega)
    have g2 : ((K : Rat)).abs ≤ ((2 ^ 53 : Nat) : Rat) := by rw [int_abs]; exact nat_cast_le (by omega)
    have g3 := (abs_le_self (K : Rat)).1
    have g4 := Rat.mul_le_mul_of_nonneg_right (show (K : Rat) ≤ ((2 ^ 53 : Nat) : Rat) by grind) (Rat.le_of_lt (p2_pos e))
    have g5 := Rat.mul_le_mul_of_nonneg_left g1 (show (0 : Rat) ≤ ((2 ^ 53 : Nat) : Rat) by exact_mod_cast Nat.zero_le _)
    have g6 : ((2 ^ 53 : Nat) : Rat) * (2 : Rat) ^ (-1074 : Int) ≤ 1 / 1000 := by
      rw [← p2_nat, ← p2_add]
      exact p2_small (by decide)
    grind
  have ez := q.rep K (e + n) (by omega) (by omega) (by rw [p2_add]; grind)
  rw [ez] at i
  exact ⟨r, i, s⟩
theorem pos_of_sq {T N : Rat} (h0 : 0 < T) (h : N ≤ T * T) (hN : 1 / 100 ≤ N) : 1 / 10 ≤ T := by
  refine Rat.not_lt.1 fun hc => ?_
  have := mul_mono' (Rat.le_of_lt hc) (Rat.le_of_lt hc) (Rat.le_of_lt h0) (by grind)
  have := Rat.mul_lt_mul_of_pos_right hc h0
  grind
theorem le_of_sq {T N : Rat} (h0 : 0 < T) (h : T * T ≤ N) (hN : N ≤ 4) : T ≤ 2 := by
  refine Rat.not_lt.1 fun hc => ?_
  have := Rat.mul_lt_mul_of_pos_right hc h0
  grind
end Go.Vm
namespace Go.Vm
open Ieee
set_option linter.unusedVariables false
set_option linter.unusedSimpArgs false

/-! ### Length and unit of a way by halves -/
def UK : KCC := unT (unitB (fCT FiniteK) greatestK scaledK squareK sqrtK)
theorem quo_near {X T : Rat} {b l : Nat} (hb : Is b X) (hl : Is l T) (h1 : 1 / 10 ≤ T) (hX : X.abs ≤ 1) : ∃ u U, fbF .quo b l = some u ∧ Is u U ∧ (U * T - X).abs ≤ X.abs * (eps / 2) + tn * T := by
  have Tn : T ≠ 0 := by grind
  have q1 : X / T * T = X := by rw [Rat.div_def, Rat.mul_assoc, Rat.inv_mul_cancel _ Tn, Rat.mul_one]
  have b1 := div_bound (Q := 10) (A := 1) (D := 1 / 10) q1 hX (by rw [Rat.abs_of_nonneg (by grind)]; exact h1) (by grind) (by grind) (by grind)
  obtain ⟨u, U, e, i, r⟩ := div_is hb hl Tn (by
    have h6 := p2_le (show (10 : Int) ≤ 1022 by decide)
    have h8 : (2 : Rat) ^ (10 : Int) = 1024 := by rw [show (10 : Int) = ((10 : Nat) : Int) by rfl, p2_nat]; rfl
    grind)
  refine ⟨u, U, e, i, ?_⟩
  have f := Rat.mul_le_mul_of_nonneg_right r.fine (show 0 ≤ T by grind)
  have e1 : (U - X / T).abs * T = (U * T - X).abs := by
    rw [show U * T - X = (U - X / T) * T by grind, abs_mul, Rat.abs_of_nonneg (show 0 ≤ T by grind)]
  have e2 : (X / T).abs * T = X.abs := by
    have : (X / T).abs * T.abs = X.abs := by rw [← abs_mul, q1]
    rw [Rat.abs_of_nonneg (show 0 ≤ T by grind)] at this
    exact this
  rw [e1] at f
  generalize (X / T).abs = a at *
  have e3 : (a * (eps / 2) + tn) * T = a * T * (eps / 2) + tn * T := by
    rw [Rat.add_mul, Rat.mul_assoc, Rat.mul_comm (eps / 2), ← Rat.mul_assoc]
  rw [e3, e2] at f
  exact f
theorem half_abs {p : Int} (h : p ≠ 0) : (1 / 2 : Rat) ≤ ((p : Rat) / 2).abs := by
  rw [show ((p : Rat) / 2) = (p : Rat) * (1 / 2) by grind, abs_mul, Rat.abs_of_nonneg (x := (1 / 2 : Rat)) (by grind)]
  rcases int_ok p with g | g
  · exfalso
    have : ((p : Int) : Rat) = ((0 : Int) : Rat) := g
    exact h (int_eq_iff.1 this)
  · grind
theorem half_le {p : Int} (h : p.natAbs ≤ 128) : ((p : Rat) / 2).abs ≤ 64 := by
  have := int_le (N := 128) (B := 128) h rfl
  have a := abs_le_iff.1 this
  exact abs_le_iff.2 ⟨by grind, by grind⟩
theorem p2_m1 : (2 : Rat) ^ (-1 : Int) = 1 / 2 := by
  have := p2_half 0
  rw [Rat.zpow_zero, show (0 - 1 : Int) = -1 by decide] at this
  grind
theorem scale_un {E t Z T P : Rat} : (Z * E + t * T) * P = E * (Z * P) + t * (T * P) := by grind
theorem len_unit {a b : Nat} {p q : Int} (ha : Is a ((p : Rat) / 2)) (hb : Is b ((q : Rat) / 2)) (hp : p.natAbs ≤ 128) (hq : q.natAbs ≤ 128) (h0 : p ≠ 0 ∨ q ≠ 0) :
    ∃ l L u1 u2 U1 U2, Is l L ∧ 0 < L ∧ (L * L - ((p : Rat) / 2 * ((p : Rat) / 2) + (q : Rat) / 2 * ((q : Rat) / 2))).abs ≤ 8 / 5 * eps * ((p : Rat) / 2 * ((p : Rat) / 2) + (q : Rat) / 2 * ((q : Rat) / 2)) ∧ Is u1 U1 ∧ Is u2 U2 ∧
      (U1 * L - (p : Rat) / 2).abs ≤ eps / 2 * ((p : Rat) / 2).abs + tn * L ∧ (U2 * L - (q : Rat) / 2).abs ≤ eps / 2 * ((q : Rat) / 2).abs + tn * L ∧
      (∀ (R : Type) (k : Nat → Option R), lengthK R a b k = k l) ∧ ∀ (R : Type) (k : Nat → Nat → Option R), UK R a b k = k u1 u2 := by
  have bx := half_le hp
  have bY := half_le hq
  obtain ⟨n, b1, b2, X, Y, nm, n7, i1, i2, r1, r2, ux, uy, hlow, hs, g, G, hg, hG0, hgk⟩ := scaled_is ha hb (by grind) (by grind) (by
    rcases h0 with h | h
    · left; have := half_abs h; grind
    · right; have := half_abs h; grind)
  have ex : X = (p : Rat) / 2 * (2 : Rat) ^ (-n) := r1.rep p (-1 + -n) (by omega) (by omega) (by rw [p2_add, p2_m1]; grind)
  have ey : Y = (q : Rat) / 2 * (2 : Rat) ^ (-n) := r2.rep q (-1 + -n) (by omega) (by omega) (by rw [p2_add, p2_m1]; grind)
  generalize (p : Rat) / 2 = x at *
  generalize (q : Rat) / 2 = y at *
  rw [← ex] at ux hlow
  rw [← ey] at uy hlow
  obtain ⟨s, l, T, f1, f2, iT, T0, dT, N1, N2⟩ := sq_root i1 i2 (by grind) (by grind) (by rcases hlow with h | h <;> grind)
  have dT' := abs_le_iff.1 dT
  rw [eps_eq] at dT'
  have T1 := pos_of_sq T0 (N := 1 / 100) (by grind) (by grind)
  have T2 := le_of_sq T0 (N := 4) (by grind) (by grind)
  obtain ⟨r, iR, hR⟩ := scale_ex iT nm n7 T1 T2
  obtain ⟨c1, U1, e1, j1, d1⟩ := quo_near i1 iT T1 ux
  obtain ⟨c2, U2, e2, j2, d2⟩ := quo_near i2 iT T1 uy
  have pp := p2_pos n
  have hcan := p2_cancel n
  have bk : ∀ {Z z : Rat}, Z = z * (2 : Rat) ^ (-n) → Z * (2 : Rat) ^ n = z := fun {Z z} h => by
    rw [h, Rat.mul_assoc, Rat.mul_comm ((2 : Rat) ^ (-n)), hcan, Rat.mul_one]
  have kx := bk ex
  have ky := bk ey
  have ab : ∀ {Z z : Rat}, Z * (2 : Rat) ^ n = z → Z.abs * (2 : Rat) ^ n = z.abs := fun {Z z} h => by
    rw [← h, abs_mul, p2_abs]
  have un : ∀ {U Z z : Rat}, Z * (2 : Rat) ^ n = z → (U * T - Z).abs ≤ Z.abs * (eps / 2) + tn * T → (U * (T * (2 : Rat) ^ n) - z).abs ≤ eps / 2 * z.abs + tn * (T * (2 : Rat) ^ n) := fun {U Z z} h hd => by
    have m := Rat.mul_le_mul_of_nonneg_right hd (Rat.le_of_lt pp)
    have e3 : (U * T - Z).abs * (2 : Rat) ^ n = (U * (T * (2 : Rat) ^ n) - z).abs := by
      rw [← p2_abs n, ← abs_mul, p2_abs, ← h]
      congr 1
      grind
    rw [e3] at m
    rw [scale_un, ab h] at m
    exact m
  refine ⟨r, _, c1, c2, U1, U2, iR, Rat.mul_pos T0 pp, ?_, j1, j2, un kx d1, un ky d2, fun R k => ?_, fun R k => ?_⟩
  · have m := Rat.mul_le_mul_of_nonneg_right dT (show 0 ≤ (2 : Rat) ^ n * (2 : Rat) ^ n by exact Rat.mul_nonneg (Rat.le_of_lt pp) (Rat.le_of_lt pp))
    have ea : (T * T - (X * X + Y * Y)).abs * ((2 : Rat) ^ n * (2 : Rat) ^ n) = (T * (2 : Rat) ^ n * (T * (2 : Rat) ^ n) - (x * x + y * y)).abs := by
      rw [← kx, ← ky, ← Rat.abs_of_nonneg (show 0 ≤ (2 : Rat) ^ n * (2 : Rat) ^ n by exact Rat.mul_nonneg (Rat.le_of_lt pp) (Rat.le_of_lt pp)), ← abs_mul]
      congr 1
      grind
    rw [ea] at m
    have eb : 8 / 5 * eps * (X * X + Y * Y) * ((2 : Rat) ^ n * (2 : Rat) ^ n) = 8 / 5 * eps * (x * x + y * y) := by rw [← kx, ← ky]; grind
    rw [eb] at m
    exact m
  · rw [lengthK_pre ha hb hg hG0 hgk, hs, f1, f2, hR]
  · unfold UK unT unitB fCT
    rw [FiniteK_yes ha hb]
    show greatestK R a b _ = _
    rw [hgk, forceB_eq, eqF_is hg is_zero, show ((0 : Int) : Rat) = 0 from rfl, decide_eq_false hG0]
    simp only
    rw [hs, f1, f2, bindF_eq e1, bindF_eq e2]
end Go.Vm
namespace Go.Vm
open Ieee
set_option linter.unusedVariables false
set_option linter.unusedSimpArgs false

/-! ### A way turned by a unit -/
theorem le_of_sq_le {x y : Rat} (hy : 0 ≤ y) (h : x * x ≤ y * y) : x ≤ y := by
  refine Rat.not_lt.1 fun hc => ?_
  have h1 := Rat.mul_lt_mul_of_pos_right hc (show 0 < x by grind)
  have h2 := Rat.mul_le_mul_of_nonneg_left (Rat.le_of_lt hc) hy
  grind
end Go.Vm
namespace Go.Vm
open Ieee
set_option linter.unusedVariables false
set_option linter.unusedSimpArgs false

/-! ### Points seen from a panel -/
theorem eps6 : eps ≤ 1 / 1000000 := by rw [eps_eq]; grind
structure Pan (L w1 w2 : Rat) : Prop where
  pos : 0 < L
  near : (L * L - (w1 * w1 + w2 * w2)).abs ≤ 8 / 5 * eps * (w1 * w1 + w2 * w2)
theorem Pan.bounds {L w1 w2 : Rat} (h : Pan L w1 w2) : w1 * w1 + w2 * w2 ≤ L * L * (100001 / 100000) ∧ L * L ≤ (w1 * w1 + w2 * w2) * (100001 / 100000) ∧ (L * L - (w1 * w1 + w2 * w2)).abs ≤ 161 / 100 * eps * (L * L) := by
  obtain ⟨h1, h2⟩ := h
  have n1 := sq_nonneg w1
  have n2 := sq_nonneg w2
  have ep := eps_pos
  have e6 := eps6
  generalize w1 * w1 + w2 * w2 = N at *
  have f := abs_le_iff.1 h2
  have N0 : 0 ≤ N := by
    refine Rat.not_lt.1 fun hc => ?_
    have := abs_nonneg (L * L - N)
    have := Rat.mul_lt_mul_of_pos_right hc (show 0 < 8 / 5 * eps by grind)
    grind
  have m := Rat.mul_le_mul_of_nonneg_right e6 N0
  have a : N ≤ L * L * (100001 / 100000) := by grind
  refine ⟨a, by grind, Rat.le_trans h2 ?_⟩
  have := Rat.mul_le_mul_of_nonneg_left a (show 0 ≤ 8 / 5 * eps by grind)
  have := Rat.mul_nonneg (Rat.le_of_lt ep) (sq_nonneg L)
  grind
theorem Pan.sum {L w1 w2 : Rat} (h : Pan L w1 w2) : w1.abs + w2.abs ≤ 14143 / 10000 * L := by
  have b := h.bounds.1
  have p := h.pos
  refine le_of_sq_le (by grind) ?_
  have e1 : w1.abs * w1.abs = w1 * w1 := by rw [← abs_mul, sq_abs]
  have e2 : w2.abs * w2.abs = w2 * w2 := by rw [← abs_mul, sq_abs]
  have s := sq_nonneg (w1.abs - w2.abs)
  have l := Rat.mul_pos p p
  grind
end Go.Vm
namespace Go.Vm
open Ieee Cq
set_option linter.unusedVariables false
set_option linter.unusedSimpArgs false

/-! ### Complex words, near to complex fractions -/
theorem p40_eq : ((2 ^ 40 : Int) : Rat) = 1099511627776 := by rfl
theorem withinK_is {a : Nat} {x : Rat} (h : Is a x) (hb : x.abs ≤ 1000000) {R : Type} (k : Bool → Option R) : withinK R a 4787326403894837248 k = k true := by
  unfold withinK withinB absK
  show forceB (leF (absW a) 4787326403894837248) (fun t => k t) = k true
  rw [forceB_eq, leF_is (abs_is h) is_p40]
  have : x.abs ≤ ((2 ^ 40 : Int) : Rat) := by rw [p40_eq]; grind
  simp only [this, decide_true]
end Go.Vm
namespace Go.Vm
open Ieee
set_option linter.unusedVariables false
set_option linter.unusedSimpArgs false

/-! ### Halves of whole numbers -/
def Hv (w : Nat) (a : Int) : Prop := Is w ((a : Rat) / 2)
theorem hv_abs {a : Int} {N : Nat} {B : Rat} (h : a.natAbs ≤ N) (hN : ((N : Nat) : Rat) = 2 * B) : ((a : Rat) / 2).abs ≤ B := by
  have := int_le (N := N) (B := 2 * B) h hN
  have a := abs_le_iff.1 this
  exact abs_le_iff.2 ⟨by grind, by grind⟩
theorem n1000 : ((1000 : Nat) : Rat) = 2 * 500 := by
  rw [show ((1000 : Nat) : Rat) = 1000 from rfl]
  grind
theorem hv_sub {a b : Nat} {x y : Int} (ha : Hv a x) (hb : Hv b y) (h1 : x.natAbs ≤ 500) (h2 : y.natAbs ≤ 500) : ∃ r, fbF .sub a b = some r ∧ Hv r (x - y) := by
  have e : (x : Rat) / 2 - (y : Rat) / 2 = ((x - y : Int) : Rat) / 2 := by rw [Rat.intCast_sub]; grind
  have b0 := hv_abs (N := 1000) (a := x - y) (by omega) n1000
  obtain ⟨r, z, f, i, q⟩ := sub_is ha hb (lt_p2_1023 (by rw [e]; grind))
  have := q.rep (x - y) (-1) (by omega) (by omega) (by rw [p2_m1, e]; grind)
  rw [this, e] at i
  exact ⟨r, f, i⟩
theorem hv_add {a b : Nat} {x y : Int} (ha : Hv a x) (hb : Hv b y) (h1 : x.natAbs ≤ 500) (h2 : y.natAbs ≤ 500) : ∃ r, fbF .add a b = some r ∧ Hv r (x + y) := by
  have e : (x : Rat) / 2 + (y : Rat) / 2 = ((x + y : Int) : Rat) / 2 := by rw [Rat.intCast_add]; grind
  have b0 := hv_abs (N := 1000) (a := x + y) (by omega) n1000
  obtain ⟨r, z, f, i, q⟩ := add_is ha hb (lt_p2_1023 (by rw [e]; grind))
  have := q.rep (x + y) (-1) (by omega) (by omega) (by rw [p2_m1, e]; grind)
  rw [this, e] at i
  exact ⟨r, f, i⟩
theorem two_is : Is 4611686018427387904 (2 : Rat) := by
  have := is_num (w := 4611686018427387904) (m := 4503599627370496) (n := 51) (by decide) (by decide)
  have e : ((2 ^ 51 : Nat) : Rat) = 2251799813685248 := rfl
  have e2 : ((4503599627370496 : Nat) : Rat) = 4503599627370496 := rfl
  rw [e, e2] at this
  rw [show (2 : Rat) = 4503599627370496 * (1 / 2251799813685248) by grind]
  exact this
theorem p1022 {x : Rat} (h : x.abs ≤ 1000) : x.abs < (2 : Rat) ^ (1022 : Int) := by
  have h6 := p2_le (show (10 : Int) ≤ 1022 by decide)
  have h8 : (2 : Rat) ^ (10 : Int) = 1024 := by rw [show (10 : Int) = ((10 : Nat) : Int) by rfl, p2_nat]; rfl
  grind
/-- the half of a whole number -/
theorem int_half {a : Nat} {x : Int} (ha : Is a (x : Rat)) (h1 : x.natAbs ≤ 500) : ∃ r, fbF .quo a 4611686018427387904 = some r ∧ Hv r x := by
  have b0 := hv_abs (N := 1000) (a := x) (by omega) n1000
  obtain ⟨r, z, f, i, q⟩ := div_is ha two_is (by grind) (p1022 (by grind))
  have := q.rep x (-1) (by omega) (by omega) (by rw [p2_m1]; grind)
  rw [this] at i
  exact ⟨r, f, i⟩
theorem hv_within {a : Nat} {x : Int} (ha : Hv a x) (h1 : x.natAbs ≤ 500) {R : Type} (k : Bool → Option R) : withinK R a 4787326403894837248 k = k true :=
  withinK_is ha (by have := hv_abs (N := 1000) (a := x) (by omega) n1000; grind) k
theorem hv_Within {a b : Nat} {x y : Int} (ha : Hv a x) (hb : Hv b y) (h1 : x.natAbs ≤ 500) (h2 : y.natAbs ≤ 500) {R : Type} (k : Bool → Option R) : WithinK R a b 4787326403894837248 k = k true := by
  unfold WithinK WithinB
  rw [hv_within ha h1, forceB_eq]
  simp only
  rw [hv_within hb h2, forceB_eq]
end Go.Vm
